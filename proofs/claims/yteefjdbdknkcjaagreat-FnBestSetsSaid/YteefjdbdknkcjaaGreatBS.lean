/- Draws of fields in which one site replaces another, and of swaps. -/
import Derived.Test.YteefjdbdknkcjaaGreatFA
import Derived.Test.YteefjdbdknkcjaaGreatEA
import Derived.Test.YteefjdbdknkcjaaGreatA3
namespace Go.Proofs.YteefjdbdknkcjaaGreat
open Go.Vc
set_option maxRecDepth 100000
set_option maxHeartbeats 1600000
set_option linter.unusedSimpArgs false
set_option linter.unusedVariables false

def g_drawSwap : List AV -> Heap -> Prop × (Z -> Prop × AV × Heap)
  | [.bytes code], [] => (code.length <= 1000000000, fun z => (Bdd z.xs z.xss /\ z.ys.length <= 1000 /\ RK .i64 z.n /\ RK .i64 z.k, .tup [.agg [.ints z.xs, .rows z.xss], .ints z.ys, .int .i64 z.n, .int .i64 z.k], []))
  | _, _ => (False, fun _ => (False, .undef, []))
theorem g_drawSwap_eq (code : List UInt8) : g_drawSwap [.bytes code] [] = (code.length <= 1000000000, fun z => (Bdd z.xs z.xss /\ z.ys.length <= 1000 /\ RK .i64 z.n /\ RK .i64 z.k, .tup [.agg [.ints z.xs, .rows z.xss], .ints z.ys, .int .i64 z.n, .int .i64 z.k], [])) := (rfl)
theorem drawSwap_ok (code : List UInt8) (hp : code.length <= 1000000000) : SpecZ Tryz.prog 35 [.bytes code] [] 0 (fun z => (Bdd z.xs z.xss /\ z.ys.length <= 1000 /\ RK .i64 z.n /\ RK .i64 z.k, .tup [.agg [.ints z.xs, .rows z.xss], .ints z.ys, .int .i64 z.n, .int .i64 z.k], [])) := by
  refine fun_okZ (C := t_fieldD ++ t_sitesD ++ t_pickD) (hint := hintX [2, 7, 11] [(3, [.fz [13], .frb 7])] 0 [72, 1000072, 86, 1000086, 75, 1000075] [] [(4, [2, 0, 1, 4, 7, 9, 3, 5, 6, 8, 10, 11, 12, 13, 14, 15])] [(4, [1, 6, 0, 0, 1, 0, 0, 1, 0, 0, 0])]) (((t_fieldD_ok).append t_sitesD_ok).append t_pickD_ok) mixed Tryz.func35 rfl (by kernel_rfl) rfl (Nat.le_refl _) (by decide) (upTo_look (k := 0) rfl) ?_
  show codeA _ _ _ _ _ _ _ _
  simp only [go_sem, Tryz.results35]
  refine ⟨⟨hp, by omega⟩, fun z hz => ⟨⟨hp, by omega, hz.1.1⟩, fun z1 h1 => ?_⟩⟩
  refine ⟨⟨hp, by omega, by omega⟩, fun z2 h2 => ⟨⟨hp, by omega, by omega⟩, fun z3 h3 => ?_⟩⟩
  refine ⟨by omega, by omega, ⟨hp, by omega, by omega⟩, fun z4 h4 => ⟨by omega, ⟨hp, by omega, by omega⟩, fun z5 h5 => ⟨by omega, by omega, by omega, by omega, by omega, by omega, { xs := z.xs, xss := z.xss, ys := z1.xs, n := z2.n - z3.n, k := z4.n - z5.n }, ⟨hz.1, h1.1, (by dsimp only; omega), (by dsimp only; omega)⟩, ⟨rfl, rfl⟩, rfl, rfl, rfl⟩⟩⟩
def t_drawSwap : Table := [(35, zC 0 0 g_drawSwap)]
theorem t_drawSwap_ok : TabOK Tryz.prog t_drawSwap := .cons Tryz.func35 (by kernel_rfl) (.z (by decide) (by intro args pre _ hp; unfold g_drawSwap at hp ⊢; split at hp <;> first | exact hp.elim | exact ⟨fun z hz => ⟨rfl, fun r hr => absurd hr (Nat.not_lt_zero _)⟩, drawSwap_ok _ hp⟩)) (.nil _)
attribute [go_sem] g_drawSwap_eq t_drawSwap
def g_drawNeeded : List AV -> Heap -> Prop × (Z -> Prop × AV × Heap)
  | [.bytes code], [] => (code.length <= 1000000000, fun z => (Bdd z.xs z.xss, .agg [.ints z.xs, .rows z.xss], []))
  | _, _ => (False, fun _ => (False, .undef, []))
theorem g_drawNeeded_eq (code : List UInt8) : g_drawNeeded [.bytes code] [] = (code.length <= 1000000000, fun z => (Bdd z.xs z.xss, .agg [.ints z.xs, .rows z.xss], [])) := (rfl)
theorem drawNeeded_ok (code : List UInt8) (hp : code.length <= 1000000000) : SpecZ Tryz.prog 27 [.bytes code] [] 0 (fun z => (Bdd z.xs z.xss, .agg [.ints z.xs, .rows z.xss], [])) := by
  refine fun_okZ (C := t_fieldD ++ t_l2Good ++ t_oneD ++ t_pickD ++ t_least2) (hint := hintX [2, 4, 9] [(10, [.post, .fz [61]])] 0 [72, 1000072, 73, 1000073, 75, 1000075] [] [(9, [14, 0, 1, 2, 3, 4, 5, 6, 7, 8, 9, 10, 11, 12, 13, 15, 16, 17, 18, 19, 20])] [(9, [1, 15, 0, 0, 0, 0])]) (((((t_fieldD_ok).append t_l2Good_ok).append t_oneD_ok).append t_pickD_ok).append t_least2_ok) mixed Tryz.func27 rfl (by kernel_rfl) rfl (Nat.le_refl _) (by decide) (upTo_look (k := 0) rfl) ?_
  show codeA _ _ _ _ _ _ _ _
  simp only [go_sem, Tryz.results27]
  refine ⟨⟨hp, by omega⟩, fun z hz => ?_⟩
  obtain ⟨hB, ha⟩ := hz
  generalize z.xs = o at *
  generalize z.xss = d at *
  obtain ⟨hB1, hB2, hB3⟩ := hB
  have fin : ∃ z : Z, Bdd z.xs z.xss /\ AV.ints o = AV.ints z.xs /\ AV.rows d = AV.rows z.xss := ⟨{ xs := o, xss := d }, ⟨hB1, hB2, hB3⟩, rfl, rfl⟩
  refine ⟨⟨by omega, by omega, fun x hx => by have := hB3 x hx; omega⟩, partB_intro (fun hg => fork_intro (fun hn => ⟨⟨hp, by omega, by omega⟩, fun z1 h1 => fork_intro (fun h0 => ⟨by omega, by omega, by omega, ?_⟩) (fun h0 => fin)⟩) (fun hn => fin)) (fun hg => fin)⟩
  have hf := good_iff.1 hg
  have h7 := hf.n7
  have hm7 := hf.m7
  refine loop_intro (fun g : Nat × List (List Int) × Int × Int => [(6, .int .i64 g.1), (5, .int .i64 o.length), (4, .bx 6 0), (3, .bx 1 0), (2, .bx 0 0)]) (fun g => [(6, .box [.sl 4, .mt 5]), (4, .arr (.ints (o.set ((o.length : Int) - 1).toNat (ix o 0)))), (5, .mat g.2.1), (1, .box [.bytes code, .int .i64 g.2.2.1, .int .u64 g.2.2.2]), (0, .box [.nils, .nils])]) 7 (fun g => (g.1 <= d.length /\ g.2.1.length = d.length) /\ (∀ k : Nat, k < d.length -> (ix g.2.1 (k : Int)).length = o.length) /\ (∀ k : Nat, g.1 <= k -> k < d.length -> ix g.2.1 (k : Int) = ix d (k : Int)) /\ 0 <= g.2.2.1 /\ g.2.2.1 <= 1100 + 2 * g.1) (fun g => d.length - g.1) (0, d, z1.a, z1.s) ⟨⟨Nat.zero_le _, rfl⟩, fun k hk => hf.d_len (by omega) (by omega), fun k _ _ => rfl, (by show 0 <= z1.a; omega), (by show z1.a <= 1100 + 2 * ((0 : Nat) : Int); omega)⟩ (by omega) ?_ ?_
  · simp only [go_sem]
    repeat' (first | refine fork_intro (fun hb => ?_) (fun hb => ?_) | refine partB_intro (fun hb => ?_) (fun hb => ?_) | refine And.intro ?_ ?_)
    all_goals first | exact True.intro | omega | with_reducible rfl | exact congrArg (AV.int _) (by omega) | (first | rfl)
  · rintro ⟨i, ys, a, s⟩ ⟨⟨hi, hl⟩, hr, hs, ha0, ha1⟩
    dsimp only at hi hl hr hs ha0 ha1
    simp only [go_sem]
    refine fork_intro (fun hc => ?_) (fun hc => ?_)
    · have hri := hr i (by omega)
      have hsi := hs i (by omega) (by omega)
      have hd0 := hf.d_ix (show (0 : Int) <= (i : Int) by omega) (show (i : Int) < d.length by omega) (show (0 : Int) <= 0 by omega) (show (0 : Int) < o.length by omega)
      rw [hsi] at hri ⊢
      repeat' (first | omega | (with_reducible refine And.intro ?_ ?_))
      intro z2 h2
      repeat' (first | omega | (with_reducible refine And.intro ?_ ?_))
      have hset : ∀ k : Nat, k < d.length -> ix (ys.set i ((ix d (i : Int)).set ((o.length : Int) - 1).toNat (min (ix (ix d (i : Int)) 0 + z2.n / 2) 99))) (k : Int) = if k = i then (ix d (i : Int)).set ((o.length : Int) - 1).toNat (min (ix (ix d (i : Int)) 0 + z2.n / 2) 99) else ix ys (k : Int) := fun k _ => ix_set ys _ (by omega) k
      refine LoopEnd.intro (i + 1, ys.set i ((ix d (i : Int)).set ((o.length : Int) - 1).toNat (min (ix (ix d (i : Int)) 0 + z2.n / 2) 99)), z2.a, z2.s) ⟨⟨by dsimp only; omega, by simpa using hl⟩, fun k hk => ?_, fun k h1 h2 => ?_, (by show 0 <= z2.a; omega), (by show z2.a <= 1100 + 2 * ((i + 1 : Nat) : Int); omega)⟩ ?_ ?_ ?_
      · show (ix (ys.set i _) _).length = _
        rw [hset k hk]
        split
        · rw [List.length_set, hri]
        · exact hr k hk
      · show ix (ys.set i _) _ = _
        have h1 : i + 1 <= k := h1
        rw [hset k h2, if_neg (by omega)]
        exact hs k (by omega) h2
      · show d.length - (i + 1) < d.length - i
        omega
      · omega
      · simp only [go_sem]
        repeat' (first | refine fork_intro (fun hb => ?_) (fun hb => ?_) | refine partB_intro (fun hb => ?_) (fun hb => ?_) | refine And.intro ?_ ?_)
        all_goals first | trivial | rfl | omega
    · exact ⟨{ xs := o.set ((o.length : Int) - 1).toNat (ix o 0), xss := ys }, ⟨by simpa using hB1, by dsimp only; omega, fun x hx => by
        have hx : x ∈ ys := hx
        obtain ⟨k, hk, e⟩ := List.mem_iff_getElem.1 hx
        have e2 := ix_some ys hk
        rw [List.getElem?_eq_getElem hk, e] at e2
        have := hr k (by omega)
        rw [Option.some.inj e2]
        omega⟩, rfl, rfl⟩
def t_drawNeeded : Table := [(27, zC 0 0 g_drawNeeded)]
theorem t_drawNeeded_ok : TabOK Tryz.prog t_drawNeeded := .cons Tryz.func27 (by kernel_rfl) (.z (by decide) (by intro args pre _ hp; unfold g_drawNeeded at hp ⊢; split at hp <;> first | exact hp.elim | exact ⟨fun z hz => ⟨rfl, fun r hr => absurd hr (Nat.not_lt_zero _)⟩, drawNeeded_ok _ hp⟩)) (.nil _)
attribute [go_sem] g_drawNeeded_eq t_drawNeeded
def g_rPart : List AV -> Prop × AV
  | [.ints xs, .ints ys] => (xs.length <= 1048576000 /\ ys.length <= 1048576000, .bool (xs.all fun x => decide (x ∈ ys)))
  | _ => (False, .undef)
theorem g_rPart_eq (xs ys : List Int) : g_rPart [.ints xs, .ints ys] = (xs.length <= 1048576000 /\ ys.length <= 1048576000, .bool (xs.all fun x => decide (x ∈ ys))) := (rfl)
theorem rPart_ok (xs ys : List Int) (hp : xs.length <= 1048576000 /\ ys.length <= 1048576000) : SpecOK Tryz.prog 39 [.ints xs, .ints ys] (.bool (xs.all fun x => decide (x ∈ ys))) [] := by
  refine fun_ok (C := t_rHas) (hint := hintX [] [] 0 [] [] [] []) (t_rHas_ok) mixed Tryz.func39 rfl (by kernel_rfl) rfl ?_
  show codeA _ _ _ _ _ _ _ _
  simp only [go_sem, Tryz.results39]
  refine loop_intro (fun k : Nat => [(0, .ints xs), (1, .ints ys), (5, .int .i64 k)]) (fun _ => []) 0 (fun k => k <= xs.length /\ ∀ j : Nat, j < k -> ix xs (j : Int) ∈ ys) (fun k => xs.length - k) 0 ⟨Nat.zero_le _, fun j h => absurd h (Nat.not_lt_zero _)⟩ (by omega) ?_ ?_
  · simp only [go_sem]
    repeat' (first | refine fork_intro (fun hb => ?_) (fun hb => ?_) | refine partB_intro (fun hb => ?_) (fun hb => ?_) | refine And.intro ?_ ?_)
    all_goals first | exact True.intro | omega | with_reducible rfl | exact congrArg (AV.int _) (by omega) | (first | rfl)
  · rintro k ⟨hk, ht⟩
    simp only [go_sem]
    refine fork_intro (fun hc => ?_) (fun hc => ?_)
    · refine ⟨by omega, by omega, fork_intro (fun hd => ?_) (fun hd => ?_)⟩
      · have ht' : ∀ j : Nat, j < k + 1 -> ix xs (j : Int) ∈ ys := fun j hj => by
          by_cases e : j = k
          · rw [e]; exact hd
          · exact ht j (by omega)
        repeat' (first | refine fork_intro (fun hb => ?_) (fun hb => ?_) | refine partB_intro (fun hb => ?_) (fun hb => ?_) | refine And.intro ?_ ?_)
        all_goals first | exact True.intro | omega | with_reducible rfl | exact congrArg (AV.int _) (by omega) | (refine LoopEnd.intro (k + 1) (by first | omega | (first | exact ⟨by omega, ht'⟩)) (by first | omega | (dsimp only; omega)) (by omega) ?_; simp only [go_sem]; (repeat' (first | refine fork_intro (fun hb => ?_) (fun hb => ?_) | refine partB_intro (fun hb => ?_) (fun hb => ?_) | refine And.intro ?_ ?_)); all_goals first | exact True.intro | omega | with_reducible rfl | exact congrArg (AV.int _) (by omega) | (first | rfl)) | (first | rfl)
      · have e : (xs.all fun x => decide (x ∈ ys)) = false := by
          rw [List.all_eq_false]
          exact ⟨_, ix_mem xs (show k < xs.length by omega), by simpa using hd⟩
        rw [e]
    · have e : (xs.all fun x => decide (x ∈ ys)) = true := by
        rw [List.all_eq_true]
        intro x hx
        obtain ⟨j, hj, rfl⟩ := mem_ix hx
        exact decide_eq_true (ht j (by omega))
      rw [e]
def t_rPart : Table := [(39, pureC g_rPart)]
theorem t_rPart_ok : TabOK Tryz.prog t_rPart := .cons Tryz.func39 (by kernel_rfl) (.pure (by intro args hp; unfold g_rPart at hp ⊢; split at hp <;> first | exact hp.elim | exact rPart_ok _ _ hp)) (.nil _)
attribute [go_sem] g_rPart_eq t_rPart
end Go.Proofs.YteefjdbdknkcjaaGreat
