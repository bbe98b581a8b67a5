/- The growth set in the package. -/
import Derived.Test.YtibomnplkclkmaaA36
namespace Go.Proofs.Ytibomnplkclkmaa
open Go.Vc
set_option maxRecDepth 100000
set_option maxHeartbeats 1600000
set_option linter.unusedSimpArgs false
set_option linter.unusedVariables false

theorem idxG_at {p : Int → Bool} : ∀ {xs : List Int} {s : Int} {k : Nat}, k < xs.length → p (ix xs (k : Int)) = true → (∀ q : Nat, q < k → p (ix xs (q : Int)) = false) → idxG p xs s = s + k
  | [], s, k, h, _, _ => by simp at h
  | x :: r, s, 0, h, h1, _ => by
    have e : ix (x :: r) ((0 : Nat) : Int) = x := rfl
    rw [e] at h1
    unfold idxG
    rw [if_pos h1]; simp
  | x :: r, s, k + 1, h, h1, h2 => by
    have e : ix (x :: r) ((0 : Nat) : Int) = x := rfl
    have h0 := h2 0 (by omega)
    rw [e] at h0
    have es : ∀ q : Nat, q < r.length → ix (x :: r) ((q + 1 : Nat) : Int) = ix r (q : Int) := fun q hq => by
      have a1 := ix_some (x :: r) (k := q + 1) (by simp; omega)
      have a2 := ix_some r hq
      rw [List.getElem?_cons_succ, a2] at a1
      exact (Option.some.inj a1).symm
    have hk : k < r.length := by simpa using h
    unfold idxG
    rw [if_neg (by rw [h0]; decide), idxG_at (xs := r) (s := s + 1) (k := k) hk (by rw [← es k hk]; exact h1) (fun q hq => by rw [← es q (by omega)]; exact h2 (q + 1) (by omega))]
    omega
theorem idx_chp {o : List Int} (h : 0 < o.length) : idxG (fun x => decide (x = minL o)) o 0 = (chpF o o.length : Nat) := by
  obtain ⟨h1, h2, h3⟩ := chp_fact o o.length (by omega)
  have hm := minL_mem h
  have e : minL o = ix o (chpF o o.length : Int) := by
    have g1 := (minL_ge h (minL o)).1 (Int.le_refl _) _ (ix_mem o h1)
    have g2 := (minL_ge h (ix o (chpF o o.length : Int))).2 (fun x hx => by
      obtain ⟨q, hq⟩ := List.mem_iff_getElem?.1 hx
      have hlt := (List.getElem?_eq_some_iff.1 hq).1
      rw [ix_some o hlt] at hq
      cases hq
      exact h2 q hlt)
    omega
  rw [idxG_at h1 (decide_eq_true e.symm) (fun q hq => decide_eq_false (by have := h3 q hq; omega))]
  omega
theorem gset_len {o : List Int} {d : List (List Int)} (hf : FieldOK o d) : (gsetL o d).length ≤ 7 := by
  have hn := hf.n7
  have hR := ripe_len (grown o d).t o.length
  unfold gsetL
  split
  · simp
  · rw [insF_len]
    have := keepL_len (cnfX d (grown o d).p) (ripeL (grown o d).t o.length) (ripeL (grown o d).t o.length).length
    omega
def g_cheapI : List AV → Prop × AV
  | [.agg [.ints o, .rows d]] => (FieldOK o d, .int .i64 (chpF o o.length : Nat))
  | _ => (False, .undef)
theorem g_cheapI_eq (o : List Int) (d : List (List Int)) : g_cheapI [.agg [.ints o, .rows d]] = (FieldOK o d, .int .i64 (chpF o o.length : Nat)) := (rfl)
theorem cheapI_ok (o : List Int) (d : List (List Int)) (hp : FieldOK o d) : SpecOK Try.prog 89 [.agg [.ints o, .rows d]] (.int .i64 (chpF o o.length : Nat)) [] := by
  refine fun_ok (C := t_minI ++ t_indexI) (hint := hintX [] [] 0 [] [] [] []) ((t_minI_ok).append t_indexI_ok) mixed Try.func89 rfl (by kernel_rfl) rfl ?_
  show codeA _ _ _ _ _ _ _ _
  simp only [go_sem, ↓reduceIte, Nat.reduceEqDiff, Nat.reduceBEq, Nat.reduceAdd, Nat.reduceSub, Nat.reduceLeDiff, Nat.reduceMul, Nat.reduceLT, Try.results89]
  have hn := hp.n7
  have h1 := hp.n1
  have e := idx_chp (o := o) (by omega)
  rw [← e]
  repeat' (first | refine fork_intro (fun hb => ?_) (fun hb => ?_) | refine partB_intro (fun hb => ?_) (fun hb => ?_) | refine And.intro ?_ ?_)
  all_goals first | exact True.intro | omega | with_reducible rfl | exact congrArg (AV.int _) (by omega) | (first | rfl)
def t_cheapI : Table := [(89, pureC g_cheapI)]
theorem t_cheapI_ok : TabOK Try.prog t_cheapI := .cons Try.func89 (by kernel_rfl) (.pure (by intro args hp; unfold g_cheapI at hp ⊢; split at hp <;> first | exact hp.elim | exact cheapI_ok _ _ hp)) (.nil _)
attribute [go_sem] g_cheapI_eq t_cheapI
def g_notC : List AV → Prop × AV
  | [.int .i64 b, .iptr [.ints o, .rows d], .iptr [.ints p, .ints t, .ints w], .iptr [.int .i64 a]] => ((FieldOK o d ∧ p.length = d.length) ∧ (0 ≤ a ∧ a < o.length) ∧ 0 ≤ b ∧ b < o.length, .bool (cnfX d p a b))
  | _ => (False, .undef)
theorem g_notC_eq (b : Int) (o : List Int) (d : List (List Int)) (p t w : List Int) (a : Int) : g_notC [.int .i64 b, .iptr [.ints o, .rows d], .iptr [.ints p, .ints t, .ints w], .iptr [.int .i64 a]] = ((FieldOK o d ∧ p.length = d.length) ∧ (0 ≤ a ∧ a < o.length) ∧ 0 ≤ b ∧ b < o.length, .bool (cnfX d p a b)) := (rfl)
theorem notC_ok (b : Int) (o : List Int) (d : List (List Int)) (p t w : List Int) (a : Int) (hp : (FieldOK o d ∧ p.length = d.length) ∧ (0 ≤ a ∧ a < o.length) ∧ 0 ≤ b ∧ b < o.length) : SpecOK Try.prog 109 [.int .i64 b, .iptr [.ints o, .rows d], .iptr [.ints p, .ints t, .ints w], .iptr [.int .i64 a]] (.bool (cnfX d p a b)) [] := by
  refine fun_ok (C := t_conflictI) (hint := hintX [] [] 0 [] [] [] []) (t_conflictI_ok) mixed Try.func109 rfl (by kernel_rfl) rfl ?_
  show codeA _ _ _ _ _ _ _ _
  simp only [go_sem, ↓reduceIte, Nat.reduceEqDiff, Nat.reduceBEq, Nat.reduceAdd, Nat.reduceSub, Nat.reduceLeDiff, Nat.reduceMul, Nat.reduceLT, Try.results109]
  first | exact hp | exact ⟨hp, rfl⟩
def t_notC : Table := [(109, pureC g_notC)]
theorem t_notC_ok : TabOK Try.prog t_notC := .cons Try.func109 (by kernel_rfl) (.pure (by intro args hp; unfold g_notC at hp ⊢; split at hp <;> first | exact hp.elim | exact notC_ok _ _ _ _ _ _ _ hp)) (.nil _)
attribute [go_sem] g_notC_eq t_notC
def g_idxCf : List AV → Prop × AV
  | [.ints xs, .fn 109 [.iptr [.ints o, .rows d], .iptr [.ints p, .ints t, .ints w], .iptr [.int .i64 a]]] => ((FieldOK o d ∧ p.length = d.length) ∧ (0 ≤ a ∧ a < o.length) ∧ xs.length ≤ 1000 ∧ ∀ y ∈ xs, 0 ≤ y ∧ y < o.length, .int .i64 (idxG (fun y => cnfX d p a y) xs 0))
  | _ => (False, .undef)
theorem g_idxCf_eq (xs : List Int) (o : List Int) (d : List (List Int)) (p t w : List Int) (a : Int) : g_idxCf [.ints xs, .fn 109 [.iptr [.ints o, .rows d], .iptr [.ints p, .ints t, .ints w], .iptr [.int .i64 a]]] = ((FieldOK o d ∧ p.length = d.length) ∧ (0 ≤ a ∧ a < o.length) ∧ xs.length ≤ 1000 ∧ ∀ y ∈ xs, 0 ≤ y ∧ y < o.length, .int .i64 (idxG (fun y => cnfX d p a y) xs 0)) := (rfl)
theorem idxCf_ok (xs : List Int) (o : List Int) (d : List (List Int)) (p t w : List Int) (a : Int) (hp : (FieldOK o d ∧ p.length = d.length) ∧ (0 ≤ a ∧ a < o.length) ∧ xs.length ≤ 1000 ∧ ∀ y ∈ xs, 0 ≤ y ∧ y < o.length) : SpecOK Try.prog 139 [.ints xs, .fn 109 [.iptr [.ints o, .rows d], .iptr [.ints p, .ints t, .ints w], .iptr [.int .i64 a]]] (.int .i64 (idxG (fun y => cnfX d p a y) xs 0)) [] := by
  refine fun_ok (C := t_notC) (hint := hintX [] [] 0 [] [] [] []) (t_notC_ok) mixed Try.func139 rfl (by kernel_rfl) rfl ?_
  show codeA _ _ _ _ _ _ _ _
  simp only [go_sem, ↓reduceIte, Nat.reduceEqDiff, Nat.reduceBEq, Nat.reduceAdd, Nat.reduceSub, Nat.reduceLeDiff, Nat.reduceMul, Nat.reduceLT, Try.results139]
  obtain ⟨hf, ha, hx, hr⟩ := hp
  refine loop_intro (fun k : Nat => [(8, .int .i64 k), (7, .int .i64 xs.length), (0, .ints xs), (1, .fn 109 [.iptr [.ints o, .rows d], .iptr [.ints p, .ints t, .ints w], .iptr [.int .i64 a]])]) (fun _ => []) 0 (fun k => k ≤ xs.length ∧ idxG (fun y => cnfX d p a y) (xs.drop k) k = idxG (fun y => cnfX d p a y) xs 0) (fun k => xs.length - k) 0 ⟨Nat.zero_le _, rfl⟩ (Nat.zero_le _) ?_ ?_
  · simp only [go_sem, ↓reduceIte, Nat.reduceEqDiff, Nat.reduceBEq, Nat.reduceAdd, Nat.reduceSub, Nat.reduceLeDiff, Nat.reduceMul, Nat.reduceLT]
    repeat' (first | refine fork_intro (fun hb => ?_) (fun hb => ?_) | refine partB_intro (fun hb => ?_) (fun hb => ?_) | refine And.intro ?_ ?_)
    all_goals first | exact True.intro | omega | with_reducible rfl | exact congrArg (AV.int _) (by omega) | (first | rfl)
  · rintro k ⟨hk, ht⟩
    simp only [go_sem, ↓reduceIte, Nat.reduceEqDiff, Nat.reduceBEq, Nat.reduceAdd, Nat.reduceSub, Nat.reduceLeDiff, Nat.reduceMul, Nat.reduceLT]
    refine fork_intro (fun hb => ?_) (fun hb => ?_)
    · have hmem := hr _ (ix_mem xs (show k < xs.length by omega))
      rw [drop_ix xs (show k < xs.length by omega), idxG] at ht
      refine ⟨by omega, ⟨hf, ha, hmem⟩, partB_intro (fun hc => ?_) (fun hc => ?_)⟩
      · rw [if_pos hc] at ht
        rw [← ht]
      · rw [if_neg (by simp [hc])] at ht
        repeat' (first | refine fork_intro (fun hb => ?_) (fun hb => ?_) | refine partB_intro (fun hb => ?_) (fun hb => ?_) | refine And.intro ?_ ?_)
        all_goals first | exact True.intro | omega | with_reducible rfl | exact congrArg (AV.int _) (by omega) | (refine LoopEnd.intro (k + 1) (by first | omega | (first | exact ⟨by omega, ht⟩)) (by first | omega | (dsimp only; omega)) (by omega) ?_; simp only [go_sem, ↓reduceIte, Nat.reduceEqDiff, Nat.reduceBEq, Nat.reduceAdd, Nat.reduceSub, Nat.reduceLeDiff, Nat.reduceMul, Nat.reduceLT]; (repeat' (first | refine fork_intro (fun hb => ?_) (fun hb => ?_) | refine partB_intro (fun hb => ?_) (fun hb => ?_) | refine And.intro ?_ ?_)); all_goals first | exact True.intro | omega | with_reducible rfl | exact congrArg (AV.int _) (by omega) | (first | rfl)) | (first | rfl)
    · rw [show k = xs.length by omega, List.drop_length] at ht
      rw [← ht]; rfl
def t_idxCf : Table := [(139, pureC g_idxCf)]
theorem t_idxCf_ok : TabOK Try.prog t_idxCf := .cons Try.func139 (by kernel_rfl) (.pure (by intro args hp; unfold g_idxCf at hp ⊢; split at hp <;> first | exact hp.elim | exact idxCf_ok _ _ _ _ _ _ _ hp)) (.nil _)
attribute [go_sem] g_idxCf_eq t_idxCf
def g_ctnCf : List AV → Prop × AV
  | [.ints xs, .fn 109 [.iptr [.ints o, .rows d], .iptr [.ints p, .ints t, .ints w], .iptr [.int .i64 a]]] => ((FieldOK o d ∧ p.length = d.length) ∧ (0 ≤ a ∧ a < o.length) ∧ xs.length ≤ 1000 ∧ ∀ y ∈ xs, 0 ≤ y ∧ y < o.length, .bool (xs.any fun y => cnfX d p a y))
  | _ => (False, .undef)
theorem g_ctnCf_eq (xs : List Int) (o : List Int) (d : List (List Int)) (p t w : List Int) (a : Int) : g_ctnCf [.ints xs, .fn 109 [.iptr [.ints o, .rows d], .iptr [.ints p, .ints t, .ints w], .iptr [.int .i64 a]]] = ((FieldOK o d ∧ p.length = d.length) ∧ (0 ≤ a ∧ a < o.length) ∧ xs.length ≤ 1000 ∧ ∀ y ∈ xs, 0 ≤ y ∧ y < o.length, .bool (xs.any fun y => cnfX d p a y)) := (rfl)
theorem ctnCf_ok (xs : List Int) (o : List Int) (d : List (List Int)) (p t w : List Int) (a : Int) (hp : (FieldOK o d ∧ p.length = d.length) ∧ (0 ≤ a ∧ a < o.length) ∧ xs.length ≤ 1000 ∧ ∀ y ∈ xs, 0 ≤ y ∧ y < o.length) : SpecOK Try.prog 108 [.ints xs, .fn 109 [.iptr [.ints o, .rows d], .iptr [.ints p, .ints t, .ints w], .iptr [.int .i64 a]]] (.bool (xs.any fun y => cnfX d p a y)) [] := by
  refine fun_ok (C := t_idxCf) (hint := hintX [] [] 0 [] [] [] []) (t_idxCf_ok) mixed Try.func108 rfl (by kernel_rfl) rfl ?_
  show codeA _ _ _ _ _ _ _ _
  simp only [go_sem, ↓reduceIte, Nat.reduceEqDiff, Nat.reduceBEq, Nat.reduceAdd, Nat.reduceSub, Nat.reduceLeDiff, Nat.reduceMul, Nat.reduceLT, Try.results108]
  refine ⟨hp, ?_⟩
  rw [← idxG_any _ xs 0 (by omega)]
def t_ctnCf : Table := [(108, pureC g_ctnCf)]
theorem t_ctnCf_ok : TabOK Try.prog t_ctnCf := .cons Try.func108 (by kernel_rfl) (.pure (by intro args hp; unfold g_ctnCf at hp ⊢; split at hp <;> first | exact hp.elim | exact ctnCf_ok _ _ _ _ _ _ _ hp)) (.nil _)
attribute [go_sem] g_ctnCf_eq t_ctnCf
def g_growthSetI : List AV → Prop × AV × Heap
  | [.agg [.ints o, .rows d]] => (o.length ≤ 1048576000 ∧ d.length ≤ 1048576000 ∧ ∀ x ∈ d, x.length ≤ 1048576000, .tup [.sl 0, .bool (good o d)], [(0, .arr (.ints (bif good o d then gsetL o d else [])))])
  | _ => (False, .undef, [])
theorem g_growthSetI_eq (o : List Int) (d : List (List Int)) : g_growthSetI [.agg [.ints o, .rows d]] = (o.length ≤ 1048576000 ∧ d.length ≤ 1048576000 ∧ ∀ x ∈ d, x.length ≤ 1048576000, .tup [.sl 0, .bool (good o d)], [(0, .arr (.ints (bif good o d then gsetL o d else [])))]) := (rfl)
theorem growthSetI_ok (o : List Int) (d : List (List Int)) (hp : o.length ≤ 1048576000 ∧ d.length ≤ 1048576000 ∧ ∀ x ∈ d, x.length ≤ 1048576000) : SpecOK Try.prog 49 [.agg [.ints o, .rows d]] (.tup [.sl 0, .bool (good o d)]) [(0, .arr (.ints (bif good o d then gsetL o d else [])))] := by
  refine fun_ok (C := t_isF ++ t_cheapI ++ t_growI ++ t_stabI ++ t_ctnCf ++ t_sortI) (hint := hintX [20, 22, 23, 4, 42, 10] [(2, [.post, .up 2 (.arr (.ints []))]), (12, [.drop [1, 2, 3] 6, .frb 4]), (13, [.fz [5]]), (17, [.frb 10]), (19, [.post, .drop [] 7]), (21, [.post, .ren 2 0])] 0 [105, 110] [] [] []) ((((((t_isF_ok).append t_cheapI_ok).append t_growI_ok).append t_stabI_ok).append t_ctnCf_ok).append t_sortI_ok) mixed Try.func49 rfl (by kernel_rfl) rfl ?_
  show codeA _ _ _ _ _ _ _ _
  simp only [go_sem, ↓reduceIte, Nat.reduceEqDiff, Nat.reduceBEq, Nat.reduceAdd, Nat.reduceSub, Nat.reduceLeDiff, Nat.reduceMul, Nat.reduceLT, Try.results49]
  refine ⟨hp, partB_intro (fun hg => ?_) (fun hg => ?_)⟩
  · rw [hg]
    have hf := good_iff.1 hg
    have hn := hf.n7
    obtain ⟨l1, l2, l3⟩ := grown_lens o d
    refine fork_intro (fun h0 => ?_) (fun h0 => ?_)
    · have e : gsetL o d = [(chpF o o.length : Int)] := by unfold gsetL; rw [if_pos (by omega)]
      rw [e]
      repeat' (first | refine fork_intro (fun hb => ?_) (fun hb => ?_) | refine partB_intro (fun hb => ?_) (fun hb => ?_) | refine And.intro ?_ ?_)
      all_goals first | exact True.intro | omega | with_reducible rfl | exact congrArg (AV.int _) (by omega) | (first | exact hf | rfl)
    · have e : gsetL o d = insF ltI (keepL (cnfX d (grown o d).p) (ripeL (grown o d).t o.length) (ripeL (grown o d).t o.length).length) := by unfold gsetL; rw [if_neg (by omega)]
      rw [e]
      refine ⟨hf, ?_⟩
      have ht1 := fun {a : Nat} (h : 0 ≤ ix (grown o d).t (a : Int)) => sel_t (p := fun a : Nat => decide (0 ≤ ix (grown o d).t (a : Int))) (n := a) (decide_eq_true h)
      have ht2 := fun {a : Nat} (h : ¬ 0 ≤ ix (grown o d).t (a : Int)) => sel_f (p := fun a : Nat => decide (0 ≤ ix (grown o d).t (a : Int))) (n := a) (decide_eq_false h)
      refine loop_intro (fun a : Nat => [(27, .int .i64 a), (26, .int .i64 (grown o d).t.length), (25, .sl 2), (4, .bx 5 0), (5, .sl 4), (1, .iptr [.ints o, .rows d])]) (fun a => [(1, .arr (.ints (grown o d).p)), (2, .arr (.ints (grown o d).t)), (3, .arr (.ints (grown o d).w)), (4, .arr (.ints (tghtL (grown o d).t a))), (5, .box [.sl 1, .sl 2, .sl 3])]) 6 (fun a => a ≤ (grown o d).t.length) (fun a => (grown o d).t.length - a) 0 (by omega) (by omega) ?_ ?_
      · simp only [go_sem, ↓reduceIte, Nat.reduceEqDiff, Nat.reduceBEq, Nat.reduceAdd, Nat.reduceSub, Nat.reduceLeDiff, Nat.reduceMul, Nat.reduceLT]
        repeat' (first | refine fork_intro (fun hb => ?_) (fun hb => ?_) | refine partB_intro (fun hb => ?_) (fun hb => ?_) | refine And.intro ?_ ?_)
        all_goals first | exact True.intro | omega | with_reducible rfl | exact congrArg (AV.int _) (by omega) | (first | rfl)
      · intro a ha
        have hsl := sel_len (fun a : Nat => decide (0 ≤ ix (grown o d).t (a : Int))) a
        have hsl' : (tghtL (grown o d).t a).length ≤ a := hsl
        have ht1 := ht1 (a := a)
        have ht2 := ht2 (a := a)
        simp only [go_sem, ↓reduceIte, Nat.reduceEqDiff, Nat.reduceBEq, Nat.reduceAdd, Nat.reduceSub, Nat.reduceLeDiff, Nat.reduceMul, Nat.reduceLT]
        refine fork_intro (fun h1 => ?_) (fun h1 => ?_)
        · refine ⟨by omega, fork_intro (fun h2 => ?_) (fun h2 => ?_)⟩
          · have e2 : tghtL (grown o d).t (a + 1) = tghtL (grown o d).t a ++ [(a : Int)] := ht1 h2
            repeat' (first | refine fork_intro (fun hb => ?_) (fun hb => ?_) | refine partB_intro (fun hb => ?_) (fun hb => ?_) | refine And.intro ?_ ?_)
            all_goals first | exact True.intro | omega | with_reducible rfl | exact congrArg (AV.int _) (by omega) | (refine LoopEnd.intro (a + 1) (by first | omega) (by first | omega | (dsimp only; omega)) (by omega) ?_; simp only [go_sem, ↓reduceIte, Nat.reduceEqDiff, Nat.reduceBEq, Nat.reduceAdd, Nat.reduceSub, Nat.reduceLeDiff, Nat.reduceMul, Nat.reduceLT]; (repeat' (first | refine fork_intro (fun hb => ?_) (fun hb => ?_) | refine partB_intro (fun hb => ?_) (fun hb => ?_) | refine And.intro ?_ ?_)); all_goals first | exact True.intro | omega | with_reducible rfl | exact congrArg (AV.int _) (by omega) | (first | rfl | rw [e2])) | (first | rfl | rw [e2])
          · have e2 : tghtL (grown o d).t (a + 1) = tghtL (grown o d).t a := ht2 h2
            repeat' (first | refine fork_intro (fun hb => ?_) (fun hb => ?_) | refine partB_intro (fun hb => ?_) (fun hb => ?_) | refine And.intro ?_ ?_)
            all_goals first | exact True.intro | omega | with_reducible rfl | exact congrArg (AV.int _) (by omega) | (refine LoopEnd.intro (a + 1) (by first | omega) (by first | omega | (dsimp only; omega)) (by omega) ?_; simp only [go_sem, ↓reduceIte, Nat.reduceEqDiff, Nat.reduceBEq, Nat.reduceAdd, Nat.reduceSub, Nat.reduceLeDiff, Nat.reduceMul, Nat.reduceLT]; (repeat' (first | refine fork_intro (fun hb => ?_) (fun hb => ?_) | refine partB_intro (fun hb => ?_) (fun hb => ?_) | refine And.intro ?_ ?_)); all_goals first | exact True.intro | omega | with_reducible rfl | exact congrArg (AV.int _) (by omega) | (first | rfl | rw [e2])) | (first | rfl | rw [e2])
        · have ea : a = o.length := by omega
          subst ea
          have hR := ripe_len (grown o d).t o.length
          have hRn := ripe_nodup (grown o d).t o.length
          have hRm := fun {x : Int} => ripe_mem (t := (grown o d).t) (n := o.length) (x := x)
          have eR : insF (ltT (grown o d).t) (tghtL (grown o d).t o.length) = ripeL (grown o d).t o.length := rfl
          rw [eR]
          have hmt : ∀ x ∈ tghtL (grown o d).t o.length, 0 ≤ x ∧ x < (grown o d).t.length := fun x hx => by
            obtain ⟨k, k1, k2, rfl⟩ := mem_sel.1 hx
            omega
          generalize hRR : ripeL (grown o d).t o.length = R at *
          have hRb := fun {x : Int} (hx : x ∈ R) => hRm.1 hx
          refine ⟨⟨by omega, by omega, hmt⟩, ?_⟩
          generalize hcc : cnfX d (grown o d).p = c at *
          refine loop_intro (fun i : Nat => [(45, .int .i64 i), (44, .int .i64 R.length), (43, .ints R), (8, .sl 6), (4, .iptr [.ints (grown o d).p, .ints (grown o d).t, .ints (grown o d).w]), (1, .iptr [.ints o, .rows d])]) (fun i => [(6, .arr (.ints (keepL c R i)))]) 7 (fun i => i ≤ R.length) (fun i => R.length - i) 0 (by omega) (by omega) ?_ ?_
          · simp only [go_sem, ↓reduceIte, Nat.reduceEqDiff, Nat.reduceBEq, Nat.reduceAdd, Nat.reduceSub, Nat.reduceLeDiff, Nat.reduceMul, Nat.reduceLT]
            repeat' (first | refine fork_intro (fun hb => ?_) (fun hb => ?_) | refine partB_intro (fun hb => ?_) (fun hb => ?_) | refine And.intro ?_ ?_)
            all_goals first | exact True.intro | omega | with_reducible rfl | exact congrArg (AV.int _) (by omega) | (first | rfl)
          · intro i hi
            have hKl := keepL_len c R i
            simp only [go_sem, ↓reduceIte, Nat.reduceEqDiff, Nat.reduceBEq, Nat.reduceAdd, Nat.reduceSub, Nat.reduceLeDiff, Nat.reduceMul, Nat.reduceLT]
            refine fork_intro (fun h3 => ?_) (fun h3 => ?_)
            · have hiR : i < R.length := by omega
              obtain ⟨x0, x1, x2, x3⟩ := hRb (ix_mem R hiR)
              have hKm : ∀ y ∈ keepL c R i, 0 ≤ y ∧ y < o.length := fun y hy => by
                obtain ⟨q, q1, q2⟩ := keepL_sub c hi y hy
                obtain ⟨m, m1, m2, m3⟩ := hRb (ix_mem R (show q < R.length by omega))
                rw [q2]; omega
              have hsame := fun h => keep_same (c := c) (R := R) (i := i) h
              have hadd := fun (h : (keepL c R i).any (fun y => c (ix R (i : Int)) y) = false) => (show keepL c R (i + 1) = keepL c R i ++ [ix R (i : Int)] from by
                show (if _ then _ else _) = _
                rw [if_neg (by rw [h]; decide)])
              refine ⟨by omega, ⟨⟨hf, l1⟩, ⟨by omega, by omega⟩, by omega, hKm⟩, partB_intro (fun hh => ?_) (fun hh => ?_)⟩
              · simp only [hcc] at hh
                have e2 := hsame hh
                repeat' (first | refine fork_intro (fun hb => ?_) (fun hb => ?_) | refine partB_intro (fun hb => ?_) (fun hb => ?_) | refine And.intro ?_ ?_)
                all_goals first | exact True.intro | omega | with_reducible rfl | exact congrArg (AV.int _) (by omega) | (refine LoopEnd.intro (i + 1) (by first | omega) (by first | omega | (dsimp only; omega)) (by omega) ?_; simp only [go_sem, ↓reduceIte, Nat.reduceEqDiff, Nat.reduceBEq, Nat.reduceAdd, Nat.reduceSub, Nat.reduceLeDiff, Nat.reduceMul, Nat.reduceLT]; (repeat' (first | refine fork_intro (fun hb => ?_) (fun hb => ?_) | refine partB_intro (fun hb => ?_) (fun hb => ?_) | refine And.intro ?_ ?_)); all_goals first | exact True.intro | omega | with_reducible rfl | exact congrArg (AV.int _) (by omega) | (first | rfl | rw [e2])) | (first | rfl | rw [e2])
              · simp only [hcc] at hh
                have e2 := hadd hh
                repeat' (first | refine fork_intro (fun hb => ?_) (fun hb => ?_) | refine partB_intro (fun hb => ?_) (fun hb => ?_) | refine And.intro ?_ ?_)
                all_goals first | exact True.intro | omega | with_reducible rfl | exact congrArg (AV.int _) (by omega) | (refine LoopEnd.intro (i + 1) (by first | omega) (by first | omega | (dsimp only; omega)) (by omega) ?_; simp only [go_sem, ↓reduceIte, Nat.reduceEqDiff, Nat.reduceBEq, Nat.reduceAdd, Nat.reduceSub, Nat.reduceLeDiff, Nat.reduceMul, Nat.reduceLT]; (repeat' (first | refine fork_intro (fun hb => ?_) (fun hb => ?_) | refine partB_intro (fun hb => ?_) (fun hb => ?_) | refine And.intro ?_ ?_)); all_goals first | exact True.intro | omega | with_reducible rfl | exact congrArg (AV.int _) (by omega) | (first | rfl | rw [e2])) | (first | rfl | rw [e2])
            · rw [show i = R.length by omega]
              have hKl := keepL_len c R R.length
              repeat' (first | refine fork_intro (fun hb => ?_) (fun hb => ?_) | refine partB_intro (fun hb => ?_) (fun hb => ?_) | refine And.intro ?_ ?_)
              all_goals first | exact True.intro | omega | with_reducible rfl | exact congrArg (AV.int _) (by omega) | (first | rfl)
  · rw [hg]
    repeat' (first | refine fork_intro (fun hb => ?_) (fun hb => ?_) | refine partB_intro (fun hb => ?_) (fun hb => ?_) | refine And.intro ?_ ?_)
    all_goals first | exact True.intro | omega | with_reducible rfl | exact congrArg (AV.int _) (by omega) | (first | rfl)
def t_growthSetI : Table := [(49, ownC g_growthSetI)]
theorem t_growthSetI_ok : TabOK Try.prog t_growthSetI := .cons Try.func49 (by kernel_rfl) (.own (by intro args hp; unfold g_growthSetI at hp ⊢; split at hp <;> first | exact hp.elim | exact ⟨growthSetI_ok _ _ hp, rfl⟩)) (.nil _)
attribute [go_sem] g_growthSetI_eq t_growthSetI
end Go.Proofs.Ytibomnplkclkmaa
