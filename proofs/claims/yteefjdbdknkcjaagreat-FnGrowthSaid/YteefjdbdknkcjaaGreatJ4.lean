/- Texts joined: DB PlW DC GE EA GG. -/
import Derived.Test.YteefjdbdknkcjaaGreatJ3
namespace Go.Proofs.YteefjdbdknkcjaaGreat
open Go.Vc
set_option maxRecDepth 100000
set_option maxHeartbeats 1600000
set_option linter.unusedSimpArgs false
set_option linter.unusedVariables false

def In99 (xs : List Int) : Prop := ∀ x ∈ xs, 0 <= x /\ x <= 99
theorem In99.nil : In99 [] := fun x hx => by cases hx
theorem In99.snoc {xs : List Int} (h : In99 xs) {n : Int} (hn : 0 <= n /\ n <= 99) : In99 (xs ++ [n]) := fun x hx => by
  rcases List.mem_append.1 hx with hx | hx
  · exact h x hx
  · rw [List.mem_singleton] at hx; subst hx; exact hn
def RowsIn (n : Nat) (D : List (List Int)) : Prop := ∀ r ∈ D, r.length = n /\ In99 r
theorem RowsIn.nil (n : Nat) : RowsIn n [] := fun x hx => by cases hx
theorem RowsIn.snoc {n : Nat} {D : List (List Int)} (h : RowsIn n D) {r : List Int} (hl : r.length = n) (hr : In99 r) : RowsIn n (D ++ [r]) := fun x hx => by
  rcases List.mem_append.1 hx with hx | hx
  · exact h x hx
  · rw [List.mem_singleton] at hx; subst hx; exact ⟨hl, hr⟩
theorem In99.set {xs : List Int} (h : In99 xs) (k : Nat) {n : Int} (hn : 0 <= n /\ n <= 99) : In99 (xs.set k n) := fun x hx => by
  rcases List.mem_or_eq_of_mem_set hx with hx | hx
  · exact h x hx
  · subst hx; exact hn
theorem RowsIn.at {n : Nat} {D : List (List Int)} (h : RowsIn n D) {i : Nat} (hi : i < D.length) : (ix D (i : Int)).length = n /\ In99 (ix D (i : Int)) := h _ (ix_mem D hi)
theorem RowsIn.upd {n : Nat} {D : List (List Int)} (h : RowsIn n D) {i : Nat} (hi : i < D.length) (k : Nat) {v : Int} (hv : 0 <= v /\ v <= 99) : RowsIn n (D.set i ((ix D (i : Int)).set k v)) := fun x hx => by
  rcases List.mem_or_eq_of_mem_set hx with hx | hx
  · exact h x hx
  · subst hx; exact ⟨by rw [List.length_set]; exact (h.at hi).1, (h.at hi).2.set k hv⟩
theorem rows_of {o : List Int} {d : List (List Int)} (h : FieldOK o d) : RowsIn o.length d := fun r hr => ⟨h.len r hr, h.d99 r hr⟩
theorem field_of {o : List Int} {d : List (List Int)} (h1 : 1 <= o.length) (h7 : o.length <= 7) (ho : In99 o) (hd : d.length <= 7) (hr : RowsIn o.length d) : FieldOK o d :=
  ⟨h1, h7, ho, hd, fun r hm => (hr r hm).1, fun r hm => (hr r hm).2⟩
theorem len_snoc {α : Type} (xs : List α) (x : α) : (xs ++ [x]).length = xs.length + 1 := by simp
theorem fork2 {A B : Prop} [Decidable A] [Decidable B] {X Y : Prop} (hx : A -> B -> X) (hy : ¬ (A /\ B) -> Y) : forkP A (forkP B X Y) Y :=
  fork_intro (fun h1 => fork_intro (fun h2 => hx h1 h2) (fun h2 => hy (fun h => h2 h.2))) (fun h1 => hy (fun h => h1 h.1))
def g_rawD : List AV -> Heap -> Prop × (Z -> Prop × AV × Heap)
  | [.bx 0 0, .int .i64 most], [(0, .box [.bytes code, .int .i64 a, .int .u64 s])] => (code.length <= 1000000000 /\ (0 <= a /\ a <= 1000000000000 - 1000) /\ 1 <= most /\ most <= 7, fun z => (FieldOK z.xs z.xss /\ a <= z.a /\ z.a <= a + 300, .agg [.sl 3, .mt 4], [(0, .box [.bytes code, .int .i64 z.a, .int .u64 z.s]), (3, .arr (.ints z.xs)), (4, .mat z.xss)]))
  | _, _ => (False, fun _ => (False, .undef, []))
theorem g_rawD_eq (most : Int) (code : List UInt8) (a s : Int) : g_rawD [.bx 0 0, .int .i64 most] [(0, .box [.bytes code, .int .i64 a, .int .u64 s])] = (code.length <= 1000000000 /\ (0 <= a /\ a <= 1000000000000 - 1000) /\ 1 <= most /\ most <= 7, fun z => (FieldOK z.xs z.xss /\ a <= z.a /\ z.a <= a + 300, .agg [.sl 3, .mt 4], [(0, .box [.bytes code, .int .i64 z.a, .int .u64 z.s]), (3, .arr (.ints z.xs)), (4, .mat z.xss)])) := (rfl)
theorem rawD_ok (most : Int) (code : List UInt8) (a s : Int) (hp : code.length <= 1000000000 /\ (0 <= a /\ a <= 1000000000000 - 1000) /\ 1 <= most /\ most <= 7) : SpecZ Tryz.prog 113 [.bx 0 0, .int .i64 most] [(0, .box [.bytes code, .int .i64 a, .int .u64 s])] 1 (fun z => (FieldOK z.xs z.xss /\ a <= z.a /\ z.a <= a + 300, .agg [.sl 3, .mt 4], [(0, .box [.bytes code, .int .i64 z.a, .int .u64 z.s]), (3, .arr (.ints z.xs)), (4, .mat z.xss)])) := by
  refine fun_okZ (C := t_pickD ++ t_amongD) (hint := hintX [4, 7, 51] [(2, [.post, .upf 7 0 (.arr (.ints [])), .upf 7 1 (.mat [])]), (7, [.cut [0, 1, 4, 6, 7, 8]]), (16, [.cut [0, 4, 7]])] 1 [75, 1000075, 142, 1000142] [] [(6, [2, 3, 0, 1, 4, 5, 6, 7, 8])] [(6, [2, 4, 2])]) ((t_pickD_ok).append t_amongD_ok) mixed Tryz.func113 rfl (by kernel_rfl) rfl (Nat.le_refl _) (by decide) (upTo_look (k := 1) rfl) ?_
  show codeA _ _ _ _ _ _ _ _
  simp only [go_sem, Tryz.results113]
  obtain ⟨hc, ha, hm1, hm7⟩ := hp
  refine ⟨⟨hc, by omega⟩, fun z1 h1 => ⟨⟨hc, by omega⟩, fun z2 h2 => ⟨⟨hc, by omega⟩, fun z3 h3 => ?_⟩⟩⟩
  simp only [List.mem_cons, List.not_mem_nil, or_false] at h1 h2 h3
  refine loop_intro (fun g : List Int × Int × Int => [(9, .int .i64 g.1.length), (5, .int .i64 z1.n), (1, .int .i64 most), (7, .bx 2 0), (0, .bx 0 0), (8, .int .i64 z3.n), (6, .int .i64 z2.n), (4, .bx 1 0)]) (fun g => [(0, .box [.bytes code, .int .i64 g.2.1, .int .u64 g.2.2]), (1, .box [.nils, .nils]), (2, .box [.sl 3, .mt 4]), (3, .arr (.ints g.1)), (4, .mat [])]) 5 (fun g => (g.1.length <= 7 /\ (g.1.length : Int) <= z1.n /\ (g.1.length : Int) <= most /\ a <= g.2.1 /\ g.2.1 <= a + 6 + 2 * g.1.length) /\ In99 g.1) (fun g => 7 - g.1.length) ([], z3.a, z3.s) ⟨⟨by simp, by simp; omega, by simp; omega, by dsimp only; omega, by simp; omega⟩, .nil⟩ (by omega) ?_ ?_
  · simp only [go_sem]
    rfl
  · rintro ⟨xs, a1, s1⟩ ⟨hx, hx99⟩
    simp only at hx hx99
    simp only [go_sem]
    refine fork2 (fun q1 q2 => ?_) (fun hq => stop_intro ?_)
    · refine ⟨⟨hc, by omega, by omega⟩, fun z hz => ⟨by omega, by omega, ?_⟩⟩
      refine LoopEnd.intro (xs ++ [z.n], z.a, z.s) ?_ ?_ (by omega) ?_
      · refine ⟨?_, hx99.snoc (by omega)⟩
        simp only [len_snoc]; omega
      · simp only [len_snoc]; omega
      · simp only [go_sem, len_snoc, Int.natCast_add, Int.natCast_one]
    · have hl1 : 1 <= xs.length := by omega
      simp only [go_sem]
      refine loop_intro (fun g : List (List Int) × Int × Int => [(10, .int .i64 g.1.length), (1, .int .i64 most), (7, .bx 2 0), (0, .bx 0 0), (8, .int .i64 z3.n), (6, .int .i64 z2.n), (4, .bx 1 0)]) (fun g => [(0, .box [.bytes code, .int .i64 g.2.1, .int .u64 g.2.2]), (1, .box [.nils, .nils]), (2, .box [.sl 3, .mt 4]), (3, .arr (.ints xs)), (4, .mat g.1)]) 5 (fun g => (g.1.length <= 7 /\ (g.1.length : Int) <= z2.n /\ (g.1.length : Int) <= most /\ a <= g.2.1 /\ g.2.1 <= a + 20 + 14 * g.1.length) /\ RowsIn xs.length g.1) (fun g => 7 - g.1.length) ([], a1, s1) ⟨⟨by simp, by simp; omega, by simp; omega, by dsimp only; omega, by simp; omega⟩, .nil _⟩ (by omega) ?_ ?_
      · simp only [go_sem]
        rfl
      · rintro ⟨D, a2, s2⟩ ⟨hD, hDr⟩
        simp only at hD hDr
        simp only [go_sem]
        refine fork2 (fun q1 q2 => ?_) (fun hq => stop_intro ?_)
        · refine loop_intro (fun g : List Int × Int × Int => [(12, .int .i64 g.1.length), (11, .sl 5), (10, .int .i64 D.length), (1, .int .i64 most), (7, .bx 2 0), (0, .bx 0 0), (8, .int .i64 z3.n), (6, .int .i64 z2.n), (4, .bx 1 0)]) (fun g => [(0, .box [.bytes code, .int .i64 g.2.1, .int .u64 g.2.2]), (1, .box [.nils, .nils]), (2, .box [.sl 3, .mt 4]), (3, .arr (.ints xs)), (4, .mat D), (5, .arr (.ints g.1))]) 6 (fun g => (g.1.length <= xs.length /\ a <= g.2.1 /\ g.2.1 <= a2 + 2 * g.1.length) /\ In99 g.1) (fun g => 7 - g.1.length) ([], a2, s2) ⟨⟨by simp, by dsimp only; omega, by simp⟩, .nil⟩ (by omega) ?_ ?_
          · simp only [go_sem]
            rfl
          · rintro ⟨r, a3, s3⟩ ⟨hr, hr99⟩
            simp only at hr hr99
            simp only [go_sem]
            refine fork_intro (fun q3 => ?_) (fun q3 => ?_)
            · refine ⟨⟨hc, by omega, by omega⟩, fun z hz => ⟨by omega, by omega, ?_⟩⟩
              refine LoopEnd.intro (r ++ [z.n], z.a, z.s) ?_ ?_ (by omega) ?_
              · refine ⟨?_, hr99.snoc (by omega)⟩
                simp only [len_snoc]; omega
              · simp only [len_snoc]; omega
              · simp only [go_sem, len_snoc, Int.natCast_add, Int.natCast_one]
            · have hrl : r.length = xs.length := by omega
              refine ⟨by omega, by omega, LoopEnd.intro (D ++ [r], a3, s3) ?_ ?_ (by omega) ?_⟩
              · refine ⟨?_, hDr.snoc hrl hr99⟩
                simp only [len_snoc]; omega
              · simp only [len_snoc]; omega
              · simp only [go_sem, len_snoc, Int.natCast_add, Int.natCast_one]
        · simp only [go_sem]
          exact ⟨{ xs := xs, xss := D, a := a2, s := s2 }, ⟨field_of hl1 hx.1 hx99 hD.1 hDr, (by dsimp only; omega)⟩, ⟨rfl, rfl⟩, rfl, rfl⟩
def t_rawD : Table := [(113, zC 1 1 g_rawD)]
theorem t_rawD_ok : TabOK Tryz.prog t_rawD := .cons Tryz.func113 (by kernel_rfl) (.z (by decide) (by intro args pre _ hp; unfold g_rawD at hp ⊢; split at hp <;> first | exact hp.elim | exact ⟨fun z hz => ⟨rfl, shape_box _ _ rfl rfl rfl⟩, rawD_ok _ _ _ _ hp⟩)) (.nil _)
attribute [go_sem] g_rawD_eq t_rawD
def g_lineD : List AV -> Heap -> Prop × (Z -> Prop × AV × Heap)
  | [.bx 0 0, .int .i64 most], [(0, .box [.bytes code, .int .i64 a, .int .u64 s])] => (code.length <= 1000000000 /\ (0 <= a /\ a <= 1000000000000 - 1000) /\ 1 <= most /\ most <= 7, fun z => (FieldOK z.xs z.xss /\ a <= z.a /\ z.a <= a + 400, .agg [.sl 4, .mt 5], [(0, .box [.bytes code, .int .i64 z.a, .int .u64 z.s]), (4, .arr (.ints z.xs)), (5, .mat z.xss)]))
  | _, _ => (False, fun _ => (False, .undef, []))
theorem g_lineD_eq (most : Int) (code : List UInt8) (a s : Int) : g_lineD [.bx 0 0, .int .i64 most] [(0, .box [.bytes code, .int .i64 a, .int .u64 s])] = (code.length <= 1000000000 /\ (0 <= a /\ a <= 1000000000000 - 1000) /\ 1 <= most /\ most <= 7, fun z => (FieldOK z.xs z.xss /\ a <= z.a /\ z.a <= a + 400, .agg [.sl 4, .mt 5], [(0, .box [.bytes code, .int .i64 z.a, .int .u64 z.s]), (4, .arr (.ints z.xs)), (5, .mat z.xss)])) := (rfl)
theorem lineD_ok (most : Int) (code : List UInt8) (a s : Int) (hp : code.length <= 1000000000 /\ (0 <= a /\ a <= 1000000000000 - 1000) /\ 1 <= most /\ most <= 7) : SpecZ Tryz.prog 111 [.bx 0 0, .int .i64 most] [(0, .box [.bytes code, .int .i64 a, .int .u64 s])] 1 (fun z => (FieldOK z.xs z.xss /\ a <= z.a /\ z.a <= a + 400, .agg [.sl 4, .mt 5], [(0, .box [.bytes code, .int .i64 z.a, .int .u64 z.s]), (4, .arr (.ints z.xs)), (5, .mat z.xss)])) := by
  refine fun_okZ (C := t_pickD ++ t_rawD ++ t_most2) (hint := hintX [4, 5, 14] [] 1 [75, 1000075, 113, 1000113] [] [] []) (((t_pickD_ok).append t_rawD_ok).append t_most2_ok) mixed Tryz.func111 rfl (by kernel_rfl) rfl (Nat.le_refl _) (by decide) (upTo_look (k := 1) rfl) ?_
  show codeA _ _ _ _ _ _ _ _
  simp only [go_sem, Tryz.results111]
  obtain ⟨hc, ha, hm1, hm7⟩ := hp
  refine ⟨⟨hc, by omega, hm1, hm7⟩, fun z1 h1 => ?_⟩
  have hf := h1.1
  have hn1 := hf.n1
  have hn7 := hf.n7
  have hd7 := hf.m7
  refine loop_intro (fun g : List Int × Int × Int => [(7, .int .i64 g.1.length), (6, .sl 6), (5, .bx 7 0), (0, .bx 0 0), (4, .bx 1 0)]) (fun g => [(0, .box [.bytes code, .int .i64 g.2.1, .int .u64 g.2.2]), (1, .box [.nils, .nils]), (4, .arr (.ints z1.xs)), (5, .mat z1.xss), (6, .arr (.ints g.1)), (7, .box [.sl 4, .mt 5])]) 8 (fun g => (g.1.length <= z1.xs.length /\ a <= g.2.1 /\ g.2.1 <= a + 300 + 2 * g.1.length) /\ ∀ x ∈ g.1, 0 <= x /\ x <= 19) (fun g => 7 - g.1.length) ([], z1.a, z1.s) ⟨⟨by simp, by dsimp only; omega, by simp; omega⟩, fun x hx => by cases hx⟩ (by omega) ?_ ?_
  · simp only [go_sem]
    rfl
  · rintro ⟨ps, a1, s1⟩ ⟨hx, hx19⟩
    simp only at hx hx19
    simp only [go_sem]
    refine fork_intro (fun q1 => ?_) (fun q1 => ?_)
    · refine ⟨⟨hc, by omega⟩, fun z hz => ⟨by omega, by omega, ?_⟩⟩
      refine LoopEnd.intro (ps ++ [z.n], z.a, z.s) ?_ ?_ (by omega) ?_
      · refine ⟨?_, fun x hx => ?_⟩
        · simp only [len_snoc]; omega
        · rcases List.mem_append.1 hx with hx | hx
          · exact hx19 x hx
          · rw [List.mem_singleton] at hx; subst hx; omega
      · simp only [len_snoc]; omega
      · simp only [go_sem, len_snoc, Int.natCast_add, Int.natCast_one]
    · have hpl : ps.length = z1.xs.length := by omega
      have h19 : ∀ k : Nat, k < ps.length -> 0 <= ix ps (k : Int) /\ ix ps (k : Int) <= 19 := fun k hk => hx19 _ (ix_mem ps hk)
      refine loop_intro (fun g : Nat × List (List Int) × Int × Int => [(8, .int .i64 g.1), (6, .sl 6), (5, .bx 7 0), (0, .bx 0 0), (4, .bx 1 0)]) (fun g => [(0, .box [.bytes code, .int .i64 g.2.2.1, .int .u64 g.2.2.2]), (1, .box [.nils, .nils]), (4, .arr (.ints z1.xs)), (5, .mat g.2.1), (6, .arr (.ints ps)), (7, .box [.sl 4, .mt 5])]) 8 (fun g => (g.1 <= z1.xss.length /\ g.2.1.length = z1.xss.length /\ a <= g.2.2.1 /\ g.2.2.1 <= a + 320 + 2 * g.1) /\ RowsIn z1.xs.length g.2.1) (fun g => 7 - g.1) (0, z1.xss, a1, s1) ⟨⟨by simp, rfl, by dsimp only; omega, by dsimp only; omega⟩, rows_of hf⟩ (by omega) ?_ ?_
      · simp only [go_sem]
        rfl
      · rintro ⟨i, D, a2, s2⟩ ⟨hD, hDr⟩
        simp only at hD hDr
        simp only [go_sem]
        refine fork_intro (fun q2 => ?_) (fun q2 => ?_)
        · refine ⟨⟨hc, by omega⟩, fun z hz => ?_⟩
          refine loop_intro (fun g : Nat × List (List Int) => [(10, .int .i64 g.1), (9, .int .i64 z.n), (8, .int .i64 i), (6, .sl 6), (5, .bx 7 0), (0, .bx 0 0), (4, .bx 1 0)]) (fun g => [(0, .box [.bytes code, .int .i64 z.a, .int .u64 z.s]), (1, .box [.nils, .nils]), (4, .arr (.ints z1.xs)), (5, .mat g.2), (6, .arr (.ints ps)), (7, .box [.sl 4, .mt 5])]) 8 (fun g => (g.1 <= z1.xs.length /\ g.2.length = z1.xss.length) /\ RowsIn z1.xs.length g.2) (fun g => 7 - g.1) (0, D) ⟨⟨by simp, hD.2.1⟩, hDr⟩ (by omega) ?_ ?_
          · simp only [go_sem]
            rfl
          · rintro ⟨k, E⟩ ⟨hE, hEr⟩
            simp only at hE hEr
            simp only [go_sem]
            refine fork_intro (fun q3 => ?_) (fun q3 => ?_)
            · have hrow := hEr.at (i := i) (by omega)
              have hpk := h19 k (by omega)
              refine ⟨by omega, by omega, by omega, by omega, by omega, by omega, by omega, ?_⟩
              refine LoopEnd.intro (k + 1, E.set i ((ix E (i : Int)).set k (max (z.n - ix ps (k : Int)) (ix ps (k : Int) - z.n)))) ?_ ?_ (by omega) ?_
              · exact ⟨⟨by dsimp only; omega, by dsimp only; rw [List.length_set]; exact hE.2⟩, hEr.upd (by omega) k (by omega)⟩
              · dsimp only; omega
              · simp only [go_sem, Int.natCast_add, Int.natCast_one]
            · refine ⟨by omega, ?_⟩
              refine LoopEnd.intro (i + 1, E, z.a, z.s) ?_ ?_ (by omega) ?_
              · exact ⟨by dsimp only; omega, hEr⟩
              · dsimp only; omega
              · simp only [go_sem, Int.natCast_add, Int.natCast_one]
        · exact ⟨{ xs := z1.xs, xss := D, a := a2, s := s2 }, ⟨field_of hn1 hn7 hf.o99 (show D.length <= 7 by omega) hDr, (by dsimp only; omega)⟩, ⟨rfl, rfl⟩, rfl, rfl⟩
def t_lineD : Table := [(111, zC 1 1 g_lineD)]
theorem t_lineD_ok : TabOK Tryz.prog t_lineD := .cons Tryz.func111 (by kernel_rfl) (.z (by decide) (by intro args pre _ hp; unfold g_lineD at hp ⊢; split at hp <;> first | exact hp.elim | exact ⟨fun z hz => ⟨rfl, shape_box _ _ rfl rfl rfl⟩, lineD_ok _ _ _ _ hp⟩)) (.nil _)
attribute [go_sem] g_lineD_eq t_lineD
def Bdd (o : List Int) (d : List (List Int)) : Prop := o.length <= 1000 /\ d.length <= 1000 /\ ∀ x ∈ d, x.length <= 1000
theorem bdd_of {o : List Int} {d : List (List Int)} (h : FieldOK o d) : Bdd o d := ⟨by have := h.n7; omega, by have := h.m7; omega, fun x hx => by rw [h.len x hx]; have := h.n7; omega⟩
theorem zfinS {o : List Int} {d : List (List Int)} {a0 a s : Int} (h : Bdd o d) (ha : a0 <= a /\ a <= a0 + 100) : ∃ z : Z, (Bdd z.xs z.xss /\ a0 <= z.a /\ z.a <= a0 + 100) /\ (AV.int .i64 a = AV.int .i64 z.a /\ AV.int .u64 s = AV.int .u64 z.s) /\ AV.ints o = AV.ints z.xs /\ d = z.xss := ⟨{ xs := o, xss := d, a := a, s := s }, ⟨h, ha⟩, ⟨rfl, rfl⟩, rfl, rfl⟩
def g_spoiltD : List AV -> Heap -> Prop × (Z -> Prop × AV × Heap)
  | [.bx 0 0, .agg [.sl 1, .mt 2]], [(0, .box [.bytes code, .int .i64 a, .int .u64 s]), (1, .arr (.ints o)), (2, .mat d)] => (code.length <= 1000000000 /\ (0 <= a /\ a <= 1000000000000 - 1000) /\ FieldOK o d, fun z => (Bdd z.xs z.xss /\ a <= z.a /\ z.a <= a + 100, .agg [.sl 5, .mt 6], [(0, .box [.bytes code, .int .i64 z.a, .int .u64 z.s]), (5, .arr (.ints z.xs)), (6, .mat z.xss)]))
  | _, _ => (False, fun _ => (False, .undef, []))
theorem g_spoiltD_eq (o : List Int) (d : List (List Int)) (code : List UInt8) (a s : Int) : g_spoiltD [.bx 0 0, .agg [.sl 1, .mt 2]] [(0, .box [.bytes code, .int .i64 a, .int .u64 s]), (1, .arr (.ints o)), (2, .mat d)] = (code.length <= 1000000000 /\ (0 <= a /\ a <= 1000000000000 - 1000) /\ FieldOK o d, fun z => (Bdd z.xs z.xss /\ a <= z.a /\ z.a <= a + 100, .agg [.sl 5, .mt 6], [(0, .box [.bytes code, .int .i64 z.a, .int .u64 z.s]), (5, .arr (.ints z.xs)), (6, .mat z.xss)])) := (rfl)
theorem spoiltD_ok (o : List Int) (d : List (List Int)) (code : List UInt8) (a s : Int) (hp : code.length <= 1000000000 /\ (0 <= a /\ a <= 1000000000000 - 1000) /\ FieldOK o d) : SpecZ Tryz.prog 168 [.bx 0 0, .agg [.sl 1, .mt 2]] [(0, .box [.bytes code, .int .i64 a, .int .u64 s]), (1, .arr (.ints o)), (2, .mat d)] 1 (fun z => (Bdd z.xs z.xss /\ a <= z.a /\ z.a <= a + 100, .agg [.sl 5, .mt 6], [(0, .box [.bytes code, .int .i64 z.a, .int .u64 z.s]), (5, .arr (.ints z.xs)), (6, .mat z.xss)])) := by
  refine fun_okZ (C := t_pickD ++ t_amongD ++ t_ownI) (hint := hintX [3, 4, 59] [(16, [.drop [1, 2, 3] 5, .post, .upf 4 0 (.arr (.ints [])), .upf 4 1 (.mat [])]), (17, [.skip, .skip, .mv 1 5, .mv 2 6])] 1 [75, 1000075, 142, 1000142] [] [(6, [3, 4, 0, 1, 2, 5, 6, 7]), (9, [5, 6, 0, 1, 2, 3, 4, 7, 8, 9])] [(6, [2, 5, 1]), (9, [2, 7, 1])]) (((t_pickD_ok).append t_amongD_ok).append t_ownI_ok) mixed Tryz.func168 rfl (by kernel_rfl) rfl (Nat.le_refl _) (by decide) (upTo_look (k := 3) rfl) ?_
  show codeA _ _ _ _ _ _ _ _
  simp only [go_sem, Tryz.results168]
  obtain ⟨hc, ha, hf⟩ := hp
  have hn1 := hf.n1
  have hn7 := hf.n7
  have hd7 := hf.m7
  have hb := bdd_of hf
  have hset : ∀ (k : Nat) (v : Int), Bdd (o.set k v) d := fun k v => ⟨by rw [List.length_set]; exact hb.1, hb.2⟩
  refine fork_intro (fun h => by omega) (fun _ => ⟨⟨hc, by omega, by omega⟩, fun z hz => ⟨⟨hc, by omega, by omega⟩, fun z1 hz1 => ?_⟩⟩)
  refine fork_intro (fun _ => ⟨⟨hc, by omega⟩, fun z2 hz2 => ⟨by omega, rfl, rfl, zfinS (hset _ _) (by omega)⟩⟩) (fun _ => fork_intro (fun _ => fork_intro (fun hd => ?_) (fun _ => ⟨rfl, rfl, zfinS hb (by omega)⟩)) (fun _ => ?_))
  · have hl : (ix d 0).length = o.length := hf.len _ (ix_memI d (by omega) (by omega))
    refine ⟨by omega, by omega, ⟨hc, by omega⟩, fun z2 hz2 => ⟨by omega, by omega, rfl, rfl, zfinS ⟨hb.1, by rw [List.length_set]; exact hb.2.1, fun x hx => ?_⟩ (by omega)⟩⟩
    rcases List.mem_or_eq_of_mem_set hx with hx | hx
    · exact hb.2.2 x hx
    · subst hx; rw [List.length_set]; omega
  · refine fork_intro (fun _ => ⟨by omega, rfl, rfl, zfinS ⟨by simp; omega, hb.2⟩ (by omega)⟩) (fun _ => fork_intro (fun _ => ?_) (fun _ => fork_intro (fun _ => zfinS ⟨by simp, by simp, fun x hx => by cases hx⟩ (by omega)) (fun _ => ⟨rfl, rfl, zfinS hb (by omega)⟩)))
    refine loop_intro (fun g : List (List Int) => [(3, .bx 3 0), (4, .bx 4 0), (0, .bx 0 0)]) (fun g => [(4, .box [.nils, .nils]), (3, .box [.sl 1, .mt 2]), (0, .box [.bytes code, .int .i64 z1.a, .int .u64 z1.s]), (1, .arr (.ints o)), (2, .mat g)]) 5 (fun g => g.length <= 8 /\ ∀ x ∈ g, x.length <= 1000) (fun g => 8 - g.length) d ⟨by omega, hb.2.2⟩ (by omega) ?_ ?_
    · simp only [go_sem]
    · rintro D ⟨hD, hDr⟩
      simp only [go_sem]
      refine fork_intro (fun q1 => ?_) (fun q1 => ⟨rfl, rfl, zfinS ⟨hb.1, by omega, hDr⟩ (by omega)⟩)
      refine ⟨by omega, by omega, LoopEnd.intro (D ++ [o]) ?_ ?_ (by omega) ?_⟩
      · refine ⟨by rw [len_snoc]; omega, fun x hx => ?_⟩
        rcases List.mem_append.1 hx with hx | hx
        · exact hDr x hx
        · rw [List.mem_singleton] at hx; subst hx; omega
      · rw [len_snoc]; omega
      · simp only [go_sem]
def t_spoiltD : Table := [(168, zC 3 1 g_spoiltD)]
theorem t_spoiltD_ok : TabOK Tryz.prog t_spoiltD := .cons Tryz.func168 (by kernel_rfl) (.z (by decide) (by intro args pre _ hp; unfold g_spoiltD at hp ⊢; split at hp <;> first | exact hp.elim | exact ⟨fun z hz => ⟨rfl, shape_box _ _ rfl rfl rfl⟩, spoiltD_ok _ _ _ _ _ hp⟩)) (.nil _)
attribute [go_sem] g_spoiltD_eq t_spoiltD
end Go.Proofs.YteefjdbdknkcjaaGreat
namespace Go.Vc
set_option linter.unusedSimpArgs false
set_option linter.unusedVariables false

/-! sums over lists of sites -/
def sumL (f : Int -> Int) : List Int -> Int
  | [] => 0
  | x :: r => f x + sumL f r
theorem pay_sumL (o : List Int) : ∀ xs : List Int, pay o xs = sumL (fun a => ix o a) xs
  | [] => rfl
  | x :: r => by
    have e : pay o (x :: r) = ix o x + pay o r := by simp [pay]
    rw [e, pay_sumL o r]; rfl
theorem sumL_congr {f g : Int -> Int} : ∀ {xs : List Int}, (∀ x ∈ xs, f x = g x) -> sumL f xs = sumL g xs
  | [], _ => rfl
  | x :: r, h => by rw [sumL, sumL, h x List.mem_cons_self, sumL_congr (fun y hy => h y (List.mem_cons_of_mem _ hy))]
theorem sumL_sub (f g : Int -> Int) : ∀ xs : List Int, sumL (fun x => f x - g x) xs = sumL f xs - sumL g xs
  | [] => rfl
  | x :: r => by simp only [sumL]; rw [sumL_sub f g r]; omega
theorem sumL_le {f g : Int -> Int} : ∀ {xs : List Int}, (∀ x ∈ xs, f x <= g x) -> sumL f xs <= sumL g xs
  | [], _ => Int.le_refl _
  | x :: r, h => by
    have h1 := h x List.mem_cons_self
    have h2 := sumL_le (xs := r) (fun y hy => h y (List.mem_cons_of_mem _ hy))
    simp only [sumL]; omega
theorem sumL_nn {f : Int -> Int} : ∀ {xs : List Int}, (∀ x ∈ xs, 0 <= f x) -> 0 <= sumL f xs
  | [], _ => Int.le_refl _
  | x :: r, h => by
    have h1 := h x List.mem_cons_self
    have h2 := sumL_nn (xs := r) (fun y hy => h y (List.mem_cons_of_mem _ hy))
    simp only [sumL]; omega
theorem sumL_get {f : Int -> Int} : ∀ {xs : List Int}, (∀ x ∈ xs, 0 <= f x) -> ∀ {a : Int}, a ∈ xs -> f a <= sumL f xs
  | [], _, a, ha => by cases ha
  | x :: r, h, a, ha => by
    have h1 := h x List.mem_cons_self
    have h3 : ∀ y ∈ r, 0 <= f y := fun y hy => h y (List.mem_cons_of_mem _ hy)
    have h2 := sumL_nn h3
    simp only [sumL]
    rcases List.mem_cons.1 ha with rfl | ha
    · omega
    · have := sumL_get h3 ha; omega
theorem sumL_zero {f : Int -> Int} {xs : List Int} (h : ∀ x ∈ xs, 0 <= f x) : sumL f xs = 0 ↔ ∀ x ∈ xs, f x = 0 := by
  constructor
  · intro h0 x hx
    have := sumL_get h hx
    have := h x hx
    omega
  · intro h0
    have := sumL_le (f := f) (g := fun _ => 0) (xs := xs) (fun x hx => by have := h0 x hx; omega)
    have e : sumL (fun _ => 0) xs = 0 := by
      clear h h0 this
      induction xs with
      | nil => rfl
      | cons x r ih => simp only [sumL]; omega
    have := sumL_nn h
    omega
theorem sumL_sumN (g : Int -> Nat -> Int) (m : Nat) : ∀ xs : List Int, sumL (fun a => sumN (g a) m) xs = sumN (fun j => sumL (fun a => g a j) xs) m
  | [] => (sumN_zero (fun _ _ => rfl)).symm
  | x :: r => by
    simp only [sumL]
    rw [sumN_add, sumL_sumN g m r]
theorem without_id {xs : List Int} {a : Int} (h : a ∉ xs) : without xs a = xs := by
  unfold without
  rw [List.filter_eq_self]
  intro x hx
  exact decide_eq_true (fun e => h (e ▸ hx))
theorem sumL_without {f : Int -> Int} : ∀ {xs : List Int}, Up xs -> ∀ {a : Int}, a ∈ xs -> sumL f xs = f a + sumL f (without xs a)
  | [], _, a, ha => by cases ha
  | x :: r, h, a, ha => by
    obtain ⟨h1, h2⟩ := List.pairwise_cons.1 h
    by_cases e : x = a
    · subst e
      have hx : x ∉ r := fun hm => by have := h1 x hm; omega
      have : without (x :: r) x = r := by
        unfold without
        rw [List.filter_cons, if_neg (by simp)]
        exact without_id hx
      rw [this]; rfl
    · have ha' : a ∈ r := by
        rcases List.mem_cons.1 ha with e' | h'
        · exact (e e'.symm).elim
        · exact h'
      have : without (x :: r) a = x :: without r a := by
        unfold without
        rw [List.filter_cons, if_pos (by simpa using e)]
      rw [this, sumL, sumL, sumL_without h2 ha']
      omega
theorem sumN_sub (f g : Nat -> Int) : ∀ n : Nat, sumN (fun i => f i - g i) n = sumN f n - sumN g n
  | 0 => rfl
  | n + 1 => by simp only [sumN]; rw [sumN_sub f g n]; omega
theorem sumN_mono {f g : Nat -> Int} : ∀ {n : Nat}, (∀ i, i < n -> f i <= g i) -> sumN f n <= sumN g n
  | 0, _ => Int.le_refl _
  | n + 1, h => by
    have h1 := sumN_mono (n := n) (fun i hi => h i (by omega))
    have h2 := h n (by omega)
    simp only [sumN]; omega
theorem sumN_nn {f : Nat -> Int} : ∀ {n : Nat}, (∀ i, i < n -> 0 <= f i) -> 0 <= sumN f n
  | 0, _ => Int.le_refl _
  | n + 1, h => by
    have h1 := sumN_nn (n := n) (fun i hi => h i (by omega))
    have h2 := h n (by omega)
    simp only [sumN]; omega
/-! the server is nearest -/
theorem srvF_le (row : List Int) : ∀ (xs : List Int) (b : Int), ix row (srvF row b xs) <= ix row b /\ ∀ x ∈ xs, ix row (srvF row b xs) <= ix row x
  | [], b => ⟨Int.le_refl _, fun x hx => by cases hx⟩
  | x :: r, b => by
    rw [srvF]
    obtain ⟨h1, h2⟩ := srvF_le row r (if ix row x < ix row b then x else b)
    by_cases e : ix row x < ix row b
    · rw [if_pos e] at h1 h2 ⊢
      refine ⟨by omega, fun y hy => ?_⟩
      rcases List.mem_cons.1 hy with rfl | hy
      · exact h1
      · exact h2 y hy
    · rw [if_neg e] at h1 h2 ⊢
      refine ⟨h1, fun y hy => ?_⟩
      rcases List.mem_cons.1 hy with rfl | hy
      · omega
      · exact h2 y hy
theorem near_le {row set : List Int} {x : Int} (hx : x ∈ set) : near row set <= ix row x := (srvF_le row set (ix set 0)).2 x hx
/-! the total less the prices -/
theorem sum_ix (ps : List Int) : ps.sum = sumN (fun j => ix ps (j : Int)) ps.length := by
  have h := sum_tab (fun j => ix ps (j : Int)) ps.length
  rw [tab_of] at h; exact h
def dueS (o : List Int) (d : List (List Int)) (ps : List Int) (a : Int) : Int := ix o a - clm d ps 1 a
def dueC (d : List (List Int)) (ps set : List Int) (j : Nat) : Int := near (ix d (j : Int)) set - ix ps (j : Int) + sumL (fun a => clmT d ps 1 a j) set
theorem gap_split {o : List Int} {d : List (List Int)} {ps : List Int} (hl : ps.length = d.length) (set : List Int) :
    total o d set - ps.sum = sumL (dueS o d ps) set + sumN (dueC d ps set) d.length := by
  have e1 : sumL (dueS o d ps) set = pay o set - sumL (fun a => clm d ps 1 a) set := by rw [pay_sumL]; exact sumL_sub _ _ set
  have e2 : sumL (fun a => clm d ps 1 a) set = sumN (fun j => sumL (fun a => clmT d ps 1 a j) set) d.length := by
    unfold clm; rw [hl]; exact sumL_sumN _ _ _
  have e3 : sumN (dueC d ps set) d.length = svc d set - ps.sum + sumN (fun j => sumL (fun a => clmT d ps 1 a j) set) d.length := by
    unfold dueC
    rw [sumN_add, sumN_sub, sum_ix ps, hl]; rfl
  unfold total
  omega
theorem dueC_nn {o : List Int} {d : List (List Int)} {ps set : List Int} (h : OpenOK o d set) (j : Nat) : 0 <= dueC d ps set j := by
  have h1 := sumL_get (f := fun a => clmT d ps 1 a j) (xs := set) (fun x _ => clmT_nn _ _ _ _ _) (srv_mem (ix d (j : Int)) h.pos)
  have h2 : ix ps (j : Int) - near (ix d (j : Int)) set <= clmT d ps 1 (srv (ix d (j : Int)) set) j := by
    unfold clmT near; omega
  unfold dueC
  omega
section
variable {o : List Int} {d : List (List Int)} {ps set : List Int}
theorem fair_due (hf : fairB o d ps = true) {a : Int} (h0 : 0 <= a) (h1 : a < o.length) : 0 <= dueS o d ps a := by
  have := of_decide_eq_true (allN_iff.1 hf a.toNat (by omega))
  rw [show ((a.toNat : Nat) : Int) = a by omega] at this
  unfold dueS; omega
theorem due_set (h : OpenOK o d set) (hf : fairB o d ps = true) : ∀ x ∈ set, 0 <= dueS o d ps x := fun x hx => by
  obtain ⟨k, hk, rfl⟩ := mem_ix hx
  exact fair_due hf (h.xin k hk).1 (h.xin k hk).2
theorem gap_nn (h : OpenOK o d set) (hl : ps.length = d.length) (hf : fairB o d ps = true) : ps.sum <= total o d set := by
  have e := gap_split (o := o) hl set
  have h1 := sumL_nn (due_set h hf)
  have h2 := sumN_nn (f := dueC d ps set) (n := d.length) (fun j _ => dueC_nn h j)
  omega
end

/-! the ascent ends where no price can be raised -/
end Go.Vc
namespace Go.Proofs.YteefjdbdknkcjaaGreat
open Go.Vc
set_option maxRecDepth 100000
set_option maxHeartbeats 1600000
set_option linter.unusedSimpArgs false
set_option linter.unusedVariables false

def g_fieldOfD : List AV -> Heap -> Prop × (Z -> Prop × AV × Heap)
  | [.bx 0 0, .int .i64 most], [(0, .box [.bytes code, .int .i64 a, .int .u64 s])] => (code.length <= 1000000000 /\ (0 <= a /\ a <= 1000000000000 - 3000) /\ 1 <= most /\ most <= 7, fun z => (Bdd z.xs z.xss /\ a <= z.a /\ z.a <= a + 1000, .agg [.sl 2, .mt 3], [(0, .box [.bytes code, .int .i64 z.a, .int .u64 z.s]), (2, .arr (.ints z.xs)), (3, .mat z.xss)]))
  | _, _ => (False, fun _ => (False, .undef, []))
theorem g_fieldOfD_eq (most : Int) (code : List UInt8) (a s : Int) : g_fieldOfD [.bx 0 0, .int .i64 most] [(0, .box [.bytes code, .int .i64 a, .int .u64 s])] = (code.length <= 1000000000 /\ (0 <= a /\ a <= 1000000000000 - 3000) /\ 1 <= most /\ most <= 7, fun z => (Bdd z.xs z.xss /\ a <= z.a /\ z.a <= a + 1000, .agg [.sl 2, .mt 3], [(0, .box [.bytes code, .int .i64 z.a, .int .u64 z.s]), (2, .arr (.ints z.xs)), (3, .mat z.xss)])) := (rfl)
theorem fieldOfD_ok (most : Int) (code : List UInt8) (a s : Int) (hp : code.length <= 1000000000 /\ (0 <= a /\ a <= 1000000000000 - 3000) /\ 1 <= most /\ most <= 7) : SpecZ Tryz.prog 131 [.bx 0 0, .int .i64 most] [(0, .box [.bytes code, .int .i64 a, .int .u64 s])] 1 (fun z => (Bdd z.xs z.xss /\ a <= z.a /\ z.a <= a + 1000, .agg [.sl 2, .mt 3], [(0, .box [.bytes code, .int .i64 z.a, .int .u64 z.s]), (2, .arr (.ints z.xs)), (3, .mat z.xss)])) := by
  refine fun_okZ (C := t_pickD ++ t_rawD ++ t_lineD ++ t_spoiltD ++ t_l2Close) (hint := hintX [4, 25] [(3, [.post, .mv 10 2, .mv 11 3]), (5, [.post, .mv 11 2, .mv 12 3]), (6, [.post, .mv 15 2, .mv 16 3])] 1 [75, 1000075, 113, 1000113, 111, 1000111, 168, 1000168] [] [] []) (((((t_pickD_ok).append t_rawD_ok).append t_lineD_ok).append t_spoiltD_ok).append t_l2Close_ok) mixed Tryz.func131 rfl (by kernel_rfl) rfl (Nat.le_refl _) (by decide) (upTo_look (k := 1) rfl) ?_
  show codeA _ _ _ _ _ _ _ _
  simp only [go_sem, Tryz.results131]
  obtain ⟨hc, ha, hm1, hm7⟩ := hp
  refine ⟨⟨hc, by omega, by omega⟩, fun z hz => fork_intro (fun _ => ?_) (fun _ => fork_intro (fun _ => ?_) (fun _ => ?_))⟩
  · exact ⟨⟨hc, by omega, hm1, hm7⟩, fun z1 h1 => ⟨⟨hc, by omega, h1.1⟩, fun z2 h2 => ⟨rfl, rfl, ⟨{ xs := z2.xs, xss := z2.xss, a := z2.a, s := z2.s }, ⟨h2.1, (by dsimp only; omega)⟩, ⟨rfl, rfl⟩, rfl, rfl⟩⟩⟩⟩
  · exact ⟨⟨hc, by omega, hm1, hm7⟩, fun z1 h1 => ⟨⟨hc, by omega, h1.1⟩, fun z2 h2 => ⟨rfl, rfl, ⟨{ xs := z2.xs, xss := z2.xss, a := z2.a, s := z2.s }, ⟨h2.1, (by dsimp only; omega)⟩, ⟨rfl, rfl⟩, rfl, rfl⟩⟩⟩⟩
  · refine ⟨⟨hc, by omega, hm1, hm7⟩, fun z1 h1 => ⟨h1.1, ⟨hc, by omega, ?_⟩, fun z2 h2 => ⟨rfl, rfl, ⟨{ xs := z2.xs, xss := z2.xss, a := z2.a, s := z2.s }, ⟨h2.1, (by dsimp only; omega)⟩, ⟨rfl, rfl⟩, rfl, rfl⟩⟩⟩⟩
    exact (closeD_ok h1.1.sh h1.1.m7 h1.1.n7).1.sh.field h1.1
def t_fieldOfD : Table := [(131, zC 1 1 g_fieldOfD)]
theorem t_fieldOfD_ok : TabOK Tryz.prog t_fieldOfD := .cons Tryz.func131 (by kernel_rfl) (.z (by decide) (by intro args pre _ hp; unfold g_fieldOfD at hp ⊢; split at hp <;> first | exact hp.elim | exact ⟨fun z hz => ⟨rfl, shape_box _ _ rfl rfl rfl⟩, fieldOfD_ok _ _ _ _ hp⟩)) (.nil _)
attribute [go_sem] g_fieldOfD_eq t_fieldOfD
def g_fieldD : List AV -> Heap -> Prop × (Z -> Prop × AV × Heap)
  | [.bx 0 0], [(0, .box [.bytes code, .int .i64 a, .int .u64 s])] => (code.length <= 1000000000 /\ (0 <= a /\ a <= 1000000000000 - 3000), fun z => (Bdd z.xs z.xss /\ a <= z.a /\ z.a <= a + 1000, .agg [.sl 3, .mt 4], [(0, .box [.bytes code, .int .i64 z.a, .int .u64 z.s]), (3, .arr (.ints z.xs)), (4, .mat z.xss)]))
  | _, _ => (False, fun _ => (False, .undef, []))
theorem g_fieldD_eq (code : List UInt8) (a s : Int) : g_fieldD [.bx 0 0] [(0, .box [.bytes code, .int .i64 a, .int .u64 s])] = (code.length <= 1000000000 /\ (0 <= a /\ a <= 1000000000000 - 3000), fun z => (Bdd z.xs z.xss /\ a <= z.a /\ z.a <= a + 1000, .agg [.sl 3, .mt 4], [(0, .box [.bytes code, .int .i64 z.a, .int .u64 z.s]), (3, .arr (.ints z.xs)), (4, .mat z.xss)])) := (rfl)
theorem fieldD_ok (code : List UInt8) (a s : Int) (hp : code.length <= 1000000000 /\ (0 <= a /\ a <= 1000000000000 - 3000)) : SpecZ Tryz.prog 72 [.bx 0 0] [(0, .box [.bytes code, .int .i64 a, .int .u64 s])] 1 (fun z => (Bdd z.xs z.xss /\ a <= z.a /\ z.a <= a + 1000, .agg [.sl 3, .mt 4], [(0, .box [.bytes code, .int .i64 z.a, .int .u64 z.s]), (3, .arr (.ints z.xs)), (4, .mat z.xss)])) := by
  refine fun_okZ (C := t_fieldOfD) (hint := hintX [2] [] 1 [131, 1000131] [] [] []) (t_fieldOfD_ok) mixed Tryz.func72 rfl (by kernel_rfl) rfl (Nat.le_refl _) (by decide) (upTo_look (k := 1) rfl) ?_
  show codeA _ _ _ _ _ _ _ _
  simp only [go_sem, Tryz.results72]
  obtain ⟨hc, ha⟩ := hp
  exact ⟨⟨hc, by omega, by omega, by omega⟩, fun z hz => ⟨{ xs := z.xs, xss := z.xss, a := z.a, s := z.s }, hz, ⟨rfl, rfl⟩, rfl, rfl⟩⟩
def t_fieldD : Table := [(72, zC 1 1 g_fieldD)]
theorem t_fieldD_ok : TabOK Tryz.prog t_fieldD := .cons Tryz.func72 (by kernel_rfl) (.z (by decide) (by intro args pre _ hp; unfold g_fieldD at hp ⊢; split at hp <;> first | exact hp.elim | exact ⟨fun z hz => ⟨rfl, shape_box _ _ rfl rfl rfl⟩, fieldD_ok _ _ _ hp⟩)) (.nil _)
attribute [go_sem] g_fieldD_eq t_fieldD
end Go.Proofs.YteefjdbdknkcjaaGreat
namespace Go.Proofs.YteefjdbdknkcjaaGreat
open Go.Vc
set_option maxRecDepth 100000
set_option maxHeartbeats 1600000
set_option linter.unusedSimpArgs false
set_option linter.unusedVariables false

def g_metricD : List AV -> Heap -> Prop × (Z -> Prop × AV × Heap)
  | [.bx 0 0], [(0, .box [.bytes code, .int .i64 a, .int .u64 s])] => (code.length <= 1000000000 /\ (0 <= a /\ a <= 1000000000000 - 3010), fun z => (Bdd z.xs z.xss, .agg [.sl 4, .mt 5], [(0, .box [.bytes code, .int .i64 z.a, .int .u64 z.s]), (4, .arr (.ints z.xs)), (5, .mat z.xss)]))
  | _, _ => (False, fun _ => (False, .undef, []))
theorem g_metricD_eq (code : List UInt8) (a s : Int) : g_metricD [.bx 0 0] [(0, .box [.bytes code, .int .i64 a, .int .u64 s])] = (code.length <= 1000000000 /\ (0 <= a /\ a <= 1000000000000 - 3010), fun z => (Bdd z.xs z.xss, .agg [.sl 4, .mt 5], [(0, .box [.bytes code, .int .i64 z.a, .int .u64 z.s]), (4, .arr (.ints z.xs)), (5, .mat z.xss)])) := (rfl)
theorem metricD_ok (code : List UInt8) (a s : Int) (hp : code.length <= 1000000000 /\ (0 <= a /\ a <= 1000000000000 - 3010)) : SpecZ Tryz.prog 51 [.bx 0 0] [(0, .box [.bytes code, .int .i64 a, .int .u64 s])] 1 (fun z => (Bdd z.xs z.xss, .agg [.sl 4, .mt 5], [(0, .box [.bytes code, .int .i64 z.a, .int .u64 z.s]), (4, .arr (.ints z.xs)), (5, .mat z.xss)])) := by
  refine fun_okZ (C := t_oneD ++ t_fieldD ++ t_lineD ++ t_rawD ++ t_l2Close) (hint := hintX [2, 13] [(4, [.post, .mv 5 4, .mv 6 5]), (5, [.post, .fz [12], .mv 8 4, .mv 10 5])] 1 [73, 1000073, 72, 1000072, 111, 1000111, 113, 1000113] [] [] []) (((((t_oneD_ok).append t_fieldD_ok).append t_lineD_ok).append t_rawD_ok).append t_l2Close_ok) mixed Tryz.func51 rfl (by kernel_rfl) rfl (Nat.le_refl _) (by decide) (upTo_look (k := 1) rfl) ?_
  show codeA _ _ _ _ _ _ _ _
  simp only [go_sem, Tryz.results51]
  obtain ⟨hc, ha⟩ := hp
  refine ⟨⟨hc, by omega, by omega⟩, fun z hz => fork_intro (fun _ => ?_) (fun _ => ?_)⟩
  · exact ⟨⟨hc, by omega⟩, fun z1 h1 => ⟨{ xs := z1.xs, xss := z1.xss, a := z1.a, s := z1.s }, h1.1, ⟨rfl, rfl⟩, rfl, rfl⟩⟩
  · refine ⟨⟨hc, by omega, by omega⟩, fun z1 h1 => fork_intro (fun _ => ?_) (fun _ => ?_)⟩
    · exact ⟨⟨hc, by omega, by omega, by omega⟩, fun z2 h2 => ⟨rfl, rfl, { xs := z2.xs, xss := z2.xss, a := z2.a, s := z2.s }, bdd_of h2.1, ⟨rfl, rfl⟩, rfl, rfl⟩⟩
    · refine ⟨⟨hc, by omega, by omega, by omega⟩, fun z2 h2 => ?_⟩
      have hcl := closeD_ok h2.1.sh h2.1.m7 h2.1.n7
      exact ⟨h2.1, rfl, rfl, { xs := z2.xs, xss := closeD z2.xss.length z2.xs.length z2.xss, a := z2.a, s := z2.s }, bdd_of (hcl.1.sh.field h2.1), ⟨rfl, rfl⟩, rfl, rfl⟩
def t_metricD : Table := [(51, zC 1 1 g_metricD)]
theorem t_metricD_ok : TabOK Tryz.prog t_metricD := .cons Tryz.func51 (by kernel_rfl) (.z (by decide) (by intro args pre _ hp; unfold g_metricD at hp ⊢; split at hp <;> first | exact hp.elim | exact ⟨fun z hz => ⟨rfl, shape_box _ _ rfl rfl rfl⟩, metricD_ok _ _ _ hp⟩)) (.nil _)
attribute [go_sem] g_metricD_eq t_metricD
def g_drawGrowth : List AV -> Heap -> Prop × (Z -> Prop × AV × Heap)
  | [.bytes code], [] => (code.length <= 1000000000, fun z => (Bdd z.xs z.xss, .agg [.ints z.xs, .rows z.xss], []))
  | _, _ => (False, fun _ => (False, .undef, []))
theorem g_drawGrowth_eq (code : List UInt8) : g_drawGrowth [.bytes code] [] = (code.length <= 1000000000, fun z => (Bdd z.xs z.xss, .agg [.ints z.xs, .rows z.xss], [])) := (rfl)
theorem drawGrowth_ok (code : List UInt8) (hp : code.length <= 1000000000) : SpecZ Tryz.prog 7 [.bytes code] [] 0 (fun z => (Bdd z.xs z.xss, .agg [.ints z.xs, .rows z.xss], [])) := by
  refine fun_okZ (C := t_metricD) (hint := hintX [2, 6] [(2, [.post, .fz [8]])] 0 [51, 1000051] [] [] []) (t_metricD_ok) mixed Tryz.func7 rfl (by kernel_rfl) rfl (Nat.le_refl _) (by decide) (upTo_look (k := 0) rfl) ?_
  show codeA _ _ _ _ _ _ _ _
  simp only [go_sem, Tryz.results7]
  exact ⟨⟨hp, by omega, by omega⟩, fun z hz => ⟨{ xs := z.xs, xss := z.xss }, hz, rfl, rfl⟩⟩
def t_drawGrowth : Table := [(7, zC 0 0 g_drawGrowth)]
theorem t_drawGrowth_ok : TabOK Tryz.prog t_drawGrowth := .cons Tryz.func7 (by kernel_rfl) (.z (by decide) (by intro args pre _ hp; unfold g_drawGrowth at hp ⊢; split at hp <;> first | exact hp.elim | exact ⟨fun z hz => ⟨rfl, fun r hr => absurd hr (Nat.not_lt_zero _)⟩, drawGrowth_ok _ hp⟩)) (.nil _)
attribute [go_sem] g_drawGrowth_eq t_drawGrowth
end Go.Proofs.YteefjdbdknkcjaaGreat
namespace Go.Proofs.YteefjdbdknkcjaaGreat
open Go.Vc
set_option maxRecDepth 100000
set_option maxHeartbeats 1600000
set_option linter.unusedSimpArgs false
set_option linter.unusedVariables false

theorem sum_take_bd {xs : List Int} (hx : ∀ x ∈ xs, -1000000000 <= x /\ x <= 1000000000) : ∀ {k : Nat}, k <= xs.length -> -1000000000 * (k : Int) <= (xs.take k).sum /\ (xs.take k).sum <= 1000000000 * (k : Int)
  | 0, _ => by simp
  | k + 1, h => by
    have ih := sum_take_bd hx (k := k) (by omega)
    have hm := hx _ (ix_mem xs (show k < xs.length by omega))
    rw [sum_take xs (by omega)]
    omega
def g_vBig : List AV -> Prop × AV
  | [.bytes code] => (code.length <= 9223372036854775807, .bool (decide (65536 < code.length)))
  | _ => (False, .undef)
theorem g_vBig_eq (code : List UInt8) : g_vBig [.bytes code] = (code.length <= 9223372036854775807, .bool (decide (65536 < code.length))) := (rfl)
theorem vBig_ok (code : List UInt8) (hp : code.length <= 9223372036854775807) : SpecOK Tryz.prog 6 [.bytes code] (.bool (decide (65536 < code.length))) [] := by
  refine fun_ok (C := []) (hint := hintX [] [] 0 [] [] [] []) (TabOK.nil _) mixed Tryz.func6 rfl (by kernel_rfl) rfl ?_
  show codeA _ _ _ _ _ _ _ _
  simp only [go_sem, Tryz.results6]
  rw [show decide ((65536 : Int) < code.length) = decide (65536 < code.length) from decide_eq_decide.2 (by omega)]
def t_vBig : Table := [(6, pureC g_vBig)]
theorem t_vBig_ok : TabOK Tryz.prog t_vBig := .cons Tryz.func6 (by kernel_rfl) (.pure (by intro args hp; unfold g_vBig at hp ⊢; split at hp <;> first | exact hp.elim | exact vBig_ok _ hp)) (.nil _)
attribute [go_sem] g_vBig_eq t_vBig
def g_vInts : List AV -> Prop × AV
  | [.ints xs, .ints ys] => (xs.length <= 1048576000 /\ ys.length <= 1048576000, .bool (decide (xs = ys)))
  | _ => (False, .undef)
theorem g_vInts_eq (xs ys : List Int) : g_vInts [.ints xs, .ints ys] = (xs.length <= 1048576000 /\ ys.length <= 1048576000, .bool (decide (xs = ys))) := (rfl)
theorem vInts_ok (xs ys : List Int) (hp : xs.length <= 1048576000 /\ ys.length <= 1048576000) : SpecOK Tryz.prog 18 [.ints xs, .ints ys] (.bool (decide (xs = ys))) [] := by
  refine fun_ok (C := []) (hint := hintX [] [] 0 [] [] [] []) (TabOK.nil _) mixed Tryz.func18 rfl (by kernel_rfl) rfl ?_
  show codeA _ _ _ _ _ _ _ _
  simp only [go_sem, Tryz.results18]
  refine fork_intro (fun hb => ?_) (fun hb => ?_)
  · have hlen : xs.length = ys.length := by omega
    refine loop_intro (fun k : Nat => [(5, .int .i64 k), (0, .ints xs), (1, .ints ys)]) (fun _ => []) 0 (fun k => k <= xs.length /\ xs.take k = ys.take k) (fun k => xs.length - k) 0 ⟨Nat.zero_le _, rfl⟩ (Nat.zero_le _) ?_ ?_
    · simp only [go_sem]
      repeat' (first | refine fork_intro (fun hb => ?_) (fun hb => ?_) | refine partB_intro (fun hb => ?_) (fun hb => ?_) | refine And.intro ?_ ?_)
      all_goals first | exact True.intro | omega | with_reducible rfl | exact congrArg (AV.int _) (by omega)
    · rintro k ⟨hk, ht⟩
      simp only [go_sem]
      refine fork_intro (fun hb => ?_) (fun hb => ?_)
      · have e := take_eq ht (ix_some xs (by omega)) (ix_some ys (show k < ys.length by omega))
        refine ⟨by omega, by omega, fork_intro (fun hc => ?_) (fun hc => ?_)⟩
        · have h2 := e.2 hc
          repeat' (first | refine fork_intro (fun hb => ?_) (fun hb => ?_) | refine partB_intro (fun hb => ?_) (fun hb => ?_) | refine And.intro ?_ ?_)
          all_goals first | exact True.intro | omega | with_reducible rfl | exact congrArg (AV.int _) (by omega) | (refine LoopEnd.intro (k + 1) (by first | omega | (first | exact ⟨by omega, h2⟩)) (by first | omega | (dsimp only; omega)) (by omega) ?_; simp only [go_sem]; (repeat' (first | refine fork_intro (fun hb => ?_) (fun hb => ?_) | refine partB_intro (fun hb => ?_) (fun hb => ?_) | refine And.intro ?_ ?_)); all_goals first | exact True.intro | omega | with_reducible rfl | exact congrArg (AV.int _) (by omega))
        · rw [decide_eq_false (show ¬ xs = ys from fun h => hc (e.1 (by rw [h])))]
      · rw [show k = xs.length by omega, List.take_length, hlen, List.take_length] at ht
        rw [decide_eq_true ht]
  · rw [decide_eq_false (show ¬ xs = ys from fun h => hb (by rw [h]))]
def t_vInts : Table := [(18, pureC g_vInts)]
theorem t_vInts_ok : TabOK Tryz.prog t_vInts := .cons Tryz.func18 (by kernel_rfl) (.pure (by intro args hp; unfold g_vInts at hp ⊢; split at hp <;> first | exact hp.elim | exact vInts_ok _ _ hp)) (.nil _)
attribute [go_sem] g_vInts_eq t_vInts
def g_vHas : List AV -> Prop × AV
  | [.ints xs, .int .i64 n] => (xs.length <= 1048576000, .bool (decide (n ∈ xs)))
  | _ => (False, .undef)
theorem g_vHas_eq (xs : List Int) (n : Int) : g_vHas [.ints xs, .int .i64 n] = (xs.length <= 1048576000, .bool (decide (n ∈ xs))) := (rfl)
theorem vHas_ok (xs : List Int) (n : Int) (hp : xs.length <= 1048576000) : SpecOK Tryz.prog 20 [.ints xs, .int .i64 n] (.bool (decide (n ∈ xs))) [] := by
  refine fun_ok (C := []) (hint := hintX [] [] 0 [] [] [] []) (TabOK.nil _) mixed Tryz.func20 rfl (by kernel_rfl) rfl ?_
  show codeA _ _ _ _ _ _ _ _
  simp only [go_sem, Tryz.results20]
  refine loop_intro (fun k : Nat => [(0, .ints xs), (1, .int .i64 n), (5, .int .i64 k)]) (fun _ => []) 0 (fun k => k <= xs.length /\ ∀ j : Nat, j < k -> ix xs (j : Int) ≠ n) (fun k => xs.length - k) 0 ⟨Nat.zero_le _, fun j h => absurd h (Nat.not_lt_zero _)⟩ (by omega) ?_ ?_
  · simp only [go_sem]
    repeat' (first | refine fork_intro (fun hb => ?_) (fun hb => ?_) | refine partB_intro (fun hb => ?_) (fun hb => ?_) | refine And.intro ?_ ?_)
    all_goals first | exact True.intro | omega | with_reducible rfl | exact congrArg (AV.int _) (by omega) | (first | rfl)
  · rintro k ⟨hk, ht⟩
    simp only [go_sem]
    refine fork_intro (fun hc => ?_) (fun hc => ?_)
    · refine ⟨by omega, fork_intro (fun hd => ?_) (fun hd => ?_)⟩
      · rw [decide_eq_true (show n ∈ xs from hd ▸ ix_mem xs (by omega))]
      · have hsu := below_succ (q := fun j : Nat => ix xs (j : Int) ≠ n) (k := k) ht hd
        repeat' (first | refine fork_intro (fun hb => ?_) (fun hb => ?_) | refine partB_intro (fun hb => ?_) (fun hb => ?_) | refine And.intro ?_ ?_)
        all_goals first | exact True.intro | omega | with_reducible rfl | exact congrArg (AV.int _) (by omega) | (refine LoopEnd.intro (k + 1) (by first | omega | (first | exact ⟨by omega, hsu⟩)) (by first | omega | (dsimp only; omega)) (by omega) ?_; simp only [go_sem]; (repeat' (first | refine fork_intro (fun hb => ?_) (fun hb => ?_) | refine partB_intro (fun hb => ?_) (fun hb => ?_) | refine And.intro ?_ ?_)); all_goals first | exact True.intro | omega | with_reducible rfl | exact congrArg (AV.int _) (by omega))
    · rw [decide_eq_false (fun hm => by obtain ⟨j, hj, e⟩ := mem_ix hm; exact ht j (by omega) e)]
def t_vHas : Table := [(20, pureC g_vHas)]
theorem t_vHas_ok : TabOK Tryz.prog t_vHas := .cons Tryz.func20 (by kernel_rfl) (.pure (by intro args hp; unfold g_vHas at hp ⊢; split at hp <;> first | exact hp.elim | exact vHas_ok _ _ hp)) (.nil _)
attribute [go_sem] g_vHas_eq t_vHas
def g_vSum : List AV -> Prop × AV
  | [.ints xs] => (xs.length <= 1000000 /\ ∀ x ∈ xs, -1000000000 <= x /\ x <= 1000000000, .int .i64 xs.sum)
  | _ => (False, .undef)
theorem g_vSum_eq (xs : List Int) : g_vSum [.ints xs] = (xs.length <= 1000000 /\ ∀ x ∈ xs, -1000000000 <= x /\ x <= 1000000000, .int .i64 xs.sum) := (rfl)
theorem vSum_ok (xs : List Int) (hp : xs.length <= 1000000 /\ ∀ x ∈ xs, -1000000000 <= x /\ x <= 1000000000) : SpecOK Tryz.prog 22 [.ints xs] (.int .i64 xs.sum) [] := by
  refine fun_ok (C := []) (hint := hintX [] [] 0 [] [] [] []) (TabOK.nil _) mixed Tryz.func22 rfl (by kernel_rfl) rfl ?_
  show codeA _ _ _ _ _ _ _ _
  simp only [go_sem, Tryz.results22]
  obtain ⟨hl, hx⟩ := hp
  refine loop_intro (fun k : Nat => [(3, .int .i64 (xs.take k).sum), (4, .int .i64 k), (0, .ints xs)]) (fun _ => []) 0 (fun k => k <= xs.length) (fun k => xs.length - k) 0 (Nat.zero_le _) (Nat.zero_le _) ?_ ?_
  · simp only [go_sem]
    repeat' (first | refine fork_intro (fun hb => ?_) (fun hb => ?_) | refine partB_intro (fun hb => ?_) (fun hb => ?_) | refine And.intro ?_ ?_)
    all_goals first | exact True.intro | omega | with_reducible rfl | exact congrArg (AV.int _) (by omega) | (first | rfl)
  · intro k hk
    have hs := sum_take_bd hx hk
    simp only [go_sem]
    refine fork_intro (fun hc => ?_) (fun hc => ?_)
    · have e := sum_take xs (k := k) (by omega)
      have hm := hx _ (ix_mem xs (show k < xs.length by omega))
      repeat' (first | refine fork_intro (fun hb => ?_) (fun hb => ?_) | refine partB_intro (fun hb => ?_) (fun hb => ?_) | refine And.intro ?_ ?_)
      all_goals first | exact True.intro | omega | with_reducible rfl | exact congrArg (AV.int _) (by omega) | (refine LoopEnd.intro (k + 1) (by first | omega) (by first | omega | (dsimp only; omega)) (by omega) ?_; simp only [go_sem]; (repeat' (first | refine fork_intro (fun hb => ?_) (fun hb => ?_) | refine partB_intro (fun hb => ?_) (fun hb => ?_) | refine And.intro ?_ ?_)); all_goals first | exact True.intro | omega | with_reducible rfl | exact congrArg (AV.int _) (by omega) | (first | rfl | rw [e])) | (first | rfl | rw [e])
    · rw [show k = xs.length by omega, List.take_length]
def t_vSum : Table := [(22, pureC g_vSum)]
theorem t_vSum_ok : TabOK Tryz.prog t_vSum := .cons Tryz.func22 (by kernel_rfl) (.pure (by intro args hp; unfold g_vSum at hp ⊢; split at hp <;> first | exact hp.elim | exact vSum_ok _ hp)) (.nil _)
attribute [go_sem] g_vSum_eq t_vSum
def srtd (xs : List Int) (k : Nat) : List Int := ((List.range k).map fun q : Nat => (q : Int) - 1).filter fun x => decide (x ∈ xs)
end Go.Proofs.YteefjdbdknkcjaaGreat
namespace Go.Proofs.YteefjdbdknkcjaaGreat
open Go.Vc
set_option maxRecDepth 100000
set_option maxHeartbeats 1600000
set_option linter.unusedSimpArgs false
set_option linter.unusedVariables false

def g_vPairs : List AV -> Prop × AV
  | [.pairs xs, .pairs ys] => (xs.length <= 1048576000 /\ ys.length <= 1048576000, .bool (decide (xs = ys)))
  | _ => (False, .undef)
theorem g_vPairs_eq (xs ys : List (Int × Int)) : g_vPairs [.pairs xs, .pairs ys] = (xs.length <= 1048576000 /\ ys.length <= 1048576000, .bool (decide (xs = ys))) := (rfl)
theorem vPairs_ok (xs ys : List (Int × Int)) (hp : xs.length <= 1048576000 /\ ys.length <= 1048576000) : SpecOK Tryz.prog 19 [.pairs xs, .pairs ys] (.bool (decide (xs = ys))) [] := by
  refine fun_ok (C := []) (hint := hintX [] [] 0 [] [] [] []) (TabOK.nil _) mixed Tryz.func19 rfl (by kernel_rfl) rfl ?_
  show codeA _ _ _ _ _ _ _ _
  simp only [go_sem, Tryz.results19]
  refine fork_intro (fun hb => ?_) (fun hb => ?_)
  · have hlen : xs.length = ys.length := by omega
    refine loop_intro (fun k : Nat => [(5, .int .i64 k), (0, .pairs xs), (1, .pairs ys)]) (fun _ => []) 0 (fun k => k <= xs.length /\ xs.take k = ys.take k) (fun k => xs.length - k) 0 ⟨Nat.zero_le _, rfl⟩ (Nat.zero_le _) ?_ ?_
    · simp only [go_sem]
      repeat' (first | refine fork_intro (fun hb => ?_) (fun hb => ?_) | refine partB_intro (fun hb => ?_) (fun hb => ?_) | refine And.intro ?_ ?_)
      all_goals first | exact True.intro | omega | with_reducible rfl | exact congrArg (AV.int _) (by omega)
    · rintro k ⟨hk, ht⟩
      simp only [go_sem]
      refine fork_intro (fun hb => ?_) (fun hb => ?_)
      · have e := take_eq ht (ix_some xs (by omega)) (ix_some ys (show k < ys.length by omega))
        have e3 : ix xs (k : Int) = ix ys (k : Int) ↔ (ix xs (k : Int)).1 = (ix ys (k : Int)).1 /\ (ix xs (k : Int)).2 = (ix ys (k : Int)).2 := Prod.ext_iff
        refine ⟨by omega, by omega, partB_intro (fun hx => ?_) (fun hx => ?_)⟩
        · simp only [Bool.and_eq_true, decide_eq_true_eq] at hx
          have h2 := e.2 (e3.2 hx)
          repeat' (first | refine fork_intro (fun hb => ?_) (fun hb => ?_) | refine partB_intro (fun hb => ?_) (fun hb => ?_) | refine And.intro ?_ ?_)
          all_goals first | exact True.intro | omega | with_reducible rfl | exact congrArg (AV.int _) (by omega) | (refine LoopEnd.intro (k + 1) (by first | omega | (first | exact ⟨by omega, h2⟩)) (by first | omega | (dsimp only; omega)) (by omega) ?_; simp only [go_sem]; (repeat' (first | refine fork_intro (fun hb => ?_) (fun hb => ?_) | refine partB_intro (fun hb => ?_) (fun hb => ?_) | refine And.intro ?_ ?_)); all_goals first | exact True.intro | omega | with_reducible rfl | exact congrArg (AV.int _) (by omega) | (first | rfl)) | (first | rfl)
        · simp only [Bool.and_eq_false_iff, decide_eq_false_iff_not] at hx
          rw [decide_eq_false (show ¬ xs = ys from fun h => by
            have h9 := e3.1 (e.1 (by rw [h]))
            rcases hx with hx | hx
            · exact hx h9.1
            · exact hx h9.2)]
      · rw [show k = xs.length by omega, List.take_length, hlen, List.take_length] at ht
        rw [decide_eq_true ht]
  · rw [decide_eq_false (show ¬ xs = ys from fun h => hb (by rw [h]))]
def t_vPairs : Table := [(19, pureC g_vPairs)]
theorem t_vPairs_ok : TabOK Tryz.prog t_vPairs := .cons Tryz.func19 (by kernel_rfl) (.pure (by intro args hp; unfold g_vPairs at hp ⊢; split at hp <;> first | exact hp.elim | exact vPairs_ok _ _ hp)) (.nil _)
attribute [go_sem] g_vPairs_eq t_vPairs
end Go.Proofs.YteefjdbdknkcjaaGreat
