/- Draws: fields, in part. -/
import Derived.Test.YteefjdbdknkcjaaGreatDA
import Derived.Test.YteefjdbdknkcjaaGreatA17
import Derived.Test.YteefjdbdknkcjaaGreatA20b
namespace Go.Proofs.YteefjdbdknkcjaaGreat
open Go.Vc
set_option maxRecDepth 100000
set_option maxHeartbeats 1600000
set_option linter.unusedSimpArgs false
set_option linter.unusedVariables false

def In99 (xs : List Int) : Prop := ∀ x ∈ xs, 0 <= x /\ x <= 99
theorem In99.nil : In99 [] := fun x hx => by cases hx
theorem In99.snoc {xs : List Int} (h : In99 xs) {n : Int} (hn : 0 <= n /\ n <= 99) : In99 (xs ++ [n]) := fun x hx => by
  rcases List.mem_append.1 hx with hx | hx
  · exact h x hx
  · rw [List.mem_singleton] at hx; subst hx; exact hn
def RowsIn (n : Nat) (D : List (List Int)) : Prop := ∀ r ∈ D, r.length = n /\ In99 r
theorem RowsIn.nil (n : Nat) : RowsIn n [] := fun x hx => by cases hx
theorem RowsIn.snoc {n : Nat} {D : List (List Int)} (h : RowsIn n D) {r : List Int} (hl : r.length = n) (hr : In99 r) : RowsIn n (D ++ [r]) := fun x hx => by
  rcases List.mem_append.1 hx with hx | hx
  · exact h x hx
  · rw [List.mem_singleton] at hx; subst hx; exact ⟨hl, hr⟩
theorem In99.set {xs : List Int} (h : In99 xs) (k : Nat) {n : Int} (hn : 0 <= n /\ n <= 99) : In99 (xs.set k n) := fun x hx => by
  rcases List.mem_or_eq_of_mem_set hx with hx | hx
  · exact h x hx
  · subst hx; exact hn
theorem RowsIn.at {n : Nat} {D : List (List Int)} (h : RowsIn n D) {i : Nat} (hi : i < D.length) : (ix D (i : Int)).length = n /\ In99 (ix D (i : Int)) := h _ (ix_mem D hi)
theorem RowsIn.upd {n : Nat} {D : List (List Int)} (h : RowsIn n D) {i : Nat} (hi : i < D.length) (k : Nat) {v : Int} (hv : 0 <= v /\ v <= 99) : RowsIn n (D.set i ((ix D (i : Int)).set k v)) := fun x hx => by
  rcases List.mem_or_eq_of_mem_set hx with hx | hx
  · exact h x hx
  · subst hx; exact ⟨by rw [List.length_set]; exact (h.at hi).1, (h.at hi).2.set k hv⟩
theorem rows_of {o : List Int} {d : List (List Int)} (h : FieldOK o d) : RowsIn o.length d := fun r hr => ⟨h.len r hr, h.d99 r hr⟩
theorem field_of {o : List Int} {d : List (List Int)} (h1 : 1 <= o.length) (h7 : o.length <= 7) (ho : In99 o) (hd : d.length <= 7) (hr : RowsIn o.length d) : FieldOK o d :=
  ⟨h1, h7, ho, hd, fun r hm => (hr r hm).1, fun r hm => (hr r hm).2⟩
theorem len_snoc {α : Type} (xs : List α) (x : α) : (xs ++ [x]).length = xs.length + 1 := by simp
theorem zfinF {Q : Z -> Prop} {o : List Int} {d : List (List Int)} {a s : Int} (h : Q { xs := o, xss := d, a := a, s := s }) {A : Z -> Prop} (hA : A { xs := o, xss := d, a := a, s := s }) : ∃ z, Q z /\ A z := ⟨_, h, hA⟩
theorem fork2 {A B : Prop} [Decidable A] [Decidable B] {X Y : Prop} (hx : A -> B -> X) (hy : ¬ (A /\ B) -> Y) : forkP A (forkP B X Y) Y :=
  fork_intro (fun h1 => fork_intro (fun h2 => hx h1 h2) (fun h2 => hy (fun h => h2 h.2))) (fun h1 => hy (fun h => h1 h.1))
def g_rawD : List AV -> Heap -> Prop × (Z -> Prop × AV × Heap)
  | [.bx 0 0, .int .i64 most], [(0, .box [.bytes code, .int .i64 a, .int .u64 s])] => (code.length <= 1000000000 /\ (0 <= a /\ a <= 1000000000000 - 1000) /\ 1 <= most /\ most <= 7, fun z => (FieldOK z.xs z.xss /\ a <= z.a /\ z.a <= a + 300, .agg [.sl 3, .mt 4], [(0, .box [.bytes code, .int .i64 z.a, .int .u64 z.s]), (3, .arr (.ints z.xs)), (4, .mat z.xss)]))
  | _, _ => (False, fun _ => (False, .undef, []))
theorem g_rawD_eq (most : Int) (code : List UInt8) (a s : Int) : g_rawD [.bx 0 0, .int .i64 most] [(0, .box [.bytes code, .int .i64 a, .int .u64 s])] = (code.length <= 1000000000 /\ (0 <= a /\ a <= 1000000000000 - 1000) /\ 1 <= most /\ most <= 7, fun z => (FieldOK z.xs z.xss /\ a <= z.a /\ z.a <= a + 300, .agg [.sl 3, .mt 4], [(0, .box [.bytes code, .int .i64 z.a, .int .u64 z.s]), (3, .arr (.ints z.xs)), (4, .mat z.xss)])) := (rfl)
theorem rawD_ok (most : Int) (code : List UInt8) (a s : Int) (hp : code.length <= 1000000000 /\ (0 <= a /\ a <= 1000000000000 - 1000) /\ 1 <= most /\ most <= 7) : SpecZ Tryz.prog 113 [.bx 0 0, .int .i64 most] [(0, .box [.bytes code, .int .i64 a, .int .u64 s])] 1 (fun z => (FieldOK z.xs z.xss /\ a <= z.a /\ z.a <= a + 300, .agg [.sl 3, .mt 4], [(0, .box [.bytes code, .int .i64 z.a, .int .u64 z.s]), (3, .arr (.ints z.xs)), (4, .mat z.xss)])) := by
  refine fun_okZ (C := t_pickD ++ t_amongD) (hint := hintX [4, 7, 51] [(2, [.post, .upf 7 0 (.arr (.ints [])), .upf 7 1 (.mat [])]), (7, [.cut [0, 1, 4, 6, 7, 8]]), (16, [.cut [0, 4, 7]])] 1 [75, 1000075, 142, 1000142] [] [(6, [2, 3, 0, 1, 4, 5, 6, 7, 8])] [(6, [2, 4, 2])]) ((t_pickD_ok).append t_amongD_ok) mixed Tryz.func113 rfl (by kernel_rfl) rfl (Nat.le_refl _) (by decide) (upTo_look (k := 1) rfl) ?_
  show codeA _ _ _ _ _ _ _ _
  simp only [go_sem, Tryz.results113]
  obtain ⟨hc, ha, hm1, hm7⟩ := hp
  refine ⟨⟨hc, by omega⟩, fun z1 h1 => ⟨⟨hc, by omega⟩, fun z2 h2 => ⟨⟨hc, by omega⟩, fun z3 h3 => ?_⟩⟩⟩
  simp only [List.mem_cons, List.not_mem_nil, or_false] at h1 h2 h3
  refine loop_intro (fun g : List Int × Int × Int => [(9, .int .i64 g.1.length), (5, .int .i64 z1.n), (1, .int .i64 most), (7, .bx 2 0), (0, .bx 0 0), (8, .int .i64 z3.n), (6, .int .i64 z2.n), (4, .bx 1 0)]) (fun g => [(0, .box [.bytes code, .int .i64 g.2.1, .int .u64 g.2.2]), (1, .box [.nils, .nils]), (2, .box [.sl 3, .mt 4]), (3, .arr (.ints g.1)), (4, .mat [])]) 5 (fun g => (g.1.length <= 7 /\ (g.1.length : Int) <= z1.n /\ (g.1.length : Int) <= most /\ a <= g.2.1 /\ g.2.1 <= a + 6 + 2 * g.1.length) /\ In99 g.1) (fun g => 7 - g.1.length) ([], z3.a, z3.s) ⟨⟨by simp, by simp; omega, by simp; omega, by dsimp only; omega, by simp; omega⟩, .nil⟩ (by omega) ?_ ?_
  · simp only [go_sem]
    rfl
  · rintro ⟨xs, a1, s1⟩ ⟨hx, hx99⟩
    simp only at hx hx99
    simp only [go_sem]
    refine fork2 (fun q1 q2 => ?_) (fun hq => stop_intro ?_)
    · refine ⟨⟨hc, by omega, by omega⟩, fun z hz => ⟨by omega, by omega, ?_⟩⟩
      refine LoopEnd.intro (xs ++ [z.n], z.a, z.s) ?_ ?_ (by omega) ?_
      · refine ⟨?_, hx99.snoc (by omega)⟩
        simp only [len_snoc]; omega
      · simp only [len_snoc]; omega
      · simp only [go_sem, len_snoc, Int.natCast_add, Int.natCast_one]
    · have hl1 : 1 <= xs.length := by omega
      simp only [go_sem]
      refine loop_intro (fun g : List (List Int) × Int × Int => [(10, .int .i64 g.1.length), (1, .int .i64 most), (7, .bx 2 0), (0, .bx 0 0), (8, .int .i64 z3.n), (6, .int .i64 z2.n), (4, .bx 1 0)]) (fun g => [(0, .box [.bytes code, .int .i64 g.2.1, .int .u64 g.2.2]), (1, .box [.nils, .nils]), (2, .box [.sl 3, .mt 4]), (3, .arr (.ints xs)), (4, .mat g.1)]) 5 (fun g => (g.1.length <= 7 /\ (g.1.length : Int) <= z2.n /\ (g.1.length : Int) <= most /\ a <= g.2.1 /\ g.2.1 <= a + 20 + 14 * g.1.length) /\ RowsIn xs.length g.1) (fun g => 7 - g.1.length) ([], a1, s1) ⟨⟨by simp, by simp; omega, by simp; omega, by dsimp only; omega, by simp; omega⟩, .nil _⟩ (by omega) ?_ ?_
      · simp only [go_sem]
        rfl
      · rintro ⟨D, a2, s2⟩ ⟨hD, hDr⟩
        simp only at hD hDr
        simp only [go_sem]
        refine fork2 (fun q1 q2 => ?_) (fun hq => stop_intro ?_)
        · refine loop_intro (fun g : List Int × Int × Int => [(12, .int .i64 g.1.length), (11, .sl 5), (10, .int .i64 D.length), (1, .int .i64 most), (7, .bx 2 0), (0, .bx 0 0), (8, .int .i64 z3.n), (6, .int .i64 z2.n), (4, .bx 1 0)]) (fun g => [(0, .box [.bytes code, .int .i64 g.2.1, .int .u64 g.2.2]), (1, .box [.nils, .nils]), (2, .box [.sl 3, .mt 4]), (3, .arr (.ints xs)), (4, .mat D), (5, .arr (.ints g.1))]) 6 (fun g => (g.1.length <= xs.length /\ a <= g.2.1 /\ g.2.1 <= a2 + 2 * g.1.length) /\ In99 g.1) (fun g => 7 - g.1.length) ([], a2, s2) ⟨⟨by simp, by dsimp only; omega, by simp⟩, .nil⟩ (by omega) ?_ ?_
          · simp only [go_sem]
            rfl
          · rintro ⟨r, a3, s3⟩ ⟨hr, hr99⟩
            simp only at hr hr99
            simp only [go_sem]
            refine fork_intro (fun q3 => ?_) (fun q3 => ?_)
            · refine ⟨⟨hc, by omega, by omega⟩, fun z hz => ⟨by omega, by omega, ?_⟩⟩
              refine LoopEnd.intro (r ++ [z.n], z.a, z.s) ?_ ?_ (by omega) ?_
              · refine ⟨?_, hr99.snoc (by omega)⟩
                simp only [len_snoc]; omega
              · simp only [len_snoc]; omega
              · simp only [go_sem, len_snoc, Int.natCast_add, Int.natCast_one]
            · have hrl : r.length = xs.length := by omega
              refine ⟨by omega, by omega, LoopEnd.intro (D ++ [r], a3, s3) ?_ ?_ (by omega) ?_⟩
              · refine ⟨?_, hDr.snoc hrl hr99⟩
                simp only [len_snoc]; omega
              · simp only [len_snoc]; omega
              · simp only [go_sem, len_snoc, Int.natCast_add, Int.natCast_one]
        · simp only [go_sem]
          exact ⟨{ xs := xs, xss := D, a := a2, s := s2 }, ⟨field_of hl1 hx.1 hx99 hD.1 hDr, (by dsimp only; omega)⟩, ⟨rfl, rfl⟩, rfl, rfl⟩
def t_rawD : Table := [(113, zC 1 1 g_rawD)]
theorem t_rawD_ok : TabOK Tryz.prog t_rawD := .cons Tryz.func113 (by kernel_rfl) (.z (by decide) (by intro args pre _ hp; unfold g_rawD at hp ⊢; split at hp <;> first | exact hp.elim | exact ⟨fun z hz => ⟨rfl, shape_box _ _ rfl rfl rfl⟩, rawD_ok _ _ _ _ hp⟩)) (.nil _)
attribute [go_sem] g_rawD_eq t_rawD
def g_lineD : List AV -> Heap -> Prop × (Z -> Prop × AV × Heap)
  | [.bx 0 0, .int .i64 most], [(0, .box [.bytes code, .int .i64 a, .int .u64 s])] => (code.length <= 1000000000 /\ (0 <= a /\ a <= 1000000000000 - 1000) /\ 1 <= most /\ most <= 7, fun z => (FieldOK z.xs z.xss /\ a <= z.a /\ z.a <= a + 400, .agg [.sl 4, .mt 5], [(0, .box [.bytes code, .int .i64 z.a, .int .u64 z.s]), (4, .arr (.ints z.xs)), (5, .mat z.xss)]))
  | _, _ => (False, fun _ => (False, .undef, []))
theorem g_lineD_eq (most : Int) (code : List UInt8) (a s : Int) : g_lineD [.bx 0 0, .int .i64 most] [(0, .box [.bytes code, .int .i64 a, .int .u64 s])] = (code.length <= 1000000000 /\ (0 <= a /\ a <= 1000000000000 - 1000) /\ 1 <= most /\ most <= 7, fun z => (FieldOK z.xs z.xss /\ a <= z.a /\ z.a <= a + 400, .agg [.sl 4, .mt 5], [(0, .box [.bytes code, .int .i64 z.a, .int .u64 z.s]), (4, .arr (.ints z.xs)), (5, .mat z.xss)])) := (rfl)
theorem lineD_ok (most : Int) (code : List UInt8) (a s : Int) (hp : code.length <= 1000000000 /\ (0 <= a /\ a <= 1000000000000 - 1000) /\ 1 <= most /\ most <= 7) : SpecZ Tryz.prog 111 [.bx 0 0, .int .i64 most] [(0, .box [.bytes code, .int .i64 a, .int .u64 s])] 1 (fun z => (FieldOK z.xs z.xss /\ a <= z.a /\ z.a <= a + 400, .agg [.sl 4, .mt 5], [(0, .box [.bytes code, .int .i64 z.a, .int .u64 z.s]), (4, .arr (.ints z.xs)), (5, .mat z.xss)])) := by
  refine fun_okZ (C := t_pickD ++ t_rawD ++ t_most2) (hint := hintX [4, 5, 14] [] 1 [75, 1000075, 113, 1000113] [] [] []) (((t_pickD_ok).append t_rawD_ok).append t_most2_ok) mixed Tryz.func111 rfl (by kernel_rfl) rfl (Nat.le_refl _) (by decide) (upTo_look (k := 1) rfl) ?_
  show codeA _ _ _ _ _ _ _ _
  simp only [go_sem, Tryz.results111]
  obtain ⟨hc, ha, hm1, hm7⟩ := hp
  refine ⟨⟨hc, by omega, hm1, hm7⟩, fun z1 h1 => ?_⟩
  have hf := h1.1
  have hn1 := hf.n1
  have hn7 := hf.n7
  have hd7 := hf.m7
  refine loop_intro (fun g : List Int × Int × Int => [(7, .int .i64 g.1.length), (6, .sl 6), (5, .bx 7 0), (0, .bx 0 0), (4, .bx 1 0)]) (fun g => [(0, .box [.bytes code, .int .i64 g.2.1, .int .u64 g.2.2]), (1, .box [.nils, .nils]), (4, .arr (.ints z1.xs)), (5, .mat z1.xss), (6, .arr (.ints g.1)), (7, .box [.sl 4, .mt 5])]) 8 (fun g => (g.1.length <= z1.xs.length /\ a <= g.2.1 /\ g.2.1 <= a + 300 + 2 * g.1.length) /\ ∀ x ∈ g.1, 0 <= x /\ x <= 19) (fun g => 7 - g.1.length) ([], z1.a, z1.s) ⟨⟨by simp, by dsimp only; omega, by simp; omega⟩, fun x hx => by cases hx⟩ (by omega) ?_ ?_
  · simp only [go_sem]
    rfl
  · rintro ⟨ps, a1, s1⟩ ⟨hx, hx19⟩
    simp only at hx hx19
    simp only [go_sem]
    refine fork_intro (fun q1 => ?_) (fun q1 => ?_)
    · refine ⟨⟨hc, by omega⟩, fun z hz => ⟨by omega, by omega, ?_⟩⟩
      refine LoopEnd.intro (ps ++ [z.n], z.a, z.s) ?_ ?_ (by omega) ?_
      · refine ⟨?_, fun x hx => ?_⟩
        · simp only [len_snoc]; omega
        · rcases List.mem_append.1 hx with hx | hx
          · exact hx19 x hx
          · rw [List.mem_singleton] at hx; subst hx; omega
      · simp only [len_snoc]; omega
      · simp only [go_sem, len_snoc, Int.natCast_add, Int.natCast_one]
    · have hpl : ps.length = z1.xs.length := by omega
      have h19 : ∀ k : Nat, k < ps.length -> 0 <= ix ps (k : Int) /\ ix ps (k : Int) <= 19 := fun k hk => hx19 _ (ix_mem ps hk)
      refine loop_intro (fun g : Nat × List (List Int) × Int × Int => [(8, .int .i64 g.1), (6, .sl 6), (5, .bx 7 0), (0, .bx 0 0), (4, .bx 1 0)]) (fun g => [(0, .box [.bytes code, .int .i64 g.2.2.1, .int .u64 g.2.2.2]), (1, .box [.nils, .nils]), (4, .arr (.ints z1.xs)), (5, .mat g.2.1), (6, .arr (.ints ps)), (7, .box [.sl 4, .mt 5])]) 8 (fun g => (g.1 <= z1.xss.length /\ g.2.1.length = z1.xss.length /\ a <= g.2.2.1 /\ g.2.2.1 <= a + 320 + 2 * g.1) /\ RowsIn z1.xs.length g.2.1) (fun g => 7 - g.1) (0, z1.xss, a1, s1) ⟨⟨by simp, rfl, by dsimp only; omega, by dsimp only; omega⟩, rows_of hf⟩ (by omega) ?_ ?_
      · simp only [go_sem]
        rfl
      · rintro ⟨i, D, a2, s2⟩ ⟨hD, hDr⟩
        simp only at hD hDr
        simp only [go_sem]
        refine fork_intro (fun q2 => ?_) (fun q2 => ?_)
        · refine ⟨⟨hc, by omega⟩, fun z hz => ?_⟩
          refine loop_intro (fun g : Nat × List (List Int) => [(10, .int .i64 g.1), (9, .int .i64 z.n), (8, .int .i64 i), (6, .sl 6), (5, .bx 7 0), (0, .bx 0 0), (4, .bx 1 0)]) (fun g => [(0, .box [.bytes code, .int .i64 z.a, .int .u64 z.s]), (1, .box [.nils, .nils]), (4, .arr (.ints z1.xs)), (5, .mat g.2), (6, .arr (.ints ps)), (7, .box [.sl 4, .mt 5])]) 8 (fun g => (g.1 <= z1.xs.length /\ g.2.length = z1.xss.length) /\ RowsIn z1.xs.length g.2) (fun g => 7 - g.1) (0, D) ⟨⟨by simp, hD.2.1⟩, hDr⟩ (by omega) ?_ ?_
          · simp only [go_sem]
            rfl
          · rintro ⟨k, E⟩ ⟨hE, hEr⟩
            simp only at hE hEr
            simp only [go_sem]
            refine fork_intro (fun q3 => ?_) (fun q3 => ?_)
            · have hrow := hEr.at (i := i) (by omega)
              have hpk := h19 k (by omega)
              refine ⟨by omega, by omega, by omega, by omega, by omega, by omega, by omega, ?_⟩
              refine LoopEnd.intro (k + 1, E.set i ((ix E (i : Int)).set k (max (z.n - ix ps (k : Int)) (ix ps (k : Int) - z.n)))) ?_ ?_ (by omega) ?_
              · exact ⟨⟨by dsimp only; omega, by dsimp only; rw [List.length_set]; exact hE.2⟩, hEr.upd (by omega) k (by omega)⟩
              · dsimp only; omega
              · simp only [go_sem, Int.natCast_add, Int.natCast_one]
            · refine ⟨by omega, ?_⟩
              refine LoopEnd.intro (i + 1, E, z.a, z.s) ?_ ?_ (by omega) ?_
              · exact ⟨by dsimp only; omega, hEr⟩
              · dsimp only; omega
              · simp only [go_sem, Int.natCast_add, Int.natCast_one]
        · exact ⟨{ xs := z1.xs, xss := D, a := a2, s := s2 }, ⟨field_of hn1 hn7 hf.o99 (show D.length <= 7 by omega) hDr, (by dsimp only; omega)⟩, ⟨rfl, rfl⟩, rfl, rfl⟩
def t_lineD : Table := [(111, zC 1 1 g_lineD)]
theorem t_lineD_ok : TabOK Tryz.prog t_lineD := .cons Tryz.func111 (by kernel_rfl) (.z (by decide) (by intro args pre _ hp; unfold g_lineD at hp ⊢; split at hp <;> first | exact hp.elim | exact ⟨fun z hz => ⟨rfl, shape_box _ _ rfl rfl rfl⟩, lineD_ok _ _ _ _ hp⟩)) (.nil _)
attribute [go_sem] g_lineD_eq t_lineD
/-- Small enough for any count. -/
def Bdd (o : List Int) (d : List (List Int)) : Prop := o.length <= 1000 /\ d.length <= 1000 /\ ∀ x ∈ d, x.length <= 1000
theorem bdd_of {o : List Int} {d : List (List Int)} (h : FieldOK o d) : Bdd o d := ⟨by have := h.n7; omega, by have := h.m7; omega, fun x hx => by rw [h.len x hx]; have := h.n7; omega⟩
theorem zfinS {o : List Int} {d : List (List Int)} {a0 a s : Int} (h : Bdd o d) (ha : a0 <= a /\ a <= a0 + 100) : ∃ z : Z, (Bdd z.xs z.xss /\ a0 <= z.a /\ z.a <= a0 + 100) /\ (AV.int .i64 a = AV.int .i64 z.a /\ AV.int .u64 s = AV.int .u64 z.s) /\ AV.ints o = AV.ints z.xs /\ d = z.xss := ⟨{ xs := o, xss := d, a := a, s := s }, ⟨h, ha⟩, ⟨rfl, rfl⟩, rfl, rfl⟩
def g_spoiltD : List AV -> Heap -> Prop × (Z -> Prop × AV × Heap)
  | [.bx 0 0, .agg [.sl 1, .mt 2]], [(0, .box [.bytes code, .int .i64 a, .int .u64 s]), (1, .arr (.ints o)), (2, .mat d)] => (code.length <= 1000000000 /\ (0 <= a /\ a <= 1000000000000 - 1000) /\ FieldOK o d, fun z => (Bdd z.xs z.xss /\ a <= z.a /\ z.a <= a + 100, .agg [.sl 5, .mt 6], [(0, .box [.bytes code, .int .i64 z.a, .int .u64 z.s]), (5, .arr (.ints z.xs)), (6, .mat z.xss)]))
  | _, _ => (False, fun _ => (False, .undef, []))
theorem g_spoiltD_eq (o : List Int) (d : List (List Int)) (code : List UInt8) (a s : Int) : g_spoiltD [.bx 0 0, .agg [.sl 1, .mt 2]] [(0, .box [.bytes code, .int .i64 a, .int .u64 s]), (1, .arr (.ints o)), (2, .mat d)] = (code.length <= 1000000000 /\ (0 <= a /\ a <= 1000000000000 - 1000) /\ FieldOK o d, fun z => (Bdd z.xs z.xss /\ a <= z.a /\ z.a <= a + 100, .agg [.sl 5, .mt 6], [(0, .box [.bytes code, .int .i64 z.a, .int .u64 z.s]), (5, .arr (.ints z.xs)), (6, .mat z.xss)])) := (rfl)
theorem spoiltD_ok (o : List Int) (d : List (List Int)) (code : List UInt8) (a s : Int) (hp : code.length <= 1000000000 /\ (0 <= a /\ a <= 1000000000000 - 1000) /\ FieldOK o d) : SpecZ Tryz.prog 168 [.bx 0 0, .agg [.sl 1, .mt 2]] [(0, .box [.bytes code, .int .i64 a, .int .u64 s]), (1, .arr (.ints o)), (2, .mat d)] 1 (fun z => (Bdd z.xs z.xss /\ a <= z.a /\ z.a <= a + 100, .agg [.sl 5, .mt 6], [(0, .box [.bytes code, .int .i64 z.a, .int .u64 z.s]), (5, .arr (.ints z.xs)), (6, .mat z.xss)])) := by
  refine fun_okZ (C := t_pickD ++ t_amongD ++ t_ownI) (hint := hintX [3, 4, 59] [(16, [.drop [1, 2, 3] 5, .post, .upf 4 0 (.arr (.ints [])), .upf 4 1 (.mat [])]), (17, [.skip, .skip, .mv 1 5, .mv 2 6])] 1 [75, 1000075, 142, 1000142] [] [(6, [3, 4, 0, 1, 2, 5, 6, 7]), (9, [5, 6, 0, 1, 2, 3, 4, 7, 8, 9])] [(6, [2, 5, 1]), (9, [2, 7, 1])]) (((t_pickD_ok).append t_amongD_ok).append t_ownI_ok) mixed Tryz.func168 rfl (by kernel_rfl) rfl (Nat.le_refl _) (by decide) (upTo_look (k := 3) rfl) ?_
  show codeA _ _ _ _ _ _ _ _
  simp only [go_sem, Tryz.results168]
  obtain ⟨hc, ha, hf⟩ := hp
  have hn1 := hf.n1
  have hn7 := hf.n7
  have hd7 := hf.m7
  have hb := bdd_of hf
  have hset : ∀ (k : Nat) (v : Int), Bdd (o.set k v) d := fun k v => ⟨by rw [List.length_set]; exact hb.1, hb.2⟩
  refine fork_intro (fun h => by omega) (fun _ => ⟨⟨hc, by omega, by omega⟩, fun z hz => ⟨⟨hc, by omega, by omega⟩, fun z1 hz1 => ?_⟩⟩)
  refine fork_intro (fun _ => ⟨⟨hc, by omega⟩, fun z2 hz2 => ⟨by omega, rfl, rfl, zfinS (hset _ _) (by omega)⟩⟩) (fun _ => fork_intro (fun _ => fork_intro (fun hd => ?_) (fun _ => ⟨rfl, rfl, zfinS hb (by omega)⟩)) (fun _ => ?_))
  · have hl : (ix d 0).length = o.length := hf.len _ (ix_memI d (by omega) (by omega))
    refine ⟨by omega, by omega, ⟨hc, by omega⟩, fun z2 hz2 => ⟨by omega, by omega, rfl, rfl, zfinS ⟨hb.1, by rw [List.length_set]; exact hb.2.1, fun x hx => ?_⟩ (by omega)⟩⟩
    rcases List.mem_or_eq_of_mem_set hx with hx | hx
    · exact hb.2.2 x hx
    · subst hx; rw [List.length_set]; omega
  · refine fork_intro (fun _ => ⟨by omega, rfl, rfl, zfinS ⟨by simp; omega, hb.2⟩ (by omega)⟩) (fun _ => fork_intro (fun _ => ?_) (fun _ => fork_intro (fun _ => zfinS ⟨by simp, by simp, fun x hx => by cases hx⟩ (by omega)) (fun _ => ⟨rfl, rfl, zfinS hb (by omega)⟩)))
    refine loop_intro (fun g : List (List Int) => [(3, .bx 3 0), (4, .bx 4 0), (0, .bx 0 0)]) (fun g => [(4, .box [.nils, .nils]), (3, .box [.sl 1, .mt 2]), (0, .box [.bytes code, .int .i64 z1.a, .int .u64 z1.s]), (1, .arr (.ints o)), (2, .mat g)]) 5 (fun g => g.length <= 8 /\ ∀ x ∈ g, x.length <= 1000) (fun g => 8 - g.length) d ⟨by omega, hb.2.2⟩ (by omega) ?_ ?_
    · simp only [go_sem]
    · rintro D ⟨hD, hDr⟩
      simp only [go_sem]
      refine fork_intro (fun q1 => ?_) (fun q1 => ⟨rfl, rfl, zfinS ⟨hb.1, by omega, hDr⟩ (by omega)⟩)
      refine ⟨by omega, by omega, LoopEnd.intro (D ++ [o]) ?_ ?_ (by omega) ?_⟩
      · refine ⟨by rw [len_snoc]; omega, fun x hx => ?_⟩
        rcases List.mem_append.1 hx with hx | hx
        · exact hDr x hx
        · rw [List.mem_singleton] at hx; subst hx; omega
      · rw [len_snoc]; omega
      · simp only [go_sem]
def t_spoiltD : Table := [(168, zC 3 1 g_spoiltD)]
theorem t_spoiltD_ok : TabOK Tryz.prog t_spoiltD := .cons Tryz.func168 (by kernel_rfl) (.z (by decide) (by intro args pre _ hp; unfold g_spoiltD at hp ⊢; split at hp <;> first | exact hp.elim | exact ⟨fun z hz => ⟨rfl, shape_box _ _ rfl rfl rfl⟩, spoiltD_ok _ _ _ _ _ hp⟩)) (.nil _)
attribute [go_sem] g_spoiltD_eq t_spoiltD
end Go.Proofs.YteefjdbdknkcjaaGreat