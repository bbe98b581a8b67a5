/- Draws of texts. -/
import Derived.Test.YtkjfmabadpfgaaaDoorDA
namespace Go.Proofs.YtkjfmabadpfgaaaDoor
open Go.Vc
set_option maxRecDepth 100000
set_option maxHeartbeats 1600000
set_option linter.unusedSimpArgs false
set_option linter.unusedVariables false
theorem zfinT {Q : Z -> Prop} {v : ByteArray} {a s : Int} (h : Q { b := v, a := a, s := s }) : ∃ z, Q z /\ AV.str v = AV.str z.b /\ AV.int .i64 a = AV.int .i64 z.a /\ AV.int .u64 s = AV.int .u64 z.s := ⟨_, h, rfl, rfl, rfl⟩
def g_ofD : List AV -> Heap -> Prop × (Z -> Prop × AV × Heap)
  | [.bx 0 0, .strs xs], [(0, .box [.bytes code, .int .i64 a, .int .u64 s])] => (code.length <= 1000000000 /\ (0 <= a /\ a <= 1000000000000 - 10) /\ 1 <= xs.length /\ xs.length <= 100, fun z => (z.b ∈ xs /\ a <= z.a /\ z.a <= a + 2, .str z.b, [(0, .box [.bytes code, .int .i64 z.a, .int .u64 z.s])]))
  | _, _ => (False, fun _ => (False, .undef, []))
theorem g_ofD_eq (xs : List ByteArray) (code : List UInt8) (a s : Int) : g_ofD [.bx 0 0, .strs xs] [(0, .box [.bytes code, .int .i64 a, .int .u64 s])] = (code.length <= 1000000000 /\ (0 <= a /\ a <= 1000000000000 - 10) /\ 1 <= xs.length /\ xs.length <= 100, fun z => (z.b ∈ xs /\ a <= z.a /\ z.a <= a + 2, .str z.b, [(0, .box [.bytes code, .int .i64 z.a, .int .u64 z.s])])) := (rfl)
theorem ofD_ok (xs : List ByteArray) (code : List UInt8) (a s : Int) (hp : code.length <= 1000000000 /\ (0 <= a /\ a <= 1000000000000 - 10) /\ 1 <= xs.length /\ xs.length <= 100) : SpecZ Tryd.prog 26 [.bx 0 0, .strs xs] [(0, .box [.bytes code, .int .i64 a, .int .u64 s])] 1 (fun z => (z.b ∈ xs /\ a <= z.a /\ z.a <= a + 2, .str z.b, [(0, .box [.bytes code, .int .i64 z.a, .int .u64 z.s])])) := by
  refine fun_okZ (C := t_pickD) (hint := hintX [] [] 1 [28, 1000028] [] [] []) (t_pickD_ok) mixed Tryd.func26 rfl (by kernel_rfl) rfl (Nat.le_refl _) (by decide) (upTo_look (k := 1) rfl) ?_
  show codeA _ _ _ _ _ _ _ _
  simp only [go_sem, Tryd.results26]
  obtain ⟨hc, ha, h1, h2⟩ := hp
  refine ⟨⟨hc, by omega, by omega⟩, fun z hz => ⟨by omega, zfinT ?_⟩⟩
  obtain ⟨m, hm⟩ : ∃ m : Nat, z.n = m := ⟨z.n.toNat, by omega⟩
  rw [hm]
  exact ⟨ix_mem xs (by omega), (by dsimp only; omega)⟩
def t_ofD : Table := [(26, zC 1 1 g_ofD)]
theorem t_ofD_ok : TabOK Tryd.prog t_ofD := .cons Tryd.func26 (by kernel_rfl) (.z (by decide) (by intro args pre _ hp; unfold g_ofD at hp ⊢; split at hp <;> first | exact hp.elim | exact ⟨fun z hz => ⟨rfl, shape_box _ _ rfl rfl rfl⟩, ofD_ok _ _ _ _ hp⟩)) (.nil _)
attribute [go_sem] g_ofD_eq t_ofD
theorem mem_size {xs : List ByteArray} {n : Nat} (h : (xs.all fun x => decide (x.size <= n)) = true) {x : ByteArray} (hx : x ∈ xs) : x.size <= n := of_decide_eq_true (List.all_eq_true.1 h x hx)
def g_any1D : List AV -> Heap -> Prop × (Z -> Prop × AV × Heap)
  | [.bx 0 0], [(0, .box [.bytes code, .int .i64 a, .int .u64 s])] => (code.length <= 1000000000 /\ (0 <= a /\ a <= 1000000000000 - 10), fun z => (z.b.size <= 10 /\ a <= z.a /\ z.a <= a + 2, .str z.b, [(0, .box [.bytes code, .int .i64 z.a, .int .u64 z.s])]))
  | _, _ => (False, fun _ => (False, .undef, []))
theorem g_any1D_eq (code : List UInt8) (a s : Int) : g_any1D [.bx 0 0] [(0, .box [.bytes code, .int .i64 a, .int .u64 s])] = (code.length <= 1000000000 /\ (0 <= a /\ a <= 1000000000000 - 10), fun z => (z.b.size <= 10 /\ a <= z.a /\ z.a <= a + 2, .str z.b, [(0, .box [.bytes code, .int .i64 z.a, .int .u64 z.s])])) := (rfl)
theorem any1D_ok (code : List UInt8) (a s : Int) (hp : code.length <= 1000000000 /\ (0 <= a /\ a <= 1000000000000 - 10)) : SpecZ Tryd.prog 25 [.bx 0 0] [(0, .box [.bytes code, .int .i64 a, .int .u64 s])] 1 (fun z => (z.b.size <= 10 /\ a <= z.a /\ z.a <= a + 2, .str z.b, [(0, .box [.bytes code, .int .i64 z.a, .int .u64 z.s])])) := by
  refine fun_okZ (C := t_ofD) (hint := hintX [] [] 1 [26, 1000026] [] [] []) (t_ofD_ok) mixed Tryd.func25 rfl (by kernel_rfl) rfl (Nat.le_refl _) (by decide) (upTo_look (k := 1) rfl) ?_
  show codeA _ _ _ _ _ _ _ _
  simp only [go_sem, Tryd.results25]
  refine ⟨hp, fun z hz => zfinT ⟨mem_size (by decide) hz.1, hz.2⟩⟩
def t_any1D : Table := [(25, zC 1 1 g_any1D)]
theorem t_any1D_ok : TabOK Tryd.prog t_any1D := .cons Tryd.func25 (by kernel_rfl) (.z (by decide) (by intro args pre _ hp; unfold g_any1D at hp ⊢; split at hp <;> first | exact hp.elim | exact ⟨fun z hz => ⟨rfl, shape_box _ _ rfl rfl rfl⟩, any1D_ok _ _ _ hp⟩)) (.nil _)
attribute [go_sem] g_any1D_eq t_any1D
def g_dSplitD : List AV -> Heap -> Prop × (Z -> Prop × AV × Heap)
  | [.bytes code], [] => (code.length <= 1000000000, fun z => (z.b.size <= 10 /\ z.c.size <= 10, .tup [.str z.b, .str z.c], []))
  | _, _ => (False, fun _ => (False, .undef, []))
theorem g_dSplitD_eq (code : List UInt8) : g_dSplitD [.bytes code] [] = (code.length <= 1000000000, fun z => (z.b.size <= 10 /\ z.c.size <= 10, .tup [.str z.b, .str z.c], [])) := (rfl)
theorem dSplitD_ok (code : List UInt8) (hp : code.length <= 1000000000) : SpecZ Tryd.prog 6 [.bytes code] [] 0 (fun z => (z.b.size <= 10 /\ z.c.size <= 10, .tup [.str z.b, .str z.c], [])) := by
  refine fun_okZ (C := t_any1D ++ t_ofD) (hint := hintX [8] [] 0 [25, 1000025, 26, 1000026] [] [] []) ((t_any1D_ok).append t_ofD_ok) mixed Tryd.func6 rfl (by kernel_rfl) rfl (Nat.le_refl _) (by decide) (upTo_look (k := 0) rfl) ?_
  show codeA _ _ _ _ _ _ _ _
  simp only [go_sem, Tryd.results6]
  exact ⟨⟨hp, by omega⟩, fun z hz => ⟨⟨hp, by omega⟩, fun z1 h1 => ⟨{ b := z.b, c := z1.b }, ⟨hz.1, mem_size (by decide) h1.1⟩, rfl, rfl⟩⟩⟩
def t_dSplitD : Table := [(6, zC 0 0 g_dSplitD)]
theorem t_dSplitD_ok : TabOK Tryd.prog t_dSplitD := .cons Tryd.func6 (by kernel_rfl) (.z (by decide) (by intro args pre _ hp; unfold g_dSplitD at hp ⊢; split at hp <;> first | exact hp.elim | exact ⟨fun z hz => ⟨rfl, fun r hr => absurd hr (Nat.not_lt_zero _)⟩, dSplitD_ok _ hp⟩)) (.nil _)
attribute [go_sem] g_dSplitD_eq t_dSplitD
def g_dLessD : List AV -> Heap -> Prop × (Z -> Prop × AV × Heap)
  | [.bytes code], [] => (code.length <= 1000000000, fun z => (z.b.size <= 10 /\ z.c.size <= 10, .tup [.str z.b, .str z.c], []))
  | _, _ => (False, fun _ => (False, .undef, []))
theorem g_dLessD_eq (code : List UInt8) : g_dLessD [.bytes code] [] = (code.length <= 1000000000, fun z => (z.b.size <= 10 /\ z.c.size <= 10, .tup [.str z.b, .str z.c], [])) := (rfl)
theorem dLessD_ok (code : List UInt8) (hp : code.length <= 1000000000) : SpecZ Tryd.prog 11 [.bytes code] [] 0 (fun z => (z.b.size <= 10 /\ z.c.size <= 10, .tup [.str z.b, .str z.c], [])) := by
  refine fun_okZ (C := t_any1D) (hint := hintX [8] [] 0 [25, 1000025] [] [] []) (t_any1D_ok) mixed Tryd.func11 rfl (by kernel_rfl) rfl (Nat.le_refl _) (by decide) (upTo_look (k := 0) rfl) ?_
  show codeA _ _ _ _ _ _ _ _
  simp only [go_sem, Tryd.results11]
  exact ⟨⟨hp, by omega⟩, fun z hz => ⟨⟨hp, by omega⟩, fun z1 h1 => ⟨{ b := z.b, c := z1.b }, ⟨hz.1, h1.1⟩, rfl, rfl⟩⟩⟩
def t_dLessD : Table := [(11, zC 0 0 g_dLessD)]
theorem t_dLessD_ok : TabOK Tryd.prog t_dLessD := .cons Tryd.func11 (by kernel_rfl) (.z (by decide) (by intro args pre _ hp; unfold g_dLessD at hp ⊢; split at hp <;> first | exact hp.elim | exact ⟨fun z hz => ⟨rfl, fun r hr => absurd hr (Nat.not_lt_zero _)⟩, dLessD_ok _ hp⟩)) (.nil _)
attribute [go_sem] g_dLessD_eq t_dLessD
def g_dJoinD : List AV -> Heap -> Prop × (Z -> Prop × AV × Heap)
  | [.bytes code], [] => (code.length <= 1000000000, fun z => ((z.bs.length <= 5 /\ ∀ x ∈ z.bs, x.size <= 5000) /\ z.c.size <= 10, .tup [.strs z.bs, .str z.c], []))
  | _, _ => (False, fun _ => (False, .undef, []))
theorem g_dJoinD_eq (code : List UInt8) : g_dJoinD [.bytes code] [] = (code.length <= 1000000000, fun z => ((z.bs.length <= 5 /\ ∀ x ∈ z.bs, x.size <= 5000) /\ z.c.size <= 10, .tup [.strs z.bs, .str z.c], [])) := (rfl)
theorem dJoinD_ok (code : List UInt8) (hp : code.length <= 1000000000) : SpecZ Tryd.prog 8 [.bytes code] [] 0 (fun z => ((z.bs.length <= 5 /\ ∀ x ∈ z.bs, x.size <= 5000) /\ z.c.size <= 10, .tup [.strs z.bs, .str z.c], [])) := by
  refine fun_okZ (C := t_any1D ++ t_ofD ++ t_pickD ++ t_oneD) (hint := hintX [10, 11] [(10, [.fz [5]])] 0 [25, 1000025, 26, 1000026, 28, 1000028, 29, 1000029] [] [] []) ((((t_any1D_ok).append t_ofD_ok).append t_pickD_ok).append t_oneD_ok) mixed Tryd.func8 rfl (by kernel_rfl) rfl (Nat.le_refl _) (by decide) (upTo_look (k := 0) rfl) ?_
  show codeA _ _ _ _ _ _ _ _
  simp only [go_sem, Tryd.results8]
  refine ⟨⟨hp, by omega, by omega⟩, fun z hz => ?_⟩
  refine loop_intro (fun g : Nat × List ByteArray × Int × Int => [(7, .int .i64 g.1), (6, .int .i64 z.n), (5, .sl 1), (4, .bx 0 0)]) (fun g => [(1, .arr (.strs g.2.1)), (0, .box [.bytes code, .int .i64 g.2.2.1, .int .u64 g.2.2.2])]) 2 (fun g => (g.1 <= 4 /\ g.1 <= z.n /\ g.2.1.length = g.1) /\ (∀ x ∈ g.2.1, x.size <= 10) /\ 0 <= g.2.2.1 /\ g.2.2.1 <= 10 + 2 * g.1) (fun g => 4 - g.1) (0, [], z.a, z.s) ⟨⟨Nat.zero_le _, (by show ((0 : Nat) : Int) <= z.n; omega), rfl⟩, fun x hx => (by cases hx), (by show 0 <= z.a; omega), (by show z.a <= 10 + 2 * ((0 : Nat) : Int); omega)⟩ (by omega) ?_ ?_
  · simp only [go_sem]
    repeat' (first | refine fork_intro (fun hb => ?_) (fun hb => ?_) | refine partB_intro (fun hb => ?_) (fun hb => ?_) | refine And.intro ?_ ?_)
    all_goals first | exact True.intro | omega | with_reducible rfl | exact congrArg (AV.int _) (by omega) | (first | rfl)
  · rintro ⟨i, bs, a, s⟩ ⟨⟨hi4, hi, hl⟩, hb, ha0, ha1⟩
    dsimp only at hi4 hi hl hb ha0 ha1
    simp only [go_sem]
    refine fork_intro (fun hc => ?_) (fun hc => ?_)
    · refine ⟨⟨hp, by omega⟩, fun z1 h1 => ?_⟩
      refine ⟨by omega, by omega, ?_⟩
      refine LoopEnd.intro (i + 1, bs ++ [z1.b], z1.a, z1.s) ⟨⟨by dsimp only; omega, (by show ((i + 1 : Nat) : Int) <= z.n; omega), (by simp; omega)⟩, fun x hx => ?_, (by show 0 <= z1.a; omega), (by show z1.a <= 10 + 2 * ((i + 1 : Nat) : Int); omega)⟩ (by dsimp only; omega) (by omega) ?_
      · rcases List.mem_append.1 hx with hx | hx
        · exact hb x hx
        · rw [List.mem_singleton.1 hx]; exact h1.1
      · simp only [go_sem]
        repeat' (first | refine fork_intro (fun hb => ?_) (fun hb => ?_) | refine partB_intro (fun hb => ?_) (fun hb => ?_) | refine And.intro ?_ ?_)
        all_goals first | trivial | rfl | omega
    · refine ⟨⟨hp, by omega, by omega⟩, fun z1 h1 => fork_intro (fun h0 => ⟨⟨hp, by omega, by omega⟩, fun z2 h2 => ⟨by omega, by omega, by omega, ⟨hp, by omega⟩, fun z3 h3 => ?_⟩⟩) (fun h0 => ⟨⟨hp, by omega⟩, fun z3 h3 => ?_⟩)⟩
      · refine ⟨{ bs := bs ++ [⟨(List.replicate (3990 + z2.n).toNat 0).toArray⟩], c := z3.b }, ⟨⟨by simp; omega, fun x hx => ?_⟩, mem_size (by decide) h3.1⟩, rfl, rfl⟩
        rcases List.mem_append.1 hx with hx | hx
        · have := hb x hx; omega
        · rw [List.mem_singleton.1 hx]
          show (List.replicate (3990 + z2.n).toNat (0 : UInt8)).toArray.size <= 5000
          simp
          omega
      · exact ⟨{ bs := bs, c := z3.b }, ⟨⟨by dsimp only; omega, fun x hx => by have := hb x hx; omega⟩, mem_size (by decide) h3.1⟩, rfl, rfl⟩
def t_dJoinD : Table := [(8, zC 0 0 g_dJoinD)]
theorem t_dJoinD_ok : TabOK Tryd.prog t_dJoinD := .cons Tryd.func8 (by kernel_rfl) (.z (by decide) (by intro args pre _ hp; unfold g_dJoinD at hp ⊢; split at hp <;> first | exact hp.elim | exact ⟨fun z hz => ⟨rfl, fun r hr => absurd hr (Nat.not_lt_zero _)⟩, dJoinD_ok _ hp⟩)) (.nil _)
attribute [go_sem] g_dJoinD_eq t_dJoinD
end Go.Proofs.YtkjfmabadpfgaaaDoor
