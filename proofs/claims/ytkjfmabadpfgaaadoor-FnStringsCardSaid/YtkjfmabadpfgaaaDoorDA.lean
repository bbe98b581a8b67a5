/- Draws: what the cursor reads, in part. -/
import Derived.Test.YtkjfmabadpfgaaaDoorTy
import Derived.Test.YtkjfmabadpfgaaaDoorPl
namespace Go.Proofs.YtkjfmabadpfgaaaDoor
open Go.Vc
set_option maxRecDepth 100000
set_option linter.unusedSimpArgs false
set_option linter.unusedVariables false

theorem and255 (x : Nat) : ((bitN .and x 255 : Nat) : Int) <= 255 := by
  have : x &&& 255 <= 255 := Nat.and_le_right
  show ((x &&& 255 : Nat) : Int) <= 255
  omega
theorem wrap_u64 (n : Int) : 0 <= IntKind.u64.wrap n /\ IntKind.u64.wrap n <= 18446744073709551615 := by
  simp only [IntKind.wrap, IntKind.signed, IntKind.bits]
  simp
  omega
theorem v_addU (x y : Int) : arithV .add (.int .u64 x) (.int .u64 y) = .int .u64 (IntKind.u64.wrap (x + y)) := (rfl)
theorem v_mulU (x y : Int) : arithV .mul (.int .u64 x) (.int .u64 y) = .int .u64 (IntKind.u64.wrap (x * y)) := (rfl)
theorem p_addU (P : Program) (t : TypeId) (x y : Int) : arithP P t .add (.int .u64 x) (.int .u64 y) = True := by show (IntKind.u64 = .u64) = True; simp
theorem p_mulU (P : Program) (t : TypeId) (x y : Int) : arithP P t .mul (.int .u64 x) (.int .u64 y) = True := by show (IntKind.u64 = .u64) = True; simp
attribute [go_sem] v_addU v_mulU p_addU p_mulU
theorem zfinN {Q : Z -> Prop} {v a s : Int} (h : Q { n := v, a := a, s := s }) : ∃ z, Q z /\ AV.int .i64 v = AV.int .i64 z.n /\ AV.int .i64 a = AV.int .i64 z.a /\ AV.int .u64 s = AV.int .u64 z.s := ⟨_, h, rfl, rfl, rfl⟩
theorem zfinB {Q : Z -> Prop} {v : Bool} {f : Z -> Bool} {a s n : Int} (h : Q { n := n, a := a, s := s }) (hf : v = f { n := n, a := a, s := s }) : ∃ z, Q z /\ AV.bool v = AV.bool (f z) /\ AV.int .i64 a = AV.int .i64 z.a /\ AV.int .u64 s = AV.int .u64 z.s := ⟨_, h, by rw [hf], rfl, rfl⟩
def g_nextD : List AV -> Heap -> Prop × (Z -> Prop × AV × Heap)
  | [.bx 0 0], [(0, .box [.bytes code, .int .i64 a, .int .u64 s])] => (code.length <= 1000000000 /\ 0 <= a /\ a <= 1000000000000, fun z => ((0 <= z.n /\ z.n <= 255) /\ z.a = a + 1, .int .i64 z.n, [(0, .box [.bytes code, .int .i64 z.a, .int .u64 z.s])]))
  | _, _ => (False, fun _ => (False, .undef, []))
theorem g_nextD_eq (code : List UInt8) (a s : Int) : g_nextD [.bx 0 0] [(0, .box [.bytes code, .int .i64 a, .int .u64 s])] = (code.length <= 1000000000 /\ 0 <= a /\ a <= 1000000000000, fun z => ((0 <= z.n /\ z.n <= 255) /\ z.a = a + 1, .int .i64 z.n, [(0, .box [.bytes code, .int .i64 z.a, .int .u64 z.s])])) := (rfl)
theorem nextD_ok (code : List UInt8) (a s : Int) (hp : code.length <= 1000000000 /\ 0 <= a /\ a <= 1000000000000) : SpecZ Tryd.prog 45 [.bx 0 0] [(0, .box [.bytes code, .int .i64 a, .int .u64 s])] 1 (fun z => ((0 <= z.n /\ z.n <= 255) /\ z.a = a + 1, .int .i64 z.n, [(0, .box [.bytes code, .int .i64 z.a, .int .u64 z.s])])) := by
  refine fun_okZ (C := []) (hint := hintX [] [] 1 [] [] [] []) (TabOK.nil _) mixed Tryd.func45 rfl (by kernel_rfl) rfl (Nat.le_refl _) (by decide) (upTo_look (k := 1) rfl) ?_
  show codeA _ _ _ _ _ _ _ _
  simp only [go_sem, Tryd.results45]
  have e40 : (2 : Int) ^ Int.toNat 40 = 1099511627776 := by decide
  have e255 : Int.toNat 255 = 255 := rfl
  have hx := (ix code a).toNat_lt
  have hW : ∀ x : Int, (0 <= IntKind.u64.wrap x / 1099511627776 /\ 0 <= IntKind.u64.wrap x / 1099511627776 /\ IntKind.u64.wrap x / 1099511627776 <= 18446744073709551615) := fun x => by
    have := wrap_u64 x; omega
  have hB : ∀ x : Nat, 0 <= ((bitN .and x 255 : Nat) : Int) /\ ((bitN .and x 255 : Nat) : Int) <= 255 := fun x => ⟨by omega, and255 x⟩
  have h40 : (0 : Int) <= 40 /\ Int.toNat 40 <= 64 := by decide
  simp only [e40, e255]
  have fin : ∀ (v w : Int), 0 <= v /\ v <= 255 -> ∃ z : Z, ((0 <= z.n /\ z.n <= 255) /\ z.a = a + 1) /\ AV.int .i64 v = AV.int .i64 z.n /\ AV.int .i64 (a + 1) = AV.int .i64 z.a /\ AV.int .u64 w = AV.int .u64 z.s := fun v w hv => ⟨{ n := v, a := a + 1, s := w }, ⟨hv, rfl⟩, rfl, rfl, rfl⟩
  refine fork_intro (fun h1 => ?_) (fun h1 => ?_)
  · refine ⟨by omega, by omega, by omega, by omega, fork_intro (fun h2 => ?_) (fun h2 => ?_)⟩
    · exact fin _ _ (by omega)
    · have hb := hB (IntKind.u64.wrap (IntKind.u64.wrap (IntKind.u64.wrap (s * 6364136223846793005) + ↑(ix code a).toNat) + 462197) / 1099511627776).toNat
      exact ⟨h40, ⟨hW _, by omega⟩, by omega, fin _ _ hb⟩
  · refine ⟨by omega, by omega, fork_intro (fun h2 => ?_) (fun h2 => ?_)⟩
    · exact fin _ _ (by omega)
    · have hb := hB (IntKind.u64.wrap (IntKind.u64.wrap (IntKind.u64.wrap (s * 6364136223846793005) + 0) + 462197) / 1099511627776).toNat
      exact ⟨h40, ⟨hW _, by omega⟩, by omega, fin _ _ hb⟩
def t_nextD : Table := [(45, zC 1 1 g_nextD)]
theorem t_nextD_ok : TabOK Tryd.prog t_nextD := .cons Tryd.func45 (by kernel_rfl) (.z (by decide) (by intro args pre _ hp; unfold g_nextD at hp ⊢; split at hp <;> first | exact hp.elim | exact ⟨fun z hz => ⟨rfl, shape_box _ _ rfl rfl rfl⟩, nextD_ok _ _ _ hp⟩)) (.nil _)
attribute [go_sem] g_nextD_eq t_nextD
def g_pickD : List AV -> Heap -> Prop × (Z -> Prop × AV × Heap)
  | [.bx 0 0, .int .i64 n], [(0, .box [.bytes code, .int .i64 a, .int .u64 s])] => (code.length <= 1000000000 /\ (0 <= a /\ a <= 1000000000000 - 10) /\ n <= 1000000000, fun z => ((0 <= z.n /\ (1 <= n -> z.n < n)) /\ a <= z.a /\ z.a <= a + 2, .int .i64 z.n, [(0, .box [.bytes code, .int .i64 z.a, .int .u64 z.s])]))
  | _, _ => (False, fun _ => (False, .undef, []))
theorem g_pickD_eq (n : Int) (code : List UInt8) (a s : Int) : g_pickD [.bx 0 0, .int .i64 n] [(0, .box [.bytes code, .int .i64 a, .int .u64 s])] = (code.length <= 1000000000 /\ (0 <= a /\ a <= 1000000000000 - 10) /\ n <= 1000000000, fun z => ((0 <= z.n /\ (1 <= n -> z.n < n)) /\ a <= z.a /\ z.a <= a + 2, .int .i64 z.n, [(0, .box [.bytes code, .int .i64 z.a, .int .u64 z.s])])) := (rfl)
theorem pickD_ok (n : Int) (code : List UInt8) (a s : Int) (hp : code.length <= 1000000000 /\ (0 <= a /\ a <= 1000000000000 - 10) /\ n <= 1000000000) : SpecZ Tryd.prog 28 [.bx 0 0, .int .i64 n] [(0, .box [.bytes code, .int .i64 a, .int .u64 s])] 1 (fun z => ((0 <= z.n /\ (1 <= n -> z.n < n)) /\ a <= z.a /\ z.a <= a + 2, .int .i64 z.n, [(0, .box [.bytes code, .int .i64 z.a, .int .u64 z.s])])) := by
  refine fun_okZ (C := t_nextD) (hint := hintX [] [] 1 [45, 1000045] [] [] []) (t_nextD_ok) mixed Tryd.func28 rfl (by kernel_rfl) rfl (Nat.le_refl _) (by decide) (upTo_look (k := 1) rfl) ?_
  show codeA _ _ _ _ _ _ _ _
  simp only [go_sem, Tryd.results28]
  obtain ⟨hc, ha, hn⟩ := hp
  have hmod : ∀ x : Int, 1 < n -> 0 <= x -> 0 <= x % n /\ x % n < n := fun x h1 h2 => ⟨Int.emod_nonneg _ (by omega), Int.emod_lt_of_pos _ (by omega)⟩
  refine fork_intro (fun h1 => zfinN (by dsimp only; omega)) (fun h1 => ⟨⟨hc, by omega⟩, fun z hz => fork_intro (fun h2 => ⟨by omega, ⟨hc, by omega⟩, fun z1 hz1 => ⟨by omega, by omega, zfinN ?_⟩⟩) (fun h2 => ⟨by omega, zfinN ?_⟩)⟩)
  · have := hmod (z.n * 256 + z1.n) (by omega) (by omega)
    dsimp only; omega
  · have := hmod z.n (by omega) (by omega)
    dsimp only; omega
def t_pickD : Table := [(28, zC 1 1 g_pickD)]
theorem t_pickD_ok : TabOK Tryd.prog t_pickD := .cons Tryd.func28 (by kernel_rfl) (.z (by decide) (by intro args pre _ hp; unfold g_pickD at hp ⊢; split at hp <;> first | exact hp.elim | exact ⟨fun z hz => ⟨rfl, shape_box _ _ rfl rfl rfl⟩, pickD_ok _ _ _ _ hp⟩)) (.nil _)
attribute [go_sem] g_pickD_eq t_pickD
def g_oneD : List AV -> Heap -> Prop × (Z -> Prop × AV × Heap)
  | [.bx 0 0, .int .i64 n], [(0, .box [.bytes code, .int .i64 a, .int .u64 s])] => (code.length <= 1000000000 /\ (0 <= a /\ a <= 1000000000000 - 10) /\ n <= 1000000000, fun z => (a <= z.a /\ z.a <= a + 2, .bool (decide (z.n = 0)), [(0, .box [.bytes code, .int .i64 z.a, .int .u64 z.s])]))
  | _, _ => (False, fun _ => (False, .undef, []))
theorem g_oneD_eq (n : Int) (code : List UInt8) (a s : Int) : g_oneD [.bx 0 0, .int .i64 n] [(0, .box [.bytes code, .int .i64 a, .int .u64 s])] = (code.length <= 1000000000 /\ (0 <= a /\ a <= 1000000000000 - 10) /\ n <= 1000000000, fun z => (a <= z.a /\ z.a <= a + 2, .bool (decide (z.n = 0)), [(0, .box [.bytes code, .int .i64 z.a, .int .u64 z.s])])) := (rfl)
theorem oneD_ok (n : Int) (code : List UInt8) (a s : Int) (hp : code.length <= 1000000000 /\ (0 <= a /\ a <= 1000000000000 - 10) /\ n <= 1000000000) : SpecZ Tryd.prog 29 [.bx 0 0, .int .i64 n] [(0, .box [.bytes code, .int .i64 a, .int .u64 s])] 1 (fun z => (a <= z.a /\ z.a <= a + 2, .bool (decide (z.n = 0)), [(0, .box [.bytes code, .int .i64 z.a, .int .u64 z.s])])) := by
  refine fun_okZ (C := t_pickD) (hint := hintX [] [] 1 [28, 1000028] [] [] []) (t_pickD_ok) mixed Tryd.func29 rfl (by kernel_rfl) rfl (Nat.le_refl _) (by decide) (upTo_look (k := 1) rfl) ?_
  show codeA _ _ _ _ _ _ _ _
  simp only [go_sem, Tryd.results29]
  exact ⟨hp, fun z hz => zfinB (n := z.n) (by dsimp only; omega) rfl⟩
def t_oneD : Table := [(29, zC 1 1 g_oneD)]
theorem t_oneD_ok : TabOK Tryd.prog t_oneD := .cons Tryd.func29 (by kernel_rfl) (.z (by decide) (by intro args pre _ hp; unfold g_oneD at hp ⊢; split at hp <;> first | exact hp.elim | exact ⟨fun z hz => ⟨rfl, shape_box _ _ rfl rfl rfl⟩, oneD_ok _ _ _ _ hp⟩)) (.nil _)
attribute [go_sem] g_oneD_eq t_oneD
def g_amongD : List AV -> Heap -> Prop × (Z -> Prop × AV × Heap)
  | [.bx 0 0, .ints xs], [(0, .box [.bytes code, .int .i64 a, .int .u64 s])] => (code.length <= 1000000000 /\ (0 <= a /\ a <= 1000000000000 - 10) /\ 1 <= xs.length /\ xs.length <= 100, fun z => (z.n ∈ xs /\ a <= z.a /\ z.a <= a + 2, .int .i64 z.n, [(0, .box [.bytes code, .int .i64 z.a, .int .u64 z.s])]))
  | _, _ => (False, fun _ => (False, .undef, []))
theorem g_amongD_eq (xs : List Int) (code : List UInt8) (a s : Int) : g_amongD [.bx 0 0, .ints xs] [(0, .box [.bytes code, .int .i64 a, .int .u64 s])] = (code.length <= 1000000000 /\ (0 <= a /\ a <= 1000000000000 - 10) /\ 1 <= xs.length /\ xs.length <= 100, fun z => (z.n ∈ xs /\ a <= z.a /\ z.a <= a + 2, .int .i64 z.n, [(0, .box [.bytes code, .int .i64 z.a, .int .u64 z.s])])) := (rfl)
theorem amongD_ok (xs : List Int) (code : List UInt8) (a s : Int) (hp : code.length <= 1000000000 /\ (0 <= a /\ a <= 1000000000000 - 10) /\ 1 <= xs.length /\ xs.length <= 100) : SpecZ Tryd.prog 35 [.bx 0 0, .ints xs] [(0, .box [.bytes code, .int .i64 a, .int .u64 s])] 1 (fun z => (z.n ∈ xs /\ a <= z.a /\ z.a <= a + 2, .int .i64 z.n, [(0, .box [.bytes code, .int .i64 z.a, .int .u64 z.s])])) := by
  refine fun_okZ (C := t_pickD) (hint := hintX [] [] 1 [28, 1000028] [] [] []) (t_pickD_ok) mixed Tryd.func35 rfl (by kernel_rfl) rfl (Nat.le_refl _) (by decide) (upTo_look (k := 1) rfl) ?_
  show codeA _ _ _ _ _ _ _ _
  simp only [go_sem, Tryd.results35]
  obtain ⟨hc, ha, h1, h2⟩ := hp
  refine ⟨⟨hc, by omega, by omega⟩, fun z hz => ⟨by omega, zfinN ?_⟩⟩
  exact ⟨ix_memI xs (by omega) (by omega), (by dsimp only; omega)⟩
def t_amongD : Table := [(35, zC 1 1 g_amongD)]
theorem t_amongD_ok : TabOK Tryd.prog t_amongD := .cons Tryd.func35 (by kernel_rfl) (.z (by decide) (by intro args pre _ hp; unfold g_amongD at hp ⊢; split at hp <;> first | exact hp.elim | exact ⟨fun z hz => ⟨rfl, shape_box _ _ rfl rfl rfl⟩, amongD_ok _ _ _ _ hp⟩)) (.nil _)
attribute [go_sem] g_amongD_eq t_amongD
end Go.Proofs.YtkjfmabadpfgaaaDoor
