/- Draws of numbers, numerals and texts to be sealed. -/
import Derived.Test.YtkjfmabadpfgaaaDoorSD
import Derived.Test.YtkjfmabadpfgaaaDoorX2
namespace Go.Proofs.YtkjfmabadpfgaaaDoor
open Go.Vc
set_option maxRecDepth 100000
set_option maxHeartbeats 1600000
set_option linter.unusedSimpArgs false
set_option linter.unusedVariables false
def vatF (code : List UInt8) (i : Int) : Int := if i < code.length then (ix code i).toNat else (i * 7 + code.length) % 256
theorem vatF_bd (code : List UInt8) (i : Int) : 0 <= vatF code i /\ vatF code i <= 255 := by
  unfold vatF
  have := (ix code i).toNat_lt
  split <;> omega
def g_vAt : List AV -> Prop × AV
  | [.bytes code, .int .i64 i] => (code.length <= 1000000000 /\ 0 <= i /\ i <= 1000, .int .i64 (vatF code i))
  | _ => (False, .undef)
theorem g_vAt_eq (code : List UInt8) (i : Int) : g_vAt [.bytes code, .int .i64 i] = (code.length <= 1000000000 /\ 0 <= i /\ i <= 1000, .int .i64 (vatF code i)) := (rfl)
theorem vAt_ok (code : List UInt8) (i : Int) (hp : code.length <= 1000000000 /\ 0 <= i /\ i <= 1000) : SpecOK Tryd.prog 24 [.bytes code, .int .i64 i] (.int .i64 (vatF code i)) [] := by
  refine fun_ok (C := []) (hint := hintX [] [] 0 [] [] [] []) (TabOK.nil _) mixed Tryd.func24 rfl (by kernel_rfl) rfl ?_
  show codeA _ _ _ _ _ _ _ _
  simp only [go_sem, Tryd.results24]
  have hb := (ix code i).toNat_lt
  refine fork_intro (fun h => ?_) (fun h => ?_)
  · rw [show vatF code i = (ix code i).toNat from if_pos h]
    repeat' (first | refine fork_intro (fun hb => ?_) (fun hb => ?_) | refine partB_intro (fun hb => ?_) (fun hb => ?_) | refine And.intro ?_ ?_)
    all_goals first | exact True.intro | omega | with_reducible rfl | exact congrArg (AV.int _) (by omega) | (first | rfl)
  · rw [show vatF code i = (i * 7 + code.length) % 256 from if_neg h]
    repeat' (first | refine fork_intro (fun hb => ?_) (fun hb => ?_) | refine partB_intro (fun hb => ?_) (fun hb => ?_) | refine And.intro ?_ ?_)
    all_goals first | exact True.intro | omega | with_reducible rfl | exact congrArg (AV.int _) (by omega) | (first | rfl)
def t_vAt : Table := [(24, pureC g_vAt)]
theorem t_vAt_ok : TabOK Tryd.prog t_vAt := .cons Tryd.func24 (by kernel_rfl) (.pure (by intro args hp; unfold g_vAt at hp ⊢; split at hp <;> first | exact hp.elim | exact vAt_ok _ _ hp)) (.nil _)
attribute [go_sem] g_vAt_eq t_vAt
def g_vBig : List AV -> Prop × AV
  | [.bytes code] => (code.length <= 9223372036854775807, .bool (decide (65536 < code.length)))
  | _ => (False, .undef)
theorem g_vBig_eq (code : List UInt8) : g_vBig [.bytes code] = (code.length <= 9223372036854775807, .bool (decide (65536 < code.length))) := (rfl)
theorem vBig_ok (code : List UInt8) (hp : code.length <= 9223372036854775807) : SpecOK Tryd.prog 5 [.bytes code] (.bool (decide (65536 < code.length))) [] := by
  refine fun_ok (C := []) (hint := hintX [] [] 0 [] [] [] []) (TabOK.nil _) mixed Tryd.func5 rfl (by kernel_rfl) rfl ?_
  show codeA _ _ _ _ _ _ _ _
  simp only [go_sem, Tryd.results5]
  rw [show decide ((65536 : Int) < code.length) = decide (65536 < code.length) from decide_eq_decide.2 (by omega)]
def t_vBig : Table := [(5, pureC g_vBig)]
theorem t_vBig_ok : TabOK Tryd.prog t_vBig := .cons Tryd.func5 (by kernel_rfl) (.pure (by intro args hp; unfold g_vBig at hp ⊢; split at hp <;> first | exact hp.elim | exact vBig_ok _ hp)) (.nil _)
attribute [go_sem] g_vBig_eq t_vBig
def g_dFmtD : List AV -> Heap -> Prop × (Z -> Prop × AV × Heap)
  | [.bytes code], [] => (code.length <= 1000000000, fun z => (-1000000 <= z.n /\ z.n <= 1000000, .int .i64 z.n, []))
  | _, _ => (False, fun _ => (False, .undef, []))
theorem g_dFmtD_eq (code : List UInt8) : g_dFmtD [.bytes code] [] = (code.length <= 1000000000, fun z => (-1000000 <= z.n /\ z.n <= 1000000, .int .i64 z.n, [])) := (rfl)
theorem dFmtD_ok (code : List UInt8) (hp : code.length <= 1000000000) : SpecZ Tryd.prog 14 [.bytes code] [] 0 (fun z => (-1000000 <= z.n /\ z.n <= 1000000, .int .i64 z.n, [])) := by
  refine fun_okZ (C := t_pickD ++ t_amongD) (hint := hintX [6] [] 0 [28, 1000028, 35, 1000035] [] [] []) ((t_pickD_ok).append t_amongD_ok) mixed Tryd.func14 rfl (by kernel_rfl) rfl (Nat.le_refl _) (by decide) (upTo_look (k := 0) rfl) ?_
  show codeA _ _ _ _ _ _ _ _
  simp only [go_sem, Tryd.results14]
  refine ⟨⟨hp, by omega, by omega⟩, fun z hz => ⟨by omega, ⟨hp, by omega⟩, fun z1 h1 => ⟨{ n := z1.n }, ?_, rfl⟩⟩⟩
  have h4 := h1.1
  simp only [List.mem_cons, List.not_mem_nil, or_false] at h4
  dsimp only
  omega
def t_dFmtD : Table := [(14, zC 0 0 g_dFmtD)]
theorem t_dFmtD_ok : TabOK Tryd.prog t_dFmtD := .cons Tryd.func14 (by kernel_rfl) (.z (by decide) (by intro args pre _ hp; unfold g_dFmtD at hp ⊢; split at hp <;> first | exact hp.elim | exact ⟨fun z hz => ⟨rfl, fun r hr => absurd hr (Nat.not_lt_zero _)⟩, dFmtD_ok _ hp⟩)) (.nil _)
attribute [go_sem] g_dFmtD_eq t_dFmtD
def g_dPrsD : List AV -> Heap -> Prop × (Z -> Prop × AV × Heap)
  | [.bytes code], [] => (code.length <= 1000000000, fun z => (z.b.size <= 30, .str z.b, []))
  | _, _ => (False, fun _ => (False, .undef, []))
theorem g_dPrsD_eq (code : List UInt8) : g_dPrsD [.bytes code] [] = (code.length <= 1000000000, fun z => (z.b.size <= 30, .str z.b, [])) := (rfl)
theorem dPrsD_ok (code : List UInt8) (hp : code.length <= 1000000000) : SpecZ Tryd.prog 17 [.bytes code] [] 0 (fun z => (z.b.size <= 30, .str z.b, [])) := by
  refine fun_okZ (C := t_oneD ++ t_ofD ++ t_pickD ++ t_numS) (hint := hintX [6] [] 0 [28, 1000028, 29, 1000029, 26, 1000026] [] [] []) ((((t_oneD_ok).append t_ofD_ok).append t_pickD_ok).append t_numS_ok) mixed Tryd.func17 rfl (by kernel_rfl) rfl (Nat.le_refl _) (by decide) (upTo_look (k := 0) rfl) ?_
  show codeA _ _ _ _ _ _ _ _
  simp only [go_sem, Tryd.results17]
  refine ⟨⟨hp, by omega, by omega⟩, fun z hz => fork_intro (fun h0 => ⟨⟨hp, by omega⟩, fun z1 h1 => ⟨{ b := z1.b }, mem_size (by decide) h1.1, rfl⟩⟩) (fun h0 => ⟨⟨hp, by omega, by omega⟩, fun z1 h1 => ⟨by omega, by omega, { b := numB (z1.n - 1000) }, ?_, rfl⟩⟩)⟩
  have := numB_size (z1.n - 1000) (by omega) (by omega)
  dsimp only
  omega
def t_dPrsD : Table := [(17, zC 0 0 g_dPrsD)]
theorem t_dPrsD_ok : TabOK Tryd.prog t_dPrsD := .cons Tryd.func17 (by kernel_rfl) (.z (by decide) (by intro args pre _ hp; unfold g_dPrsD at hp ⊢; split at hp <;> first | exact hp.elim | exact ⟨fun z hz => ⟨rfl, fun r hr => absurd hr (Nat.not_lt_zero _)⟩, dPrsD_ok _ hp⟩)) (.nil _)
attribute [go_sem] g_dPrsD_eq t_dPrsD
def g_dAppD : List AV -> Heap -> Prop × (Z -> Prop × AV × Heap)
  | [.bytes code], [] => (code.length <= 1000000000, fun z => (z.b.size <= 4010, .str z.b, []))
  | _, _ => (False, fun _ => (False, .undef, []))
theorem g_dAppD_eq (code : List UInt8) : g_dAppD [.bytes code] [] = (code.length <= 1000000000, fun z => (z.b.size <= 4010, .str z.b, [])) := (rfl)
theorem dAppD_ok (code : List UInt8) (hp : code.length <= 1000000000) : SpecZ Tryd.prog 20 [.bytes code] [] 0 (fun z => (z.b.size <= 4010, .str z.b, [])) := by
  refine fun_okZ (C := t_oneD ++ t_any1D ++ t_pickD) (hint := hintX [6] [] 0 [28, 1000028, 29, 1000029, 25, 1000025] [] [] []) (((t_oneD_ok).append t_any1D_ok).append t_pickD_ok) mixed Tryd.func20 rfl (by kernel_rfl) rfl (Nat.le_refl _) (by decide) (upTo_look (k := 0) rfl) ?_
  show codeA _ _ _ _ _ _ _ _
  simp only [go_sem, Tryd.results20]
  refine ⟨⟨hp, by omega, by omega⟩, fun z hz => fork_intro (fun h0 => ⟨⟨hp, by omega, by omega⟩, fun z1 h1 => ⟨by omega, by omega, { b := ⟨(List.replicate (3990 + z1.n).toNat 0).toArray⟩ }, ?_, rfl⟩⟩) (fun h0 => ⟨⟨hp, by omega⟩, fun z1 h1 => ⟨{ b := z1.b }, (by dsimp only; omega), rfl⟩⟩)⟩
  show (List.replicate (3990 + z1.n).toNat (0 : UInt8)).toArray.size <= 4010
  simp
  omega
def t_dAppD : Table := [(20, zC 0 0 g_dAppD)]
theorem t_dAppD_ok : TabOK Tryd.prog t_dAppD := .cons Tryd.func20 (by kernel_rfl) (.z (by decide) (by intro args pre _ hp; unfold g_dAppD at hp ⊢; split at hp <;> first | exact hp.elim | exact ⟨fun z hz => ⟨rfl, fun r hr => absurd hr (Nat.not_lt_zero _)⟩, dAppD_ok _ hp⟩)) (.nil _)
attribute [go_sem] g_dAppD_eq t_dAppD
end Go.Proofs.YtkjfmabadpfgaaaDoor
