/- What the laws cut off their bytes. -/
import Derived.Test.YteefjdbdknkcjaaEA
namespace Go.Proofs.Yteefjdbdknkcjaa
open Go.Vc
set_option maxRecDepth 100000
set_option maxHeartbeats 1600000
set_option linter.unusedSimpArgs false
set_option linter.unusedVariables false
def cutV (code : List UInt8) : List UInt8 := code.drop (min 1 code.length) ++ [UInt8.ofNat (min 1 code.length)]
def g_vCut : List AV → Prop × AV
  | [.bytes code, .int .i64 1] => (code.length ≤ 1048576000, .bytes (cutV code))
  | _ => (False, .undef)
theorem g_vCut_eq (code : List UInt8) : g_vCut [.bytes code, .int .i64 1] = (code.length ≤ 1048576000, .bytes (cutV code)) := (rfl)
theorem vCut_ok (code : List UInt8) (hp : code.length ≤ 1048576000) : SpecOK Try.prog 30 [.bytes code, .int .i64 1] (.bytes (cutV code)) [] := by
  refine fun_ok (C := []) (hint := hintX [11] [] 0 [] [] [] []) (TabOK.nil _) mixed Try.func30 rfl (by kernel_rfl) rfl ?_
  show codeA _ _ _ _ _ _ _ _
  simp only [go_sem, ↓reduceIte, Nat.reduceEqDiff, Nat.reduceBEq, Nat.reduceAdd, Nat.reduceSub, Nat.reduceLeDiff, Nat.reduceMul, Nat.reduceLT, Try.results30]
  refine fork_intro (fun hc => ?_) (fun hc => ?_)
  · have e0 : code = [] := List.length_eq_zero_iff.1 (by omega)
    subst e0
    have e : consV (AV.int IntKind.u8 ((([] : List UInt8).length : Nat) : Int)) (some (.bytes [])) = some (.bytes [0]) := by rfl
    rw [e]
    simp only [go_sem, ↓reduceIte, Nat.reduceEqDiff, Nat.reduceBEq, Nat.reduceAdd, Nat.reduceSub, Nat.reduceLeDiff, Nat.reduceMul, Nat.reduceLT]
    refine ⟨⟨by omega, by omega, by omega⟩, by simp [cutL], ⟨by omega, by omega⟩, by simp [cutL], ?_⟩
    rfl
  · have e : consV (AV.int IntKind.u8 1) (some (.bytes [])) = some (.bytes [1]) := by rfl
    rw [e]
    simp only [go_sem, ↓reduceIte, Nat.reduceEqDiff, Nat.reduceBEq, Nat.reduceAdd, Nat.reduceSub, Nat.reduceLeDiff, Nat.reduceMul, Nat.reduceLT]
    have e2 : cutL code 1 (code.length : Int) = code.drop 1 := by
      unfold cutL
      simp
    have e3 : cutV code = code.drop 1 ++ [1] := by
      unfold cutV
      rw [show min 1 code.length = 1 by omega]; rfl
    rw [e2, e3]
    have hl : (code.drop 1).length ≤ code.length := by rw [List.length_drop]; omega
    exact ⟨by omega, by omega, by omega, by omega, rfl⟩
def t_vCut : Table := [(30, pureC g_vCut)]
theorem t_vCut_ok : TabOK Try.prog t_vCut := .cons Try.func30 (by kernel_rfl) (.pure (by intro args hp; unfold g_vCut at hp ⊢; split at hp <;> first | exact hp.elim | exact vCut_ok _ hp)) (.nil _)
attribute [go_sem] g_vCut_eq t_vCut
end Go.Proofs.Yteefjdbdknkcjaa
