/- The order of texts. -/
import Derived.Test.YtkjfmabadpfgaaaDoorTy
namespace Go.Proofs.YtkjfmabadpfgaaaDoor
open Go.Vc
set_option maxRecDepth 100000
set_option linter.unusedSimpArgs false
set_option linter.unusedVariables false
theorem less_asym : ∀ a b : List UInt8, Op.bytesLess a b = true -> Op.bytesLess b a = false
  | x, [], h => by unfold Op.bytesLess at h; cases x <;> cases h
  | [], _ :: _, _ => rfl
  | a :: x, b :: y, h => by
    unfold Op.bytesLess at h ⊢
    simp only [Bool.or_eq_true, Bool.and_eq_true, decide_eq_true_eq, beq_iff_eq] at h
    rcases h with h | ⟨rfl, h⟩
    · have h1 : ¬ b < a := UInt8.not_lt.2 (UInt8.le_of_lt h)
      have h2 : (b == a) = false := by
        rw [beq_eq_false_iff_ne]
        rintro rfl
        exact UInt8.lt_irrefl _ h
      rw [h2, decide_eq_false h1]; rfl
    · rw [less_asym x y h, decide_eq_false (UInt8.lt_irrefl a)]; simp
def g_lessI : List AV -> Prop × AV
  | [.str s, .str t] => (True, .bool (Op.bytesLess s.toList t.toList))
  | _ => (False, .undef)
theorem g_lessI_eq (s t : ByteArray) : g_lessI [.str s, .str t] = (True, .bool (Op.bytesLess s.toList t.toList)) := (rfl)
theorem lessI_ok (s t : ByteArray) (hp : True) : SpecOK Tryd.prog 12 [.str s, .str t] (.bool (Op.bytesLess s.toList t.toList)) [] := by
  refine fun_ok (C := []) (hint := hintX [] [] 0 [] [] [] []) (TabOK.nil _) mixed Tryd.func12 rfl (by kernel_rfl) rfl ?_
  show codeA _ _ _ _ _ _ _ _
  simp only [go_sem, Tryd.results12]
  repeat' (first | refine fork_intro (fun hb => ?_) (fun hb => ?_) | refine partB_intro (fun hb => ?_) (fun hb => ?_) | refine And.intro ?_ ?_)
  all_goals first | exact True.intro | omega | with_reducible rfl | exact congrArg (AV.int _) (by omega)
def t_lessI : Table := [(12, pureC g_lessI)]
theorem t_lessI_ok : TabOK Tryd.prog t_lessI := .cons Tryd.func12 (by kernel_rfl) (.pure (by intro args hp; unfold g_lessI at hp ⊢; split at hp <;> first | exact hp.elim | exact lessI_ok _ _ hp)) (.nil _)
attribute [go_sem] g_lessI_eq t_lessI
def g_lessS : List AV -> Prop × AV
  | [.str s, .str t] => (True, .bool (Op.bytesLess s.toList t.toList))
  | _ => (False, .undef)
theorem g_lessS_eq (s t : ByteArray) : g_lessS [.str s, .str t] = (True, .bool (Op.bytesLess s.toList t.toList)) := (rfl)
theorem lessS_ok (s t : ByteArray) (hp : True) : SpecOK Tryd.prog 13 [.str s, .str t] (.bool (Op.bytesLess s.toList t.toList)) [] := by
  refine fun_ok (C := []) (hint := hintX [] [] 0 [] [] [] []) (TabOK.nil _) mixed Tryd.func13 rfl (by kernel_rfl) rfl ?_
  show codeA _ _ _ _ _ _ _ _
  simp only [go_sem, Tryd.results13]
  repeat' (first | refine fork_intro (fun hb => ?_) (fun hb => ?_) | refine partB_intro (fun hb => ?_) (fun hb => ?_) | refine And.intro ?_ ?_)
  all_goals first | exact True.intro | omega | with_reducible rfl | exact congrArg (AV.int _) (by omega)
def t_lessS : Table := [(13, pureC g_lessS)]
theorem t_lessS_ok : TabOK Tryd.prog t_lessS := .cons Tryd.func13 (by kernel_rfl) (.pure (by intro args hp; unfold g_lessS at hp ⊢; split at hp <;> first | exact hp.elim | exact lessS_ok _ _ hp)) (.nil _)
attribute [go_sem] g_lessS_eq t_lessS
end Go.Proofs.YtkjfmabadpfgaaaDoor
