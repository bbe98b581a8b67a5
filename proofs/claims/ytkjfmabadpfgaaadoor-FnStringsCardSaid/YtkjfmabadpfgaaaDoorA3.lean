/- Checks of lists and fields: both packages say the same. -/
import Derived.Test.YtkjfmabadpfgaaaDoorA2
namespace Go.Proofs.YtkjfmabadpfgaaaDoor
open Go.Vc
set_option maxRecDepth 100000
set_option linter.unusedSimpArgs false
set_option linter.unusedVariables false

def g_l1In : List AV -> Prop × AV
  | [.int .i64 x, .int .i64 a, .int .i64 b] => (True, .bool (decide (a <= x /\ x <= b)))
  | _ => (False, .undef)
theorem g_l1In_eq (x a b : Int) : g_l1In [.int .i64 x, .int .i64 a, .int .i64 b] = (True, .bool (decide (a <= x /\ x <= b))) := (rfl)
theorem l1In_ok (x a b : Int) (hp : True) : SpecOK Tryd.prog 37 [.int .i64 x, .int .i64 a, .int .i64 b] (.bool (decide (a <= x /\ x <= b))) [] := by
  refine fun_ok (C := []) (hint := hintX [] [] 0 [] [] [] []) (TabOK.nil _) mixed Tryd.func37 rfl (by kernel_rfl) rfl ?_
  show codeA _ _ _ _ _ _ _ _
  simp only [go_sem, Tryd.results37]
  refine fork_intro (fun h1 => ?_) (fun h1 => ?_) <;> simp [h1]
def t_l1In : Table := [(37, pureC g_l1In)]
theorem t_l1In_ok : TabOK Tryd.prog t_l1In := .cons Tryd.func37 (by kernel_rfl) (.pure (by intro args hp; unfold g_l1In at hp ⊢; split at hp <;> first | exact hp.elim | exact l1In_ok _ _ _ hp)) (.nil _)
attribute [go_sem] g_l1In_eq t_l1In
end Go.Proofs.YtkjfmabadpfgaaaDoor
