/- AscentPrices: both packages say the same. -/
import Derived.Test.YtgcbdpehnonghaaA7
import Derived.Test.YtgcbdpehnonghaaPlA
namespace Go.Proofs.Ytgcbdpehnonghaa
open Go.Vc
set_option maxRecDepth 100000
set_option linter.unusedSimpArgs false
set_option linter.unusedVariables false

def g_least2 : List AV -> Prop × AV
  | [.int .i64 a, .int .i64 b] => (True, .int .i64 (min a b))
  | _ => (False, .undef)
theorem g_least2_eq (a b : Int) : g_least2 [.int .i64 a, .int .i64 b] = (True, .int .i64 (min a b)) := (rfl)
theorem least2_ok (a b : Int) (hp : True) : SpecOK Try.prog 44 [.int .i64 a, .int .i64 b] (.int .i64 (min a b)) [] := by
  refine fun_ok (C := []) (hint := hintX [] [] 0 [] [] [] []) (TabOK.nil _) mixed Try.func44 rfl (by kernel_rfl) rfl ?_
  show codeA _ _ _ _ _ _ _ _
  simp only [go_sem, Try.results44]
  repeat' (first | refine fork_intro (fun hb => ?_) (fun hb => ?_) | refine partB_intro (fun hb => ?_) (fun hb => ?_) | refine And.intro ?_ ?_)
  all_goals first | exact True.intro | omega | with_reducible rfl | exact congrArg (AV.int _) (by omega)
def t_least2 : Table := [(44, pureC g_least2)]
theorem t_least2_ok : TabOK Try.prog t_least2 := .cons Try.func44 (by kernel_rfl) (.pure (by intro args hp; unfold g_least2 at hp ⊢; split at hp <;> first | exact hp.elim | exact least2_ok _ _ hp)) (.nil _)
attribute [go_sem] g_least2_eq t_least2
end Go.Proofs.Ytgcbdpehnonghaa
