/- ClaimsOf, AreFair, TightSites: both packages say the same. -/
import Derived.Test.YteefjdbdknkcjaaA7
namespace Go.Proofs.Yteefjdbdknkcjaa
open Go.Vc
set_option maxRecDepth 100000
set_option linter.unusedSimpArgs false
set_option linter.unusedVariables false

def g_areFairOfI : List AV → Prop × AV
  | [.agg [.ints o, .rows d], .ints ps] => ((o.length ≤ 1048576000 ∧ d.length ≤ 1048576000 ∧ ∀ x ∈ d, x.length ≤ 1048576000) ∧ ps.length ≤ 1048576000, .tup [.bool (pricesOK o d ps && fairB o d ps), .bool (pricesOK o d ps)])
  | _ => (False, .undef)
theorem g_areFairOfI_eq (o : List Int) (d : List (List Int)) (ps : List Int) : g_areFairOfI [.agg [.ints o, .rows d], .ints ps] = ((o.length ≤ 1048576000 ∧ d.length ≤ 1048576000 ∧ ∀ x ∈ d, x.length ≤ 1048576000) ∧ ps.length ≤ 1048576000, .tup [.bool (pricesOK o d ps && fairB o d ps), .bool (pricesOK o d ps)]) := (rfl)
theorem areFairOfI_ok (o : List Int) (d : List (List Int)) (ps : List Int) (hp : (o.length ≤ 1048576000 ∧ d.length ≤ 1048576000 ∧ ∀ x ∈ d, x.length ≤ 1048576000) ∧ ps.length ≤ 1048576000) : SpecOK Try.prog 39 [.agg [.ints o, .rows d], .ints ps] (.tup [.bool (pricesOK o d ps && fairB o d ps), .bool (pricesOK o d ps)]) [] := by
  refine fun_ok (C := t_pricesI ++ t_areFairI) (hint := hintX [] [] 0 [] [] [] []) ((t_pricesI_ok).append t_areFairI_ok) mixed Try.func39 rfl (by kernel_rfl) rfl ?_
  show codeA _ _ _ _ _ _ _ _
  simp only [go_sem, ↓reduceIte, Nat.reduceEqDiff, Nat.reduceBEq, Nat.reduceAdd, Nat.reduceSub, Nat.reduceLeDiff, Nat.reduceMul, Nat.reduceLT, Try.results39]
  refine ⟨hp, partB_intro (fun hg => ?_) (fun hg => ?_)⟩
  · rw [hg]; exact ⟨(pricesOK_iff hg).clm, rfl, rfl⟩
  · rw [hg]; first | rfl | exact ⟨rfl, rfl⟩
def t_areFairOfI : Table := [(39, pureC g_areFairOfI)]
theorem t_areFairOfI_ok : TabOK Try.prog t_areFairOfI := .cons Try.func39 (by kernel_rfl) (.pure (by intro args hp; unfold g_areFairOfI at hp ⊢; split at hp <;> first | exact hp.elim | exact areFairOfI_ok _ _ _ hp)) (.nil _)
attribute [go_sem] g_areFairOfI_eq t_areFairOfI
end Go.Proofs.Yteefjdbdknkcjaa
