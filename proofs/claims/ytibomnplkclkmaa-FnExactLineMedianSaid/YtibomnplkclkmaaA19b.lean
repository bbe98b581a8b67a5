/- What a median asks of its arguments: both packages say the same. -/
import Derived.Test.YtibomnplkclkmaaA9
import Derived.Test.YtibomnplkclkmaaPlD
namespace Go.Proofs.Ytibomnplkclkmaa
open Go.Vc
set_option maxRecDepth 100000
set_option linter.unusedSimpArgs false
set_option linter.unusedVariables false

def g_l4K : List AV → Prop × AV
  | [.agg [.ints o, .rows d], .int .i64 k] => (o.length ≤ 1048576000 ∧ d.length ≤ 1048576000 ∧ ∀ x ∈ d, x.length ≤ 1048576000, .bool (medB o d k))
  | _ => (False, .undef)
theorem g_l4K_eq (o : List Int) (d : List (List Int)) (k : Int) : g_l4K [.agg [.ints o, .rows d], .int .i64 k] = (o.length ≤ 1048576000 ∧ d.length ≤ 1048576000 ∧ ∀ x ∈ d, x.length ≤ 1048576000, .bool (medB o d k)) := (rfl)
theorem l4K_ok (o : List Int) (d : List (List Int)) (k : Int) (hp : o.length ≤ 1048576000 ∧ d.length ≤ 1048576000 ∧ ∀ x ∈ d, x.length ≤ 1048576000) : SpecOK Try.prog 52 [.agg [.ints o, .rows d], .int .i64 k] (.bool (medB o d k)) [] := by
  refine fun_ok (C := t_l2Good ++ t_l1In) (hint := hintX [] [] 0 [] [] [] []) ((t_l2Good_ok).append t_l1In_ok) mixed Try.func52 rfl (by kernel_rfl) rfl ?_
  show codeA _ _ _ _ _ _ _ _
  simp only [go_sem, ↓reduceIte, Nat.reduceEqDiff, Nat.reduceBEq, Nat.reduceAdd, Nat.reduceSub, Nat.reduceLeDiff, Nat.reduceMul, Nat.reduceLT, Try.results52]
  refine ⟨hp, partB_intro (fun hg => ?_) (fun hg => ?_)⟩
  · rw [medB, hg]; first | rfl | exact ⟨by omega, rfl⟩ | exact ⟨by omega, by omega⟩
  · rw [medB, hg]; rfl
def t_l4K : Table := [(52, pureC g_l4K)]
theorem t_l4K_ok : TabOK Try.prog t_l4K := .cons Try.func52 (by kernel_rfl) (.pure (by intro args hp; unfold g_l4K at hp ⊢; split at hp <;> first | exact hp.elim | exact l4K_ok _ _ _ hp)) (.nil _)
attribute [go_sem] g_l4K_eq t_l4K
def g_medCase : List AV → Prop × AV
  | [.agg [.ints o, .rows d], .int .i64 k] => (o.length ≤ 1048576000 ∧ d.length ≤ 1048576000 ∧ ∀ x ∈ d, x.length ≤ 1048576000, .bool (medB o d k))
  | _ => (False, .undef)
theorem g_medCase_eq (o : List Int) (d : List (List Int)) (k : Int) : g_medCase [.agg [.ints o, .rows d], .int .i64 k] = (o.length ≤ 1048576000 ∧ d.length ≤ 1048576000 ∧ ∀ x ∈ d, x.length ≤ 1048576000, .bool (medB o d k)) := (rfl)
theorem medCase_ok (o : List Int) (d : List (List Int)) (k : Int) (hp : o.length ≤ 1048576000 ∧ d.length ≤ 1048576000 ∧ ∀ x ∈ d, x.length ≤ 1048576000) : SpecOK Try.prog 57 [.agg [.ints o, .rows d], .int .i64 k] (.bool (medB o d k)) [] := by
  refine fun_ok (C := t_isF ++ t_between) (hint := hintX [] [] 0 [] [] [] []) ((t_isF_ok).append t_between_ok) mixed Try.func57 rfl (by kernel_rfl) rfl ?_
  show codeA _ _ _ _ _ _ _ _
  simp only [go_sem, ↓reduceIte, Nat.reduceEqDiff, Nat.reduceBEq, Nat.reduceAdd, Nat.reduceSub, Nat.reduceLeDiff, Nat.reduceMul, Nat.reduceLT, Try.results57]
  refine ⟨hp, partB_intro (fun hg => ?_) (fun hg => ?_)⟩
  · rw [medB, hg]; first | rfl | exact ⟨by omega, rfl⟩ | exact ⟨by omega, by omega⟩
  · rw [medB, hg]; rfl
def t_medCase : Table := [(57, pureC g_medCase)]
theorem t_medCase_ok : TabOK Try.prog t_medCase := .cons Try.func57 (by kernel_rfl) (.pure (by intro args hp; unfold g_medCase at hp ⊢; split at hp <;> first | exact hp.elim | exact medCase_ok _ _ _ hp)) (.nil _)
attribute [go_sem] g_medCase_eq t_medCase
end Go.Proofs.Ytibomnplkclkmaa
