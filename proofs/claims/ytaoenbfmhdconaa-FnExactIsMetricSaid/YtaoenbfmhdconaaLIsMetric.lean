/- The law on IsMetric keeps its contract: it says true. -/
import Derived.Test.YtaoenbfmhdconaaA4
namespace Go.Proofs.Ytaoenbfmhdconaa
open Go.Vc
set_option maxRecDepth 100000
set_option linter.unusedSimpArgs false
set_option linter.unusedVariables false
def g_lawIsMetric : List AV → Prop × AV
  | [.agg [.ints o, .rows d]] => ((o.length ≤ 9223372036854775807 ∧ ∀ n ∈ o, RK .i64 n) ∧ d.length ≤ 9223372036854775807 ∧ ∀ x ∈ d, x.length ≤ 9223372036854775807 ∧ ∀ n ∈ x, RK .i64 n, .bool true)
  | _ => (False, .undef)
theorem g_lawIsMetric_eq (o : List Int) (d : List (List Int)) : g_lawIsMetric [.agg [.ints o, .rows d]] = ((o.length ≤ 9223372036854775807 ∧ ∀ n ∈ o, RK .i64 n) ∧ d.length ≤ 9223372036854775807 ∧ ∀ x ∈ d, x.length ≤ 9223372036854775807 ∧ ∀ n ∈ x, RK .i64 n, .bool true) := (rfl)
theorem lawIsMetric_ok (o : List Int) (d : List (List Int)) (hp : (o.length ≤ 9223372036854775807 ∧ ∀ n ∈ o, RK .i64 n) ∧ d.length ≤ 9223372036854775807 ∧ ∀ x ∈ d, x.length ≤ 9223372036854775807 ∧ ∀ n ∈ x, RK .i64 n) : SpecOK Try.prog 8 [.agg [.ints o, .rows d]] (.bool true) [] := by
  refine fun_ok (C := t_szF ++ t_toF ++ t_metSpec ++ t_metI ++ t_eqF) (hint := hintX [6] [] 0 [] []) (((((t_szF_ok).append t_toF_ok).append t_metSpec_ok).append t_metI_ok).append t_eqF_ok) mixed Try.func8 rfl (by kernel_rfl) rfl ?_
  show codeA _ _ _ _ _ _ _ _
  simp only [go_sem, cond_true, cond_false, ↓reduceIte, Nat.reduceEqDiff, Nat.reduceBEq, List.map_cons, List.map_nil, List.append_nil, List.cons_append, List.nil_append, true_and, and_true, Nat.reduceAdd, Nat.reduceSub, Nat.zero_add, Nat.add_zero, List.drop_zero, List.drop_succ_cons, List.take_succ_cons, List.take_zero, List.all_cons, List.all_nil, Bool.and_true, Bool.true_and, Bool.and_false, Bool.false_and, Bool.or_true, Bool.true_or, Bool.or_false, Bool.false_or, Bool.not_false, Bool.not_true, Option.getD_some, List.length_cons, List.length_nil, Nat.reduceLeDiff, Option.isSome_none, Option.isSome_some, Nat.reduceMul, eq_self, exists_const, List.toList_toArray, partB_true, partB_false, RK_i64, RK_u64, RK_u8, LoopEnd, List.getElem?_cons_zero, List.getElem?_cons_succ, List.getElem?_nil, Nat.sub_zero, Nat.le_refl, Int.toNat_natCast, List.set_cons_zero, List.set_cons_succ, List.getD_cons_zero, List.getD_cons_succ, Nat.sub_self, Try.results8]
  refine ⟨⟨⟨hp.1.1, hp.2.1, fun x hx => (hp.2.2 x hx).1⟩, by omega⟩, fork_intro (fun h => trivial) (fun h => ?_)⟩
  obtain ⟨ho, hd, hr⟩ := szF_le h
  have hr' : ∀ x ∈ d, x.length ≤ 1048576000 := fun x hx => by have := hr x hx; omega
  have f1 : o.length ≤ 1048576 ∧ d.length ≤ 1048576 ∧ ∀ x ∈ d, x.length ≤ 1048576 := ⟨ho, hd, hr⟩
  have f2 : o.length ≤ 1048576000 ∧ d.length ≤ 1048576000 ∧ ∀ x ∈ d, x.length ≤ 1048576000 := ⟨by omega, by omega, hr'⟩
  repeat' (first | exact trivial | assumption | rfl | apply partB_self | apply partB_tt | apply forkP_true | apply forkP_eq | omega | refine And.intro ?_ ?_)
def t_lawIsMetric : Table := [(8, pureC g_lawIsMetric)]
theorem t_lawIsMetric_ok : TabOK Try.prog t_lawIsMetric := .cons Try.func8 (by kernel_rfl) (.pure (by intro args hp; unfold g_lawIsMetric at hp ⊢; split at hp <;> first | exact hp.elim | exact lawIsMetric_ok _ _ hp)) (.nil _)
attribute [go_sem] g_lawIsMetric_eq t_lawIsMetric
end Go.Proofs.Ytaoenbfmhdconaa
