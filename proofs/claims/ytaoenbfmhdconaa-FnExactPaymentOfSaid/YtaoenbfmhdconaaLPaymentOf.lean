/- The law on PaymentOf keeps its contract: it says true. -/
import Derived.Test.YtaoenbfmhdconaaA5
namespace Go.Proofs.Ytaoenbfmhdconaa
open Go.Vc
set_option maxRecDepth 100000
set_option linter.unusedSimpArgs false
set_option linter.unusedVariables false
def g_lawPaymentOf : List AV → Prop × AV
  | [.agg [.ints o, .rows d], .ints xs] => (((o.length ≤ 9223372036854775807 ∧ ∀ n ∈ o, RK .i64 n) ∧ d.length ≤ 9223372036854775807 ∧ ∀ x ∈ d, x.length ≤ 9223372036854775807 ∧ ∀ n ∈ x, RK .i64 n) ∧ (xs.length ≤ 9223372036854775807 ∧ ∀ n ∈ xs, RK .i64 n), .bool true)
  | _ => (False, .undef)
theorem g_lawPaymentOf_eq (o : List Int) (d : List (List Int)) (xs : List Int) : g_lawPaymentOf [.agg [.ints o, .rows d], .ints xs] = (((o.length ≤ 9223372036854775807 ∧ ∀ n ∈ o, RK .i64 n) ∧ d.length ≤ 9223372036854775807 ∧ ∀ x ∈ d, x.length ≤ 9223372036854775807 ∧ ∀ n ∈ x, RK .i64 n) ∧ (xs.length ≤ 9223372036854775807 ∧ ∀ n ∈ xs, RK .i64 n), .bool true) := (rfl)
theorem lawPaymentOf_ok (o : List Int) (d : List (List Int)) (xs : List Int) (hp : ((o.length ≤ 9223372036854775807 ∧ ∀ n ∈ o, RK .i64 n) ∧ d.length ≤ 9223372036854775807 ∧ ∀ x ∈ d, x.length ≤ 9223372036854775807 ∧ ∀ n ∈ x, RK .i64 n) ∧ (xs.length ≤ 9223372036854775807 ∧ ∀ n ∈ xs, RK .i64 n)) : SpecOK Try.prog 9 [.agg [.ints o, .rows d], .ints xs] (.bool true) [] := by
  refine fun_ok (C := t_szF ++ t_szI ++ t_toF ++ t_toI ++ t_paySpec ++ t_payImp ++ t_eqF ++ t_eqI) (hint := hintX [8, 9] [] 0 [] []) ((((((((t_szF_ok).append t_szI_ok).append t_toF_ok).append t_toI_ok).append t_paySpec_ok).append t_payImp_ok).append t_eqF_ok).append t_eqI_ok) mixed Try.func9 rfl (by kernel_rfl) rfl ?_
  show codeA _ _ _ _ _ _ _ _
  simp only [go_sem, cond_true, cond_false, ↓reduceIte, Nat.reduceEqDiff, Nat.reduceBEq, List.map_cons, List.map_nil, List.append_nil, List.cons_append, List.nil_append, true_and, and_true, Nat.reduceAdd, Nat.reduceSub, Nat.zero_add, Nat.add_zero, List.drop_zero, List.drop_succ_cons, List.take_succ_cons, List.take_zero, List.all_cons, List.all_nil, Bool.and_true, Bool.true_and, Bool.and_false, Bool.false_and, Bool.or_true, Bool.true_or, Bool.or_false, Bool.false_or, Bool.not_false, Bool.not_true, Option.getD_some, List.length_cons, List.length_nil, Nat.reduceLeDiff, Option.isSome_none, Option.isSome_some, Nat.reduceMul, eq_self, exists_const, List.toList_toArray, partB_true, partB_false, RK_i64, RK_u64, RK_u8, LoopEnd, List.getElem?_cons_zero, List.getElem?_cons_succ, List.getElem?_nil, Nat.sub_zero, Nat.le_refl, Int.toNat_natCast, List.set_cons_zero, List.set_cons_succ, List.getD_cons_zero, List.getD_cons_succ, Nat.sub_self, Try.results9]
  refine fork_intro (fun _ => trivial) (fun hx => ?_)
  refine ⟨⟨⟨hp.1.1.1, hp.1.2.1, fun x hx => (hp.1.2.2 x hx).1⟩, by omega⟩, fork_intro (fun h => trivial) (fun h => ?_)⟩
  obtain ⟨ho, hd, hr⟩ := szF_le h
  have hr' : ∀ x ∈ d, x.length ≤ 1048576000 := fun x hx => by have := hr x hx; omega
  have f1 : o.length ≤ 1048576 ∧ d.length ≤ 1048576 ∧ ∀ x ∈ d, x.length ≤ 1048576 := ⟨ho, hd, hr⟩
  have f2 : o.length ≤ 1048576000 ∧ d.length ≤ 1048576000 ∧ ∀ x ∈ d, x.length ≤ 1048576000 := ⟨by omega, by omega, hr'⟩
  repeat' (first | exact trivial | assumption | rfl | apply partB_self | apply partB_tt | apply forkP_true | apply forkP_eq | omega | refine And.intro ?_ ?_)
def t_lawPaymentOf : Table := [(9, pureC g_lawPaymentOf)]
theorem t_lawPaymentOf_ok : TabOK Try.prog t_lawPaymentOf := .cons Try.func9 (by kernel_rfl) (.pure (by intro args hp; unfold g_lawPaymentOf at hp ⊢; split at hp <;> first | exact hp.elim | exact lawPaymentOf_ok _ _ _ hp)) (.nil _)
attribute [go_sem] g_lawPaymentOf_eq t_lawPaymentOf
end Go.Proofs.Ytaoenbfmhdconaa
