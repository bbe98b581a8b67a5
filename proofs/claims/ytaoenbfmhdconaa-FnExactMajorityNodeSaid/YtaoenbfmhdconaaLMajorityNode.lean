/- The law on MajorityNode keeps its contract: it says true. -/
import Derived.Test.YtaoenbfmhdconaaA6
namespace Go.Proofs.Ytaoenbfmhdconaa
open Go.Vc
set_option maxRecDepth 100000
set_option linter.unusedSimpArgs false
set_option linter.unusedVariables false
def g_lawMajorityNode : List AV → Prop × AV
  | [.ints ps, .ints ws] => ((ps.length ≤ 9223372036854775807 ∧ ∀ n ∈ ps, RK .i64 n) ∧ (ws.length ≤ 9223372036854775807 ∧ ∀ n ∈ ws, RK .i64 n), .bool true)
  | _ => (False, .undef)
theorem g_lawMajorityNode_eq (ps ws : List Int) : g_lawMajorityNode [.ints ps, .ints ws] = ((ps.length ≤ 9223372036854775807 ∧ ∀ n ∈ ps, RK .i64 n) ∧ (ws.length ≤ 9223372036854775807 ∧ ∀ n ∈ ws, RK .i64 n), .bool true) := (rfl)
theorem lawMajorityNode_ok (ps ws : List Int) (hp : (ps.length ≤ 9223372036854775807 ∧ ∀ n ∈ ps, RK .i64 n) ∧ (ws.length ≤ 9223372036854775807 ∧ ∀ n ∈ ws, RK .i64 n)) : SpecOK Try.prog 7 [.ints ps, .ints ws] (.bool true) [] := by
  refine fun_ok (C := t_toI ++ t_majS ++ t_majI ++ t_eqI) (hint := hintX [] [] 0 [] []) ((((t_toI_ok).append t_majS_ok).append t_majI_ok).append t_eqI_ok) mixed Try.func7 rfl (by kernel_rfl) rfl ?_
  show codeA _ _ _ _ _ _ _ _
  simp only [go_sem, cond_true, cond_false, ↓reduceIte, Nat.reduceEqDiff, Nat.reduceBEq, List.map_cons, List.map_nil, List.append_nil, List.cons_append, List.nil_append, true_and, and_true, Nat.reduceAdd, Nat.reduceSub, Nat.zero_add, Nat.add_zero, List.drop_zero, List.drop_succ_cons, List.take_succ_cons, List.take_zero, List.all_cons, List.all_nil, Bool.and_true, Bool.true_and, Bool.and_false, Bool.false_and, Bool.or_true, Bool.true_or, Bool.or_false, Bool.false_or, Bool.not_false, Bool.not_true, Option.getD_some, List.length_cons, List.length_nil, Nat.reduceLeDiff, Option.isSome_none, Option.isSome_some, Nat.reduceMul, eq_self, exists_const, List.toList_toArray, partB_true, partB_false, RK_i64, RK_u64, RK_u8, LoopEnd, List.getElem?_cons_zero, List.getElem?_cons_succ, List.getElem?_nil, Nat.sub_zero, Nat.le_refl, Int.toNat_natCast, List.set_cons_zero, List.set_cons_succ, List.getD_cons_zero, List.getD_cons_succ, Nat.sub_self, Option.map_some, Option.map_none, Try.results7]
  refine fork_intro (fun _ => trivial) (fun hx => fork_intro (fun _ => trivial) (fun hy => ?_))
  have f1 : ps.length ≤ 1048576000 ∧ ws.length ≤ 1048576000 := by omega
  repeat' (first | exact trivial | assumption | rfl | apply partB_self | apply partB_tt | apply forkP_true | apply forkP_eq | omega | refine And.intro ?_ ?_)
def t_lawMajorityNode : Table := [(7, pureC g_lawMajorityNode)]
theorem t_lawMajorityNode_ok : TabOK Try.prog t_lawMajorityNode := .cons Try.func7 (by kernel_rfl) (.pure (by intro args hp; unfold g_lawMajorityNode at hp ⊢; split at hp <;> first | exact hp.elim | exact lawMajorityNode_ok _ _ hp)) (.nil _)
attribute [go_sem] g_lawMajorityNode_eq t_lawMajorityNode
end Go.Proofs.Ytaoenbfmhdconaa
