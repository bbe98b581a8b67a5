/- The law on LineMedian keeps its contract: it says true. -/
import Derived.Test.YtibomnplkclkmaaA25
namespace Go.Proofs.Ytibomnplkclkmaa
open Go.Vc
set_option maxRecDepth 100000
set_option maxHeartbeats 1600000
set_option linter.unusedSimpArgs false
set_option linter.unusedVariables false
def g_lawLineMedian : List AV → Prop × AV
  | [.ints xs, .ints xs1, .int .i64 n2] => ((xs.length ≤ 9223372036854775807 ∧ ∀ n ∈ xs, RK .i64 n) ∧ (xs1.length ≤ 9223372036854775807 ∧ ∀ n ∈ xs1, RK .i64 n) ∧ RK .i64 n2, .bool true)
  | _ => (False, .undef)
theorem g_lawLineMedian_eq (xs : List Int) (xs1 : List Int) (n2 : Int) : g_lawLineMedian [.ints xs, .ints xs1, .int .i64 n2] = ((xs.length ≤ 9223372036854775807 ∧ ∀ n ∈ xs, RK .i64 n) ∧ (xs1.length ≤ 9223372036854775807 ∧ ∀ n ∈ xs1, RK .i64 n) ∧ RK .i64 n2, .bool true) := (rfl)
theorem lawLineMedian_ok (xs : List Int) (xs1 : List Int) (n2 : Int) (hp : (xs.length ≤ 9223372036854775807 ∧ ∀ n ∈ xs, RK .i64 n) ∧ (xs1.length ≤ 9223372036854775807 ∧ ∀ n ∈ xs1, RK .i64 n) ∧ RK .i64 n2) : SpecOK Try.prog 11 [.ints xs, .ints xs1, .int .i64 n2] (.bool true) [] := by
  refine fun_ok (C := t_toI ++ t_lineMedS ++ t_lineMedI ++ t_eqI) (hint := hintX [] [(5, [.cut [0, 1, 2]]), (6, [.cut [0, 1, 2, 7, 8]]), (7, [.cut [0, 1, 2, 7, 8, 9]]), (8, [.cut [0, 1, 2, 7, 8, 9, 10]]), (9, [.cut [0, 1, 7, 8, 9, 10, 11, 12]]), (11, [.cut [0, 1, 9, 10]]), (13, [.cut [1, 10]])] 0 [] [] [] []) ((((t_toI_ok).append t_lineMedS_ok).append t_lineMedI_ok).append t_eqI_ok) mixed Try.func11 rfl (by kernel_rfl) rfl ?_
  show codeA _ _ _ _ _ _ _ _
  simp only [go_sem, ↓reduceIte, Nat.reduceEqDiff, Nat.reduceBEq, Nat.reduceAdd, Nat.reduceSub, Nat.reduceLeDiff, Nat.reduceMul, Nat.reduceLT, Try.results11]
  obtain ⟨p0, p1, p2⟩ := hp
  refine fork_intro (fun _ => trivial) (fun hx0 => ?_)
  refine fork_intro (fun _ => trivial) (fun hx1 => ?_)
  repeat' (first | with_reducible exact True.intro | with_reducible assumption | (with_reducible refine stop_intro ?_; simp only [go_sem, ↓reduceIte, Nat.reduceEqDiff, Nat.reduceBEq, Nat.reduceAdd, Nat.reduceSub, Nat.reduceLeDiff, Nat.reduceMul, Nat.reduceLT, upF_len, markR_len, markR_idem, sumLen_mark, and_self, if_true, List.length_nil, sumLen_nil, upF_nil, markR_nil]; done) | (with_reducible refine stop_intro ?_; simp only [go_sem, ↓reduceIte, Nat.reduceEqDiff, Nat.reduceBEq, Nat.reduceAdd, Nat.reduceSub, Nat.reduceLeDiff, Nat.reduceMul, Nat.reduceLT, upF_len, markR_len, markR_idem, sumLen_mark, and_self, if_true, List.length_nil, sumLen_nil, upF_nil, markR_nil]) | with_reducible apply partB_self | with_reducible apply partB_tt | with_reducible apply forkP_true | with_reducible apply forkP_eq | omega | with_reducible rfl | with_reducible refine fork_intro (fun hb => ?_) (fun hb => ?_) | with_reducible refine And.intro ?_ ?_)
def t_lawLineMedian : Table := [(11, pureC g_lawLineMedian)]
theorem t_lawLineMedian_ok : TabOK Try.prog t_lawLineMedian := .cons Try.func11 (by kernel_rfl) (.pure (by intro args hp; unfold g_lawLineMedian at hp ⊢; split at hp <;> first | exact hp.elim | exact lawLineMedian_ok _ _ _ hp)) (.nil _)
attribute [go_sem] g_lawLineMedian_eq t_lawLineMedian
end Go.Proofs.Ytibomnplkclkmaa
