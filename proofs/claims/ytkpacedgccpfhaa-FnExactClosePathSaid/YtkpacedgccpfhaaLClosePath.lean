/- The law on ClosePath keeps its contract: it says true. -/
import Derived.Test.YtkpacedgccpfhaaA17
namespace Go.Proofs.Ytkpacedgccpfhaa
open Go.Vc
set_option maxRecDepth 100000
set_option maxHeartbeats 1600000
set_option linter.unusedSimpArgs false
set_option linter.unusedVariables false
def g_lawClosePath : List AV → Prop × AV
  | [.agg [.ints o, .rows d]] => (((o.length ≤ 9223372036854775807 ∧ ∀ n ∈ o, RK .i64 n) ∧ d.length ≤ 9223372036854775807 ∧ ∀ x ∈ d, x.length ≤ 9223372036854775807 ∧ ∀ n ∈ x, RK .i64 n), .bool true)
  | _ => (False, .undef)
theorem g_lawClosePath_eq (o : List Int) (d : List (List Int)) : g_lawClosePath [.agg [.ints o, .rows d]] = (((o.length ≤ 9223372036854775807 ∧ ∀ n ∈ o, RK .i64 n) ∧ d.length ≤ 9223372036854775807 ∧ ∀ x ∈ d, x.length ≤ 9223372036854775807 ∧ ∀ n ∈ x, RK .i64 n), .bool true) := (rfl)
theorem lawClosePath_ok (o : List Int) (d : List (List Int)) (hp : ((o.length ≤ 9223372036854775807 ∧ ∀ n ∈ o, RK .i64 n) ∧ d.length ≤ 9223372036854775807 ∧ ∀ x ∈ d, x.length ≤ 9223372036854775807 ∧ ∀ n ∈ x, RK .i64 n)) : SpecOK Try.prog 7 [.agg [.ints o, .rows d]] (.bool true) [] := by
  refine fun_ok (C := t_szF ++ t_toF ++ t_closeOfS ++ t_closeOfI ++ t_eqF ++ t_markF ++ t_heldF) (hint := hintX [4, 6, 7, 12, 26, 29, 30] [(5, [.cut [1]]), (6, [.cut [1, 4, 5]]), (7, [.cut [1, 4, 5, 6]]), (8, [.cut [1, 4, 5, 6, 7, 8]]), (10, [.cut [1, 4, 5, 6, 7, 8]]), (12, [.cut [1, 4, 5, 6, 7, 8]]), (13, [.cut [1, 4, 5, 6, 7, 8, 9]]), (14, [.cut [1, 4, 5, 7, 8, 9]]), (16, [.cut [1, 4, 5, 7]]), (17, [.cut [1, 4, 5, 7, 10]]), (18, [.cut [1, 4, 5, 7, 10]]), (19, [.cut [1, 4, 5, 7, 10, 11]]), (20, [.cut [1, 4, 5, 7, 10, 11]]), (22, [.cut [1, 4, 5, 7, 10, 11]]), (24, [.cut [1, 4, 5, 7, 10, 11]]), (25, [.cut [4, 5, 7, 10, 11, 12, 13]]), (27, [.cut [7, 10, 11]]), (28, [.cut [7, 10, 11]]), (29, [.cut [10, 11]]), (31, [.cut [10, 11]])] 0 [22] [] [] []) (((((((t_szF_ok).append t_toF_ok).append t_closeOfS_ok).append t_closeOfI_ok).append t_eqF_ok).append t_markF_ok).append t_heldF_ok) mixed Try.func7 rfl (by kernel_rfl) rfl ?_
  show codeA _ _ _ _ _ _ _ _
  simp only [go_sem, cond_true, cond_false, ↓reduceIte, Nat.reduceEqDiff, Nat.reduceBEq, List.map_cons, List.map_nil, List.append_nil, List.cons_append, List.nil_append, true_and, and_true, Nat.reduceAdd, Nat.reduceSub, Nat.zero_add, Nat.add_zero, List.drop_zero, List.drop_succ_cons, List.take_succ_cons, List.take_zero, List.all_cons, List.all_nil, Bool.and_true, Bool.true_and, Bool.and_false, Bool.false_and, Bool.or_true, Bool.true_or, Bool.or_false, Bool.false_or, Bool.not_false, Bool.not_true, Option.getD_some, List.length_cons, List.length_nil, Nat.reduceLeDiff, Option.isSome_none, Option.isSome_some, Nat.reduceMul, eq_self, exists_const, List.toList_toArray, partB_true, partB_false, RK_i64, RK_u64, RK_u8, LoopEnd, List.getElem?_cons_zero, List.getElem?_cons_succ, List.getElem?_nil, Nat.sub_zero, Nat.le_refl, Int.toNat_natCast, List.set_cons_zero, List.set_cons_succ, List.getD_cons_zero, List.getD_cons_succ, Nat.sub_self, Option.map_some, Option.map_none, List.length_append, Nat.reduceLT, Try.results7]
  have p0 := hp
  refine ⟨⟨⟨p0.1.1, p0.2.1, fun x hx => (p0.2.2 x hx).1⟩, by omega⟩, fork_intro (fun _ => trivial) (fun hz0 => ?_)⟩
  obtain ⟨ho0, hd0, hr0, hs0, fa0, fb0, fm0, le0⟩ := szF_is (by omega) hz0
  have nn0 := sumLen_nonneg d
  obtain ⟨g1, g2, g3, g4, g5⟩ : Small (bif good o d then o else []) (bif good o d then closeD d.length o.length d else []) := by
    cases hg : good o d with
    | false => exact small_nil
    | true =>
      have h := good_iff.1 hg
      have n7 := h.n7
      have m7 := h.m7
      have hc := (closeD_ok h.sh m7 n7).1.sh.field h
      have hm := hc.m7
      exact small_of n7 hm (fun x hx => by rw [hc.len x hx]; exact n7)
  repeat' (first | with_reducible exact True.intro | with_reducible assumption | (with_reducible refine stop_intro ?_; simp only [go_sem, cond_true, cond_false, ↓reduceIte, Nat.reduceEqDiff, Nat.reduceBEq, List.map_cons, List.map_nil, List.append_nil, List.cons_append, List.nil_append, true_and, and_true, Nat.reduceAdd, Nat.reduceSub, Nat.zero_add, Nat.add_zero, List.drop_zero, List.drop_succ_cons, List.take_succ_cons, List.take_zero, List.all_cons, List.all_nil, Bool.and_true, Bool.true_and, Bool.and_false, Bool.false_and, Bool.or_true, Bool.true_or, Bool.or_false, Bool.false_or, Bool.not_false, Bool.not_true, Option.getD_some, List.length_cons, List.length_nil, Nat.reduceLeDiff, Option.isSome_none, Option.isSome_some, Nat.reduceMul, eq_self, exists_const, List.toList_toArray, partB_true, partB_false, RK_i64, RK_u64, RK_u8, LoopEnd, List.getElem?_cons_zero, List.getElem?_cons_succ, List.getElem?_nil, Nat.sub_zero, Nat.le_refl, Int.toNat_natCast, List.set_cons_zero, List.set_cons_succ, List.getD_cons_zero, List.getD_cons_succ, Nat.sub_self, Option.map_some, Option.map_none, List.length_append, Nat.reduceLT, upF_len, markR_len, markR_idem, sumLen_mark, and_self, if_true, List.length_nil, sumLen_nil, upF_nil, markR_nil]; done) | (with_reducible refine stop_intro ?_; simp only [go_sem, cond_true, cond_false, ↓reduceIte, Nat.reduceEqDiff, Nat.reduceBEq, List.map_cons, List.map_nil, List.append_nil, List.cons_append, List.nil_append, true_and, and_true, Nat.reduceAdd, Nat.reduceSub, Nat.zero_add, Nat.add_zero, List.drop_zero, List.drop_succ_cons, List.take_succ_cons, List.take_zero, List.all_cons, List.all_nil, Bool.and_true, Bool.true_and, Bool.and_false, Bool.false_and, Bool.or_true, Bool.true_or, Bool.or_false, Bool.false_or, Bool.not_false, Bool.not_true, Option.getD_some, List.length_cons, List.length_nil, Nat.reduceLeDiff, Option.isSome_none, Option.isSome_some, Nat.reduceMul, eq_self, exists_const, List.toList_toArray, partB_true, partB_false, RK_i64, RK_u64, RK_u8, LoopEnd, List.getElem?_cons_zero, List.getElem?_cons_succ, List.getElem?_nil, Nat.sub_zero, Nat.le_refl, Int.toNat_natCast, List.set_cons_zero, List.set_cons_succ, List.getD_cons_zero, List.getD_cons_succ, Nat.sub_self, Option.map_some, Option.map_none, List.length_append, Nat.reduceLT, upF_len, markR_len, markR_idem, sumLen_mark, and_self, if_true, List.length_nil, sumLen_nil, upF_nil, markR_nil]) | with_reducible apply partB_self | with_reducible apply partB_tt | with_reducible apply forkP_true | with_reducible apply forkP_eq | omega | with_reducible rfl | with_reducible refine fork_intro (fun hb => ?_) (fun hb => ?_) | with_reducible refine And.intro ?_ ?_)
def t_lawClosePath : Table := [(7, pureC g_lawClosePath)]
theorem t_lawClosePath_ok : TabOK Try.prog t_lawClosePath := .cons Try.func7 (by kernel_rfl) (.pure (by intro args hp; unfold g_lawClosePath at hp ⊢; split at hp <;> first | exact hp.elim | exact lawClosePath_ok _ _ hp)) (.nil _)
attribute [go_sem] g_lawClosePath_eq t_lawClosePath
end Go.Proofs.Ytkpacedgccpfhaa
