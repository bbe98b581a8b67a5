/- The law on JoinFields keeps its contract: it says true. -/
import Derived.Test.YtpkmpmlgkhlgoaaA13
namespace Go.Proofs.Ytpkmpmlgkhlgoaa
open Go.Vc
set_option maxRecDepth 100000
set_option maxHeartbeats 1600000
set_option linter.unusedSimpArgs false
set_option linter.unusedVariables false
def g_lawJoinFields : List AV → Prop × AV
  | [.agg [.ints o, .rows d], .agg [.ints o1, .rows d1]] => (((o.length ≤ 9223372036854775807 ∧ ∀ n ∈ o, RK .i64 n) ∧ d.length ≤ 9223372036854775807 ∧ ∀ x ∈ d, x.length ≤ 9223372036854775807 ∧ ∀ n ∈ x, RK .i64 n) ∧ ((o1.length ≤ 9223372036854775807 ∧ ∀ n ∈ o1, RK .i64 n) ∧ d1.length ≤ 9223372036854775807 ∧ ∀ x ∈ d1, x.length ≤ 9223372036854775807 ∧ ∀ n ∈ x, RK .i64 n), .bool true)
  | _ => (False, .undef)
theorem g_lawJoinFields_eq (o : List Int) (d : List (List Int)) (o1 : List Int) (d1 : List (List Int)) : g_lawJoinFields [.agg [.ints o, .rows d], .agg [.ints o1, .rows d1]] = (((o.length ≤ 9223372036854775807 ∧ ∀ n ∈ o, RK .i64 n) ∧ d.length ≤ 9223372036854775807 ∧ ∀ x ∈ d, x.length ≤ 9223372036854775807 ∧ ∀ n ∈ x, RK .i64 n) ∧ ((o1.length ≤ 9223372036854775807 ∧ ∀ n ∈ o1, RK .i64 n) ∧ d1.length ≤ 9223372036854775807 ∧ ∀ x ∈ d1, x.length ≤ 9223372036854775807 ∧ ∀ n ∈ x, RK .i64 n), .bool true) := (rfl)
theorem lawJoinFields_ok (o : List Int) (d : List (List Int)) (o1 : List Int) (d1 : List (List Int)) (hp : ((o.length ≤ 9223372036854775807 ∧ ∀ n ∈ o, RK .i64 n) ∧ d.length ≤ 9223372036854775807 ∧ ∀ x ∈ d, x.length ≤ 9223372036854775807 ∧ ∀ n ∈ x, RK .i64 n) ∧ ((o1.length ≤ 9223372036854775807 ∧ ∀ n ∈ o1, RK .i64 n) ∧ d1.length ≤ 9223372036854775807 ∧ ∀ x ∈ d1, x.length ≤ 9223372036854775807 ∧ ∀ n ∈ x, RK .i64 n)) : SpecOK Try.prog 13 [.agg [.ints o, .rows d], .agg [.ints o1, .rows d1]] (.bool true) [] := by
  refine fun_ok (C := t_szF ++ t_toF ++ t_joinS ++ t_joinI ++ t_eqF ++ t_markF ++ t_heldF) (hint := hintX [6, 8, 9, 10, 15, 36, 38, 42, 43] [(8, [.cut [2, 3]]), (9, [.cut [2, 3, 6, 7]]), (10, [.cut [2, 3, 6, 7, 8]]), (11, [.cut [2, 3, 6, 7, 8, 9]]), (12, [.cut [2, 3, 6, 7, 8, 9, 10, 11]]), (14, [.cut [2, 3, 6, 7, 8, 9, 10, 11]]), (16, [.cut [2, 3, 6, 7, 8, 9, 10, 11]]), (18, [.cut [2, 3, 6, 7, 8, 9, 10, 11]]), (19, [.cut [2, 3, 6, 7, 8, 9, 10, 11, 12]]), (20, [.cut [2, 3, 6, 7, 9, 10, 11, 12]]), (21, [.cut [2, 3, 6, 7, 10, 11, 12]]), (23, [.cut [2, 3, 6, 7, 10]]), (24, [.cut [2, 3, 6, 7, 10, 13]]), (25, [.cut [2, 3, 6, 7, 10, 13]]), (26, [.cut [2, 3, 6, 7, 10, 13, 14]]), (27, [.cut [2, 3, 6, 7, 10, 13, 14]]), (29, [.cut [2, 3, 6, 7, 10, 13, 14]]), (31, [.cut [2, 3, 6, 7, 10, 13, 14]]), (32, [.cut [6, 7, 10, 13, 14, 15, 16]]), (34, [.cut [10, 13, 14]]), (35, [.cut [10, 13, 14]]), (36, [.cut [13, 14]]), (38, [.cut [13, 14]])] 0 [21] [] [(8, [0,1,2,3,4,5,6,8,7,9,10]), (31, [0,1,2,3,4,5,6,8,7,9,10])] [(8, [8, 9]), (31, [8, 9])]) (((((((t_szF_ok).append t_toF_ok).append t_joinS_ok).append t_joinI_ok).append t_eqF_ok).append t_markF_ok).append t_heldF_ok) mixed Try.func13 rfl (by kernel_rfl) rfl ?_
  show codeA _ _ _ _ _ _ _ _
  simp only [go_sem, cond_true, cond_false, ↓reduceIte, Nat.reduceEqDiff, Nat.reduceBEq, List.map_cons, List.map_nil, List.append_nil, List.cons_append, List.nil_append, true_and, and_true, Nat.reduceAdd, Nat.reduceSub, Nat.zero_add, Nat.add_zero, List.drop_zero, List.drop_succ_cons, List.take_succ_cons, List.take_zero, List.all_cons, List.all_nil, Bool.and_true, Bool.true_and, Bool.and_false, Bool.false_and, Bool.or_true, Bool.true_or, Bool.or_false, Bool.false_or, Bool.not_false, Bool.not_true, Option.getD_some, List.length_cons, List.length_nil, Nat.reduceLeDiff, Option.isSome_none, Option.isSome_some, Nat.reduceMul, eq_self, exists_const, List.toList_toArray, partB_true, partB_false, RK_i64, RK_u64, RK_u8, LoopEnd, List.getElem?_cons_zero, List.getElem?_cons_succ, List.getElem?_nil, Nat.sub_zero, Nat.le_refl, Int.toNat_natCast, List.set_cons_zero, List.set_cons_succ, List.getD_cons_zero, List.getD_cons_succ, Nat.sub_self, Option.map_some, Option.map_none, List.length_append, Nat.reduceLT, Try.results13]
  obtain ⟨p0, p1⟩ := hp
  refine ⟨⟨⟨p0.1.1, p0.2.1, fun x hx => (p0.2.2 x hx).1⟩, by omega⟩, fork_intro (fun _ => trivial) (fun hz0 => ?_)⟩
  obtain ⟨ho0, hd0, hr0, hs0, fa0, fb0, fm0, le0⟩ := szF_is (by omega) hz0
  have nn0 := sumLen_nonneg d
  refine ⟨⟨⟨p1.1.1, p1.2.1, fun x hx => (p1.2.2 x hx).1⟩, by omega⟩, fork_intro (fun _ => trivial) (fun hz1 => ?_)⟩
  obtain ⟨ho1, hd1, hr1, hs1, fa1, fb1, fm1, le1⟩ := szF_is (by omega) hz1
  have nn1 := sumLen_nonneg d1
  obtain ⟨g1, g2, g3, g4, g5⟩ : Small (bif joinB o d o1 d1 then o else []) (bif joinB o d o1 d1 then d ++ d1 else []) := by
    cases hg : joinB o d o1 d1 with
    | false => exact small_nil
    | true =>
      simp only [joinB, Bool.and_eq_true, decide_eq_true_eq] at hg
      have h := good_iff.1 hg.1
      have h' := good_iff.1 hg.2.1
      have := h.n7
      have := h'.n7
      refine small_of h.n7 (by simp; omega) (fun x hx => ?_)
      rcases List.mem_append.1 hx with hx | hx
      · rw [h.len x hx]; exact h.n7
      · rw [h'.len x hx]; exact h'.n7
  repeat' (first | with_reducible exact True.intro | with_reducible assumption | (with_reducible refine stop_intro ?_; simp only [go_sem, cond_true, cond_false, ↓reduceIte, Nat.reduceEqDiff, Nat.reduceBEq, List.map_cons, List.map_nil, List.append_nil, List.cons_append, List.nil_append, true_and, and_true, Nat.reduceAdd, Nat.reduceSub, Nat.zero_add, Nat.add_zero, List.drop_zero, List.drop_succ_cons, List.take_succ_cons, List.take_zero, List.all_cons, List.all_nil, Bool.and_true, Bool.true_and, Bool.and_false, Bool.false_and, Bool.or_true, Bool.true_or, Bool.or_false, Bool.false_or, Bool.not_false, Bool.not_true, Option.getD_some, List.length_cons, List.length_nil, Nat.reduceLeDiff, Option.isSome_none, Option.isSome_some, Nat.reduceMul, eq_self, exists_const, List.toList_toArray, partB_true, partB_false, RK_i64, RK_u64, RK_u8, LoopEnd, List.getElem?_cons_zero, List.getElem?_cons_succ, List.getElem?_nil, Nat.sub_zero, Nat.le_refl, Int.toNat_natCast, List.set_cons_zero, List.set_cons_succ, List.getD_cons_zero, List.getD_cons_succ, Nat.sub_self, Option.map_some, Option.map_none, List.length_append, Nat.reduceLT, upF_len, markR_len, markR_idem, sumLen_mark, and_self, if_true, List.length_nil, sumLen_nil, upF_nil, markR_nil]; done) | (with_reducible refine stop_intro ?_; simp only [go_sem, cond_true, cond_false, ↓reduceIte, Nat.reduceEqDiff, Nat.reduceBEq, List.map_cons, List.map_nil, List.append_nil, List.cons_append, List.nil_append, true_and, and_true, Nat.reduceAdd, Nat.reduceSub, Nat.zero_add, Nat.add_zero, List.drop_zero, List.drop_succ_cons, List.take_succ_cons, List.take_zero, List.all_cons, List.all_nil, Bool.and_true, Bool.true_and, Bool.and_false, Bool.false_and, Bool.or_true, Bool.true_or, Bool.or_false, Bool.false_or, Bool.not_false, Bool.not_true, Option.getD_some, List.length_cons, List.length_nil, Nat.reduceLeDiff, Option.isSome_none, Option.isSome_some, Nat.reduceMul, eq_self, exists_const, List.toList_toArray, partB_true, partB_false, RK_i64, RK_u64, RK_u8, LoopEnd, List.getElem?_cons_zero, List.getElem?_cons_succ, List.getElem?_nil, Nat.sub_zero, Nat.le_refl, Int.toNat_natCast, List.set_cons_zero, List.set_cons_succ, List.getD_cons_zero, List.getD_cons_succ, Nat.sub_self, Option.map_some, Option.map_none, List.length_append, Nat.reduceLT, upF_len, markR_len, markR_idem, sumLen_mark, and_self, if_true, List.length_nil, sumLen_nil, upF_nil, markR_nil]) | with_reducible apply partB_self | with_reducible apply partB_tt | with_reducible apply forkP_true | with_reducible apply forkP_eq | omega | with_reducible rfl | with_reducible refine fork_intro (fun hb => ?_) (fun hb => ?_) | with_reducible refine And.intro ?_ ?_)
def t_lawJoinFields : Table := [(13, pureC g_lawJoinFields)]
theorem t_lawJoinFields_ok : TabOK Try.prog t_lawJoinFields := .cons Try.func13 (by kernel_rfl) (.pure (by intro args hp; unfold g_lawJoinFields at hp ⊢; split at hp <;> first | exact hp.elim | exact lawJoinFields_ok _ _ _ _ hp)) (.nil _)
attribute [go_sem] g_lawJoinFields_eq t_lawJoinFields
end Go.Proofs.Ytpkmpmlgkhlgoaa
