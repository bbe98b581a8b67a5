/- The number of bits, medians by closing: both packages say the same. -/
import Derived.Test.YtibomnplkclkmaaA20
namespace Go.Proofs.Ytibomnplkclkmaa
open Go.Vc
set_option maxRecDepth 100000
set_option linter.unusedSimpArgs false
set_option linter.unusedVariables false

def g_ones64 : List AV → Prop × AV
  | [.int .u64 b] => (0 ≤ b ∧ b < 128, .int .i64 ((bagL b.toNat).length))
  | _ => (False, .undef)
theorem g_ones64_eq (b : Int) : g_ones64 [.int .u64 b] = (0 ≤ b ∧ b < 128, .int .i64 ((bagL b.toNat).length)) := (rfl)
theorem ones64_ok (b : Int) (hp : 0 ≤ b ∧ b < 128) : SpecOK Try.prog 154 [.int .u64 b] (.int .i64 ((bagL b.toNat).length)) [] := by
  refine fun_ok (C := []) (hint := hintX [] [(2, [.cut [0]]), (3, [.cut [0]]), (4, [.cut [0]]), (5, [.cut [0]]), (6, [.cut [0]]), (7, [.cut [0]])] 0 [] [] [] []) (TabOK.nil _) mixed Try.func154 rfl (by kernel_rfl) rfl ?_
  show codeA _ _ _ _ _ _ _ _
  simp only [go_sem, cond_true, cond_false, ↓reduceIte, Nat.reduceEqDiff, Nat.reduceBEq, List.map_cons, List.map_nil, List.append_nil, List.cons_append, List.nil_append, true_and, and_true, Nat.reduceAdd, Nat.reduceSub, Nat.zero_add, Nat.add_zero, List.drop_zero, List.drop_succ_cons, List.take_succ_cons, List.take_zero, List.all_cons, List.all_nil, Bool.and_true, Bool.true_and, Bool.and_false, Bool.false_and, Bool.or_true, Bool.true_or, Bool.or_false, Bool.false_or, Bool.not_false, Bool.not_true, Option.getD_some, List.length_cons, List.length_nil, Nat.reduceLeDiff, Option.isSome_none, Option.isSome_some, Nat.reduceMul, eq_self, exists_const, List.toList_toArray, partB_true, partB_false, RK_i64, RK_u64, RK_u8, LoopEnd, List.getElem?_cons_zero, List.getElem?_cons_succ, List.getElem?_nil, Nat.sub_zero, Nat.le_refl, Int.toNat_natCast, List.set_cons_zero, List.set_cons_succ, List.getD_cons_zero, List.getD_cons_succ, Nat.sub_self, Option.map_some, Option.map_none, List.length_append, Nat.reduceLT, Try.results154]
  obtain ⟨b, rfl⟩ : ∃ k : Nat, b = k := ⟨b.toNat, by omega⟩
  have hb : b < 128 := by omega
  obtain ⟨⟨⟨b1, b2, b3⟩, b4, b5, b6⟩, b7⟩ := s_all b hb
  simp only [v_addu, p_addu, shr_cast, Int.toNat_natCast, bitN_and, Nat.reducePow, Int.reduceToNat]
  repeat' (first | with_reducible refine And.intro ?_ ?_)
  all_goals try (first | with_reducible exact True.intro | omega)
  refine stop_int (v' := (s1 b : Nat)) (by rw [← Int.natCast_add]; have hw := wrap_nat (x := s1 b) (by omega); unfold s1 at hw ⊢; exact hw) ?_
  refine stop_intro ?_
  simp only [go_sem, cond_true, cond_false, ↓reduceIte, Nat.reduceEqDiff, Nat.reduceBEq, List.map_cons, List.map_nil, List.append_nil, List.cons_append, List.nil_append, true_and, and_true, Nat.reduceAdd, Nat.reduceSub, Nat.zero_add, Nat.add_zero, List.drop_zero, List.drop_succ_cons, List.take_succ_cons, List.take_zero, List.all_cons, List.all_nil, Bool.and_true, Bool.true_and, Bool.and_false, Bool.false_and, Bool.or_true, Bool.true_or, Bool.or_false, Bool.false_or, Bool.not_false, Bool.not_true, Option.getD_some, List.length_cons, List.length_nil, Nat.reduceLeDiff, Option.isSome_none, Option.isSome_some, Nat.reduceMul, eq_self, exists_const, List.toList_toArray, partB_true, partB_false, RK_i64, RK_u64, RK_u8, LoopEnd, List.getElem?_cons_zero, List.getElem?_cons_succ, List.getElem?_nil, Nat.sub_zero, Nat.le_refl, Int.toNat_natCast, List.set_cons_zero, List.set_cons_succ, List.getD_cons_zero, List.getD_cons_succ, Nat.sub_self, Option.map_some, Option.map_none, List.length_append, Nat.reduceLT]
  simp only [v_addu, p_addu, shr_cast, Int.toNat_natCast, bitN_and, Nat.reducePow, Int.reduceToNat]
  repeat' (first | with_reducible refine And.intro ?_ ?_)
  all_goals try (first | with_reducible exact True.intro | omega)
  refine stop_int (v' := (s2 b : Nat)) (by rw [← Int.natCast_add]; have hw := wrap_nat (x := s2 b) (by omega); unfold s2 at hw ⊢; exact hw) ?_
  refine stop_intro ?_
  simp only [go_sem, cond_true, cond_false, ↓reduceIte, Nat.reduceEqDiff, Nat.reduceBEq, List.map_cons, List.map_nil, List.append_nil, List.cons_append, List.nil_append, true_and, and_true, Nat.reduceAdd, Nat.reduceSub, Nat.zero_add, Nat.add_zero, List.drop_zero, List.drop_succ_cons, List.take_succ_cons, List.take_zero, List.all_cons, List.all_nil, Bool.and_true, Bool.true_and, Bool.and_false, Bool.false_and, Bool.or_true, Bool.true_or, Bool.or_false, Bool.false_or, Bool.not_false, Bool.not_true, Option.getD_some, List.length_cons, List.length_nil, Nat.reduceLeDiff, Option.isSome_none, Option.isSome_some, Nat.reduceMul, eq_self, exists_const, List.toList_toArray, partB_true, partB_false, RK_i64, RK_u64, RK_u8, LoopEnd, List.getElem?_cons_zero, List.getElem?_cons_succ, List.getElem?_nil, Nat.sub_zero, Nat.le_refl, Int.toNat_natCast, List.set_cons_zero, List.set_cons_succ, List.getD_cons_zero, List.getD_cons_succ, Nat.sub_self, Option.map_some, Option.map_none, List.length_append, Nat.reduceLT]
  simp only [v_addu, p_addu, shr_cast, Int.toNat_natCast, bitN_and, Nat.reducePow, Int.reduceToNat]
  have w3 : IntKind.u64.wrap ((s2 b / 16 : Nat) + (s2 b : Nat)) = ((s2 b / 16 + s2 b : Nat) : Int) := by rw [← Int.natCast_add]; exact wrap_nat (by omega)
  simp only [w3, v_addu, p_addu, p_and, RK_u64, shr_cast, Int.toNat_natCast, bitN_and, Int.reduceToNat]
  repeat' (first | with_reducible refine And.intro ?_ ?_)
  all_goals try (first | with_reducible exact True.intro | omega)
  refine stop_int (v' := (s3 b : Nat)) (by simp only [Int.toNat_natCast, Int.reduceToNat, bitN_and]; unfold s3; with_reducible rfl) ?_
  refine stop_intro ?_
  simp only [go_sem, cond_true, cond_false, ↓reduceIte, Nat.reduceEqDiff, Nat.reduceBEq, List.map_cons, List.map_nil, List.append_nil, List.cons_append, List.nil_append, true_and, and_true, Nat.reduceAdd, Nat.reduceSub, Nat.zero_add, Nat.add_zero, List.drop_zero, List.drop_succ_cons, List.take_succ_cons, List.take_zero, List.all_cons, List.all_nil, Bool.and_true, Bool.true_and, Bool.and_false, Bool.false_and, Bool.or_true, Bool.true_or, Bool.or_false, Bool.false_or, Bool.not_false, Bool.not_true, Option.getD_some, List.length_cons, List.length_nil, Nat.reduceLeDiff, Option.isSome_none, Option.isSome_some, Nat.reduceMul, eq_self, exists_const, List.toList_toArray, partB_true, partB_false, RK_i64, RK_u64, RK_u8, LoopEnd, List.getElem?_cons_zero, List.getElem?_cons_succ, List.getElem?_nil, Nat.sub_zero, Nat.le_refl, Int.toNat_natCast, List.set_cons_zero, List.set_cons_succ, List.getD_cons_zero, List.getD_cons_succ, Nat.sub_self, Option.map_some, Option.map_none, List.length_append, Nat.reduceLT]
  simp only [v_addu, p_addu, shr_cast, Int.toNat_natCast, bitN_and, Nat.reducePow, Int.reduceToNat]
  repeat' (first | with_reducible refine And.intro ?_ ?_)
  all_goals try (first | with_reducible exact True.intro | omega)
  refine stop_int (v' := (s4 b : Nat)) (by rw [← Int.natCast_add]; have hw := wrap_nat (x := s4 b) (by omega); unfold s4 at hw ⊢; exact hw) ?_
  refine stop_intro ?_
  simp only [go_sem, cond_true, cond_false, ↓reduceIte, Nat.reduceEqDiff, Nat.reduceBEq, List.map_cons, List.map_nil, List.append_nil, List.cons_append, List.nil_append, true_and, and_true, Nat.reduceAdd, Nat.reduceSub, Nat.zero_add, Nat.add_zero, List.drop_zero, List.drop_succ_cons, List.take_succ_cons, List.take_zero, List.all_cons, List.all_nil, Bool.and_true, Bool.true_and, Bool.and_false, Bool.false_and, Bool.or_true, Bool.true_or, Bool.or_false, Bool.false_or, Bool.not_false, Bool.not_true, Option.getD_some, List.length_cons, List.length_nil, Nat.reduceLeDiff, Option.isSome_none, Option.isSome_some, Nat.reduceMul, eq_self, exists_const, List.toList_toArray, partB_true, partB_false, RK_i64, RK_u64, RK_u8, LoopEnd, List.getElem?_cons_zero, List.getElem?_cons_succ, List.getElem?_nil, Nat.sub_zero, Nat.le_refl, Int.toNat_natCast, List.set_cons_zero, List.set_cons_succ, List.getD_cons_zero, List.getD_cons_succ, Nat.sub_self, Option.map_some, Option.map_none, List.length_append, Nat.reduceLT]
  simp only [v_addu, p_addu, shr_cast, Int.toNat_natCast, bitN_and, Nat.reducePow, Int.reduceToNat]
  repeat' (first | with_reducible refine And.intro ?_ ?_)
  all_goals try (first | with_reducible exact True.intro | omega)
  refine stop_int (v' := (s5 b : Nat)) (by rw [← Int.natCast_add]; have hw := wrap_nat (x := s5 b) (by omega); unfold s5 at hw ⊢; exact hw) ?_
  refine stop_intro ?_
  simp only [go_sem, cond_true, cond_false, ↓reduceIte, Nat.reduceEqDiff, Nat.reduceBEq, List.map_cons, List.map_nil, List.append_nil, List.cons_append, List.nil_append, true_and, and_true, Nat.reduceAdd, Nat.reduceSub, Nat.zero_add, Nat.add_zero, List.drop_zero, List.drop_succ_cons, List.take_succ_cons, List.take_zero, List.all_cons, List.all_nil, Bool.and_true, Bool.true_and, Bool.and_false, Bool.false_and, Bool.or_true, Bool.true_or, Bool.or_false, Bool.false_or, Bool.not_false, Bool.not_true, Option.getD_some, List.length_cons, List.length_nil, Nat.reduceLeDiff, Option.isSome_none, Option.isSome_some, Nat.reduceMul, eq_self, exists_const, List.toList_toArray, partB_true, partB_false, RK_i64, RK_u64, RK_u8, LoopEnd, List.getElem?_cons_zero, List.getElem?_cons_succ, List.getElem?_nil, Nat.sub_zero, Nat.le_refl, Int.toNat_natCast, List.set_cons_zero, List.set_cons_succ, List.getD_cons_zero, List.getD_cons_succ, Nat.sub_self, Option.map_some, Option.map_none, List.length_append, Nat.reduceLT]
  simp only [v_addu, p_addu, shr_cast, Int.toNat_natCast, bitN_and, Nat.reducePow, Int.reduceToNat]
  repeat' (first | with_reducible refine And.intro ?_ ?_)
  all_goals try (first | with_reducible exact True.intro | omega)
  refine stop_int (v' := (s6 b : Nat)) (by rw [← Int.natCast_add]; have hw := wrap_nat (x := s6 b) (by omega); unfold s6 at hw ⊢; exact hw) ?_
  refine stop_intro ?_
  simp only [go_sem, cond_true, cond_false, ↓reduceIte, Nat.reduceEqDiff, Nat.reduceBEq, List.map_cons, List.map_nil, List.append_nil, List.cons_append, List.nil_append, true_and, and_true, Nat.reduceAdd, Nat.reduceSub, Nat.zero_add, Nat.add_zero, List.drop_zero, List.drop_succ_cons, List.take_succ_cons, List.take_zero, List.all_cons, List.all_nil, Bool.and_true, Bool.true_and, Bool.and_false, Bool.false_and, Bool.or_true, Bool.true_or, Bool.or_false, Bool.false_or, Bool.not_false, Bool.not_true, Option.getD_some, List.length_cons, List.length_nil, Nat.reduceLeDiff, Option.isSome_none, Option.isSome_some, Nat.reduceMul, eq_self, exists_const, List.toList_toArray, partB_true, partB_false, RK_i64, RK_u64, RK_u8, LoopEnd, List.getElem?_cons_zero, List.getElem?_cons_succ, List.getElem?_nil, Nat.sub_zero, Nat.le_refl, Int.toNat_natCast, List.set_cons_zero, List.set_cons_succ, List.getD_cons_zero, List.getD_cons_succ, Nat.sub_self, Option.map_some, Option.map_none, List.length_append, Nat.reduceLT]
  simp only [v_addu, p_addu, shr_cast, Int.toNat_natCast, bitN_and, Nat.reducePow, Int.reduceToNat]
  repeat' (first | with_reducible refine And.intro ?_ ?_)
  all_goals try (first | with_reducible exact True.intro | omega)
  all_goals (rw [b7])
def t_ones64 : Table := [(154, pureC g_ones64)]
theorem t_ones64_ok : TabOK Try.prog t_ones64 := .cons Try.func154 (by kernel_rfl) (.pure (by intro args hp; unfold g_ones64 at hp ⊢; split at hp <;> first | exact hp.elim | exact ones64_ok _ hp)) (.nil _)
attribute [go_sem] g_ones64_eq t_ones64
def g_onesI : List AV → Prop × AV
  | [.int .u64 b] => (0 ≤ b ∧ b < 128, .int .i64 ((bagL b.toNat).length))
  | _ => (False, .undef)
theorem g_onesI_eq (b : Int) : g_onesI [.int .u64 b] = (0 ≤ b ∧ b < 128, .int .i64 ((bagL b.toNat).length)) := (rfl)
theorem onesI_ok (b : Int) (hp : 0 ≤ b ∧ b < 128) : SpecOK Try.prog 113 [.int .u64 b] (.int .i64 ((bagL b.toNat).length)) [] := by
  refine fun_ok (C := t_ones64) (hint := hintX [] [] 0 [] [] [] []) (t_ones64_ok) mixed Try.func113 rfl (by kernel_rfl) rfl ?_
  show codeA _ _ _ _ _ _ _ _
  simp only [go_sem, cond_true, cond_false, ↓reduceIte, Nat.reduceEqDiff, Nat.reduceBEq, List.map_cons, List.map_nil, List.append_nil, List.cons_append, List.nil_append, true_and, and_true, Nat.reduceAdd, Nat.reduceSub, Nat.zero_add, Nat.add_zero, List.drop_zero, List.drop_succ_cons, List.take_succ_cons, List.take_zero, List.all_cons, List.all_nil, Bool.and_true, Bool.true_and, Bool.and_false, Bool.false_and, Bool.or_true, Bool.true_or, Bool.or_false, Bool.false_or, Bool.not_false, Bool.not_true, Option.getD_some, List.length_cons, List.length_nil, Nat.reduceLeDiff, Option.isSome_none, Option.isSome_some, Nat.reduceMul, eq_self, exists_const, List.toList_toArray, partB_true, partB_false, RK_i64, RK_u64, RK_u8, LoopEnd, List.getElem?_cons_zero, List.getElem?_cons_succ, List.getElem?_nil, Nat.sub_zero, Nat.le_refl, Int.toNat_natCast, List.set_cons_zero, List.set_cons_succ, List.getD_cons_zero, List.getD_cons_succ, Nat.sub_self, Option.map_some, Option.map_none, List.length_append, Nat.reduceLT, Try.results113]
  first | exact hp | exact ⟨hp, rfl⟩
def t_onesI : Table := [(113, pureC g_onesI)]
theorem t_onesI_ok : TabOK Try.prog t_onesI := .cons Try.func113 (by kernel_rfl) (.pure (by intro args hp; unfold g_onesI at hp ⊢; split at hp <;> first | exact hp.elim | exact onesI_ok _ hp)) (.nil _)
attribute [go_sem] g_onesI_eq t_onesI
def g_sizeI : List AV → Prop × AV
  | [.int .u64 b] => (0 ≤ b ∧ b < 128, .int .i64 ((bagL b.toNat).length))
  | _ => (False, .undef)
theorem g_sizeI_eq (b : Int) : g_sizeI [.int .u64 b] = (0 ≤ b ∧ b < 128, .int .i64 ((bagL b.toNat).length)) := (rfl)
theorem sizeI_ok (b : Int) (hp : 0 ≤ b ∧ b < 128) : SpecOK Try.prog 58 [.int .u64 b] (.int .i64 ((bagL b.toNat).length)) [] := by
  refine fun_ok (C := t_onesI) (hint := hintX [] [] 0 [] [] [] []) (t_onesI_ok) mixed Try.func58 rfl (by kernel_rfl) rfl ?_
  show codeA _ _ _ _ _ _ _ _
  simp only [go_sem, cond_true, cond_false, ↓reduceIte, Nat.reduceEqDiff, Nat.reduceBEq, List.map_cons, List.map_nil, List.append_nil, List.cons_append, List.nil_append, true_and, and_true, Nat.reduceAdd, Nat.reduceSub, Nat.zero_add, Nat.add_zero, List.drop_zero, List.drop_succ_cons, List.take_succ_cons, List.take_zero, List.all_cons, List.all_nil, Bool.and_true, Bool.true_and, Bool.and_false, Bool.false_and, Bool.or_true, Bool.true_or, Bool.or_false, Bool.false_or, Bool.not_false, Bool.not_true, Option.getD_some, List.length_cons, List.length_nil, Nat.reduceLeDiff, Option.isSome_none, Option.isSome_some, Nat.reduceMul, eq_self, exists_const, List.toList_toArray, partB_true, partB_false, RK_i64, RK_u64, RK_u8, LoopEnd, List.getElem?_cons_zero, List.getElem?_cons_succ, List.getElem?_nil, Nat.sub_zero, Nat.le_refl, Int.toNat_natCast, List.set_cons_zero, List.set_cons_succ, List.getD_cons_zero, List.getD_cons_succ, Nat.sub_self, Option.map_some, Option.map_none, List.length_append, Nat.reduceLT, Try.results58]
  first | exact hp | exact ⟨hp, rfl⟩
def t_sizeI : Table := [(58, pureC g_sizeI)]
theorem t_sizeI_ok : TabOK Try.prog t_sizeI := .cons Try.func58 (by kernel_rfl) (.pure (by intro args hp; unfold g_sizeI at hp ⊢; split at hp <;> first | exact hp.elim | exact sizeI_ok _ hp)) (.nil _)
attribute [go_sem] g_sizeI_eq t_sizeI
def g_revS : List AV → Prop × AV
  | [.agg [.ints o, .rows d], .int .i64 k] => (o.length ≤ 1048576000 ∧ d.length ≤ 1048576000 ∧ ∀ x ∈ d, x.length ≤ 1048576000, .tup [.ints (bif medB o d k then revL o d (o.length - k.toNat) else []), .bool (medB o d k)])
  | _ => (False, .undef)
theorem g_revS_eq (o : List Int) (d : List (List Int)) (k : Int) : g_revS [.agg [.ints o, .rows d], .int .i64 k] = (o.length ≤ 1048576000 ∧ d.length ≤ 1048576000 ∧ ∀ x ∈ d, x.length ≤ 1048576000, .tup [.ints (bif medB o d k then revL o d (o.length - k.toNat) else []), .bool (medB o d k)]) := (rfl)
theorem revS_ok (o : List Int) (d : List (List Int)) (k : Int) (hp : o.length ≤ 1048576000 ∧ d.length ≤ 1048576000 ∧ ∀ x ∈ d, x.length ≤ 1048576000) : SpecOK Try.prog 16 [.agg [.ints o, .rows d], .int .i64 k] (.tup [.ints (bif medB o d k then revL o d (o.length - k.toNat) else []), .bool (medB o d k)]) [] := by
  refine fun_ok (C := t_l4K ++ t_bitsS ++ t_withoutS ++ t_serveS) (hint := hintX [] [] 0 [] [] [] []) ((((t_l4K_ok).append t_bitsS_ok).append t_withoutS_ok).append t_serveS_ok) mixed Try.func16 rfl (by kernel_rfl) rfl ?_
  show codeA _ _ _ _ _ _ _ _
  simp only [go_sem, cond_true, cond_false, ↓reduceIte, Nat.reduceEqDiff, Nat.reduceBEq, List.map_cons, List.map_nil, List.append_nil, List.cons_append, List.nil_append, true_and, and_true, Nat.reduceAdd, Nat.reduceSub, Nat.zero_add, Nat.add_zero, List.drop_zero, List.drop_succ_cons, List.take_succ_cons, List.take_zero, List.all_cons, List.all_nil, Bool.and_true, Bool.true_and, Bool.and_false, Bool.false_and, Bool.or_true, Bool.true_or, Bool.or_false, Bool.false_or, Bool.not_false, Bool.not_true, Option.getD_some, List.length_cons, List.length_nil, Nat.reduceLeDiff, Option.isSome_none, Option.isSome_some, Nat.reduceMul, eq_self, exists_const, List.toList_toArray, partB_true, partB_false, RK_i64, RK_u64, RK_u8, LoopEnd, List.getElem?_cons_zero, List.getElem?_cons_succ, List.getElem?_nil, Nat.sub_zero, Nat.le_refl, Int.toNat_natCast, List.set_cons_zero, List.set_cons_succ, List.getD_cons_zero, List.getD_cons_succ, Nat.sub_self, Option.map_some, Option.map_none, List.length_append, Nat.reduceLT, Try.results16]
  refine ⟨hp, partB_intro (fun hg => ?_) (fun hg => ?_)⟩
  · have hg2 := hg
    simp only [medB, Bool.and_eq_true, decide_eq_true_eq] at hg2
    have hf := good_iff.1 hg2.1
    have hn := hf.n7
    rw [hg]
    obtain ⟨f1, f2, f3⟩ := full_bits o.length hn
    obtain ⟨_, p1, p2⟩ := pow_sub o.length hn
    refine ⟨by omega, by omega, by omega, ?_⟩
    refine loop_intro (fun j : Nat => [(6, .ints (revL o d j)), (1, .int .i64 k), (2, .iptr [.ints o, .rows d])]) (fun _ => []) 0 (fun j => j ≤ o.length - k.toNat) (fun j => o.length - k.toNat - j) 0 (by omega) (by omega) ?_ ?_
    · simp only [go_sem, cond_true, cond_false, ↓reduceIte, Nat.reduceEqDiff, Nat.reduceBEq, List.map_cons, List.map_nil, List.append_nil, List.cons_append, List.nil_append, true_and, and_true, Nat.reduceAdd, Nat.reduceSub, Nat.zero_add, Nat.add_zero, List.drop_zero, List.drop_succ_cons, List.take_succ_cons, List.take_zero, List.all_cons, List.all_nil, Bool.and_true, Bool.true_and, Bool.and_false, Bool.false_and, Bool.or_true, Bool.true_or, Bool.or_false, Bool.false_or, Bool.not_false, Bool.not_true, Option.getD_some, List.length_cons, List.length_nil, Nat.reduceLeDiff, Option.isSome_none, Option.isSome_some, Nat.reduceMul, eq_self, exists_const, List.toList_toArray, partB_true, partB_false, RK_i64, RK_u64, RK_u8, LoopEnd, List.getElem?_cons_zero, List.getElem?_cons_succ, List.getElem?_nil, Nat.sub_zero, Nat.le_refl, Int.toNat_natCast, List.set_cons_zero, List.set_cons_succ, List.getD_cons_zero, List.getD_cons_succ, Nat.sub_self, Option.map_some, Option.map_none, List.length_append, Nat.reduceLT]
      repeat' (first | refine fork_intro (fun hb => ?_) (fun hb => ?_) | refine partB_intro (fun hb => ?_) (fun hb => ?_) | refine And.intro ?_ ?_)
      all_goals first | exact True.intro | omega | with_reducible rfl | exact congrArg (AV.int _) (by omega) | (first | rfl | (rw [f1]; rfl))
    · intro j hj
      have hR := revL_ok o d j (by omega)
      have hl := hR.len
      simp only [go_sem, cond_true, cond_false, ↓reduceIte, Nat.reduceEqDiff, Nat.reduceBEq, List.map_cons, List.map_nil, List.append_nil, List.cons_append, List.nil_append, true_and, and_true, Nat.reduceAdd, Nat.reduceSub, Nat.zero_add, Nat.add_zero, List.drop_zero, List.drop_succ_cons, List.take_succ_cons, List.take_zero, List.all_cons, List.all_nil, Bool.and_true, Bool.true_and, Bool.and_false, Bool.false_and, Bool.or_true, Bool.true_or, Bool.or_false, Bool.false_or, Bool.not_false, Bool.not_true, Option.getD_some, List.length_cons, List.length_nil, Nat.reduceLeDiff, Option.isSome_none, Option.isSome_some, Nat.reduceMul, eq_self, exists_const, List.toList_toArray, partB_true, partB_false, RK_i64, RK_u64, RK_u8, LoopEnd, List.getElem?_cons_zero, List.getElem?_cons_succ, List.getElem?_nil, Nat.sub_zero, Nat.le_refl, Int.toNat_natCast, List.set_cons_zero, List.set_cons_succ, List.getD_cons_zero, List.getD_cons_succ, Nat.sub_self, Option.map_some, Option.map_none, List.length_append, Nat.reduceLT]
      refine fork_intro (fun hc => ?_) (fun hc => ?_)
      · refine ⟨by omega, ?_⟩
        refine loop_intro (fun i : Nat => [(7, .int .i64 (bestR d (revL o d j) i)), (8, .int .i64 i), (6, .ints (revL o d j)), (1, .int .i64 k), (2, .iptr [.ints o, .rows d])]) (fun _ => []) 0 (fun i => 1 ≤ i ∧ i ≤ (revL o d j).length) (fun i => (revL o d j).length - i) 1 (by omega) (by omega) ?_ ?_
        · have e1 : bestR d (revL o d j) 1 = ix (revL o d j) 0 := bestR_one
          simp only [go_sem, cond_true, cond_false, ↓reduceIte, Nat.reduceEqDiff, Nat.reduceBEq, List.map_cons, List.map_nil, List.append_nil, List.cons_append, List.nil_append, true_and, and_true, Nat.reduceAdd, Nat.reduceSub, Nat.zero_add, Nat.add_zero, List.drop_zero, List.drop_succ_cons, List.take_succ_cons, List.take_zero, List.all_cons, List.all_nil, Bool.and_true, Bool.true_and, Bool.and_false, Bool.false_and, Bool.or_true, Bool.true_or, Bool.or_false, Bool.false_or, Bool.not_false, Bool.not_true, Option.getD_some, List.length_cons, List.length_nil, Nat.reduceLeDiff, Option.isSome_none, Option.isSome_some, Nat.reduceMul, eq_self, exists_const, List.toList_toArray, partB_true, partB_false, RK_i64, RK_u64, RK_u8, LoopEnd, List.getElem?_cons_zero, List.getElem?_cons_succ, List.getElem?_nil, Nat.sub_zero, Nat.le_refl, Int.toNat_natCast, List.set_cons_zero, List.set_cons_succ, List.getD_cons_zero, List.getD_cons_succ, Nat.sub_self, Option.map_some, Option.map_none, List.length_append, Nat.reduceLT]
          repeat' (first | refine fork_intro (fun hb => ?_) (fun hb => ?_) | refine partB_intro (fun hb => ?_) (fun hb => ?_) | refine And.intro ?_ ?_)
          all_goals first | exact True.intro | omega | with_reducible rfl | exact congrArg (AV.int _) (by omega) | (first | rfl | rw [e1])
        · rintro i ⟨hi1, hi⟩
          have hbm := bestR_mem (d := d) (set := revL o d j) (fun x hx => (hR.mem x hx).1) i hi
          have e : bestR d (revL o d j) (i + 1) = if bestR d (revL o d j) i < 0 ∨ svc d (without (revL o d j) (ix (revL o d j) (i : Int))) < svc d (without (revL o d j) (bestR d (revL o d j) i)) then ix (revL o d j) (i : Int) else bestR d (revL o d j) i := rfl
          have o1 := hR.without_open (d := d) hf (by omega) (ix (revL o d j) (i : Int))
          have o2 := hR.without_open (d := d) hf (by omega) (bestR d (revL o d j) i)
          simp only [go_sem, cond_true, cond_false, ↓reduceIte, Nat.reduceEqDiff, Nat.reduceBEq, List.map_cons, List.map_nil, List.append_nil, List.cons_append, List.nil_append, true_and, and_true, Nat.reduceAdd, Nat.reduceSub, Nat.zero_add, Nat.add_zero, List.drop_zero, List.drop_succ_cons, List.take_succ_cons, List.take_zero, List.all_cons, List.all_nil, Bool.and_true, Bool.true_and, Bool.and_false, Bool.false_and, Bool.or_true, Bool.true_or, Bool.or_false, Bool.false_or, Bool.not_false, Bool.not_true, Option.getD_some, List.length_cons, List.length_nil, Nat.reduceLeDiff, Option.isSome_none, Option.isSome_some, Nat.reduceMul, eq_self, exists_const, List.toList_toArray, partB_true, partB_false, RK_i64, RK_u64, RK_u8, LoopEnd, List.getElem?_cons_zero, List.getElem?_cons_succ, List.getElem?_nil, Nat.sub_zero, Nat.le_refl, Int.toNat_natCast, List.set_cons_zero, List.set_cons_succ, List.getD_cons_zero, List.getD_cons_succ, Nat.sub_self, Option.map_some, Option.map_none, List.length_append, Nat.reduceLT]
          refine fork_intro (fun hd => ?_) (fun hd => ?_)
          · refine ⟨by omega, by omega, o1, by omega, o2, fork_intro (fun h3 => ?_) (fun h3 => ?_)⟩
            · rw [if_pos (.inr h3)] at e
              repeat' (first | refine fork_intro (fun hb => ?_) (fun hb => ?_) | refine partB_intro (fun hb => ?_) (fun hb => ?_) | refine And.intro ?_ ?_)
              all_goals first | exact True.intro | omega | with_reducible rfl | exact congrArg (AV.int _) (by omega) | (refine LoopEnd.intro (i + 1) (by first | omega) (by first | omega | (dsimp only; omega)) (by omega) ?_; simp only [go_sem, cond_true, cond_false, ↓reduceIte, Nat.reduceEqDiff, Nat.reduceBEq, List.map_cons, List.map_nil, List.append_nil, List.cons_append, List.nil_append, true_and, and_true, Nat.reduceAdd, Nat.reduceSub, Nat.zero_add, Nat.add_zero, List.drop_zero, List.drop_succ_cons, List.take_succ_cons, List.take_zero, List.all_cons, List.all_nil, Bool.and_true, Bool.true_and, Bool.and_false, Bool.false_and, Bool.or_true, Bool.true_or, Bool.or_false, Bool.false_or, Bool.not_false, Bool.not_true, Option.getD_some, List.length_cons, List.length_nil, Nat.reduceLeDiff, Option.isSome_none, Option.isSome_some, Nat.reduceMul, eq_self, exists_const, List.toList_toArray, partB_true, partB_false, RK_i64, RK_u64, RK_u8, LoopEnd, List.getElem?_cons_zero, List.getElem?_cons_succ, List.getElem?_nil, Nat.sub_zero, Nat.le_refl, Int.toNat_natCast, List.set_cons_zero, List.set_cons_succ, List.getD_cons_zero, List.getD_cons_succ, Nat.sub_self, Option.map_some, Option.map_none, List.length_append, Nat.reduceLT]; (repeat' (first | refine fork_intro (fun hb => ?_) (fun hb => ?_) | refine partB_intro (fun hb => ?_) (fun hb => ?_) | refine And.intro ?_ ?_)); all_goals first | exact True.intro | omega | with_reducible rfl | exact congrArg (AV.int _) (by omega) | (first | rw [e])) | (first | rw [e])
            · rw [if_neg (fun h => by rcases h with h | h <;> omega)] at e
              repeat' (first | refine fork_intro (fun hb => ?_) (fun hb => ?_) | refine partB_intro (fun hb => ?_) (fun hb => ?_) | refine And.intro ?_ ?_)
              all_goals first | exact True.intro | omega | with_reducible rfl | exact congrArg (AV.int _) (by omega) | (refine LoopEnd.intro (i + 1) (by first | omega) (by first | omega | (dsimp only; omega)) (by omega) ?_; simp only [go_sem, cond_true, cond_false, ↓reduceIte, Nat.reduceEqDiff, Nat.reduceBEq, List.map_cons, List.map_nil, List.append_nil, List.cons_append, List.nil_append, true_and, and_true, Nat.reduceAdd, Nat.reduceSub, Nat.zero_add, Nat.add_zero, List.drop_zero, List.drop_succ_cons, List.take_succ_cons, List.take_zero, List.all_cons, List.all_nil, Bool.and_true, Bool.true_and, Bool.and_false, Bool.false_and, Bool.or_true, Bool.true_or, Bool.or_false, Bool.false_or, Bool.not_false, Bool.not_true, Option.getD_some, List.length_cons, List.length_nil, Nat.reduceLeDiff, Option.isSome_none, Option.isSome_some, Nat.reduceMul, eq_self, exists_const, List.toList_toArray, partB_true, partB_false, RK_i64, RK_u64, RK_u8, LoopEnd, List.getElem?_cons_zero, List.getElem?_cons_succ, List.getElem?_nil, Nat.sub_zero, Nat.le_refl, Int.toNat_natCast, List.set_cons_zero, List.set_cons_succ, List.getD_cons_zero, List.getD_cons_succ, Nat.sub_self, Option.map_some, Option.map_none, List.length_append, Nat.reduceLT]; (repeat' (first | refine fork_intro (fun hb => ?_) (fun hb => ?_) | refine partB_intro (fun hb => ?_) (fun hb => ?_) | refine And.intro ?_ ?_)); all_goals first | exact True.intro | omega | with_reducible rfl | exact congrArg (AV.int _) (by omega) | (first | rw [e])) | (first | rw [e])
          · have hil : i = (revL o d j).length := by omega
            subst hil
            repeat' (first | refine fork_intro (fun hb => ?_) (fun hb => ?_) | refine partB_intro (fun hb => ?_) (fun hb => ?_) | refine And.intro ?_ ?_)
            all_goals first | exact True.intro | omega | with_reducible rfl | exact congrArg (AV.int _) (by omega) | (refine LoopEnd.intro (j + 1) (by first | omega) (by first | omega | (dsimp only; omega)) (by omega) ?_; simp only [go_sem, cond_true, cond_false, ↓reduceIte, Nat.reduceEqDiff, Nat.reduceBEq, List.map_cons, List.map_nil, List.append_nil, List.cons_append, List.nil_append, true_and, and_true, Nat.reduceAdd, Nat.reduceSub, Nat.zero_add, Nat.add_zero, List.drop_zero, List.drop_succ_cons, List.take_succ_cons, List.take_zero, List.all_cons, List.all_nil, Bool.and_true, Bool.true_and, Bool.and_false, Bool.false_and, Bool.or_true, Bool.true_or, Bool.or_false, Bool.false_or, Bool.not_false, Bool.not_true, Option.getD_some, List.length_cons, List.length_nil, Nat.reduceLeDiff, Option.isSome_none, Option.isSome_some, Nat.reduceMul, eq_self, exists_const, List.toList_toArray, partB_true, partB_false, RK_i64, RK_u64, RK_u8, LoopEnd, List.getElem?_cons_zero, List.getElem?_cons_succ, List.getElem?_nil, Nat.sub_zero, Nat.le_refl, Int.toNat_natCast, List.set_cons_zero, List.set_cons_succ, List.getD_cons_zero, List.getD_cons_succ, Nat.sub_self, Option.map_some, Option.map_none, List.length_append, Nat.reduceLT]; (repeat' (first | refine fork_intro (fun hb => ?_) (fun hb => ?_) | refine partB_intro (fun hb => ?_) (fun hb => ?_) | refine And.intro ?_ ?_)); all_goals first | exact True.intro | omega | with_reducible rfl | exact congrArg (AV.int _) (by omega) | (first | rfl)) | (first | rfl)
      · have hjk : j = o.length - k.toNat := by omega
        subst hjk
        repeat' (first | refine fork_intro (fun hb => ?_) (fun hb => ?_) | refine partB_intro (fun hb => ?_) (fun hb => ?_) | refine And.intro ?_ ?_)
        all_goals first | exact True.intro | omega | with_reducible rfl | exact congrArg (AV.int _) (by omega) | (first | rfl)
  · rw [hg]
    repeat' (first | refine fork_intro (fun hb => ?_) (fun hb => ?_) | refine partB_intro (fun hb => ?_) (fun hb => ?_) | refine And.intro ?_ ?_)
    all_goals first | exact True.intro | omega | with_reducible rfl | exact congrArg (AV.int _) (by omega) | (first | rfl)
def t_revS : Table := [(16, pureC g_revS)]
theorem t_revS_ok : TabOK Try.prog t_revS := .cons Try.func16 (by kernel_rfl) (.pure (by intro args hp; unfold g_revS at hp ⊢; split at hp <;> first | exact hp.elim | exact revS_ok _ _ _ hp)) (.nil _)
attribute [go_sem] g_revS_eq t_revS
def g_revI : List AV → Prop × AV × Heap
  | [.agg [.ints o, .rows d], .int .i64 k] => (o.length ≤ 1048576000 ∧ d.length ≤ 1048576000 ∧ ∀ x ∈ d, x.length ≤ 1048576000, .tup [.sl 0, .bool (medB o d k)], [(0, .arr (.ints (bif medB o d k then revL o d (o.length - k.toNat) else [])))])
  | _ => (False, .undef, [])
theorem g_revI_eq (o : List Int) (d : List (List Int)) (k : Int) : g_revI [.agg [.ints o, .rows d], .int .i64 k] = (o.length ≤ 1048576000 ∧ d.length ≤ 1048576000 ∧ ∀ x ∈ d, x.length ≤ 1048576000, .tup [.sl 0, .bool (medB o d k)], [(0, .arr (.ints (bif medB o d k then revL o d (o.length - k.toNat) else [])))]) := (rfl)
theorem revI_ok (o : List Int) (d : List (List Int)) (k : Int) (hp : o.length ≤ 1048576000 ∧ d.length ≤ 1048576000 ∧ ∀ x ∈ d, x.length ≤ 1048576000) : SpecOK Try.prog 18 [.agg [.ints o, .rows d], .int .i64 k] (.tup [.sl 0, .bool (medB o d k)]) [(0, .arr (.ints (bif medB o d k then revL o d (o.length - k.toNat) else [])))] := by
  refine fun_ok (C := t_medCase ++ t_sizeI ++ t_listI ++ t_serviceI) (hint := hintX [56] [(2, [.post, .up 4 (.arr (.ints []))])] 0 [] [] [] []) ((((t_medCase_ok).append t_sizeI_ok).append t_listI_ok).append t_serviceI_ok) mixed Try.func18 rfl (by kernel_rfl) rfl ?_
  show codeA _ _ _ _ _ _ _ _
  simp only [go_sem, cond_true, cond_false, ↓reduceIte, Nat.reduceEqDiff, Nat.reduceBEq, List.map_cons, List.map_nil, List.append_nil, List.cons_append, List.nil_append, true_and, and_true, Nat.reduceAdd, Nat.reduceSub, Nat.zero_add, Nat.add_zero, List.drop_zero, List.drop_succ_cons, List.take_succ_cons, List.take_zero, List.all_cons, List.all_nil, Bool.and_true, Bool.true_and, Bool.and_false, Bool.false_and, Bool.or_true, Bool.true_or, Bool.or_false, Bool.false_or, Bool.not_false, Bool.not_true, Option.getD_some, List.length_cons, List.length_nil, Nat.reduceLeDiff, Option.isSome_none, Option.isSome_some, Nat.reduceMul, eq_self, exists_const, List.toList_toArray, partB_true, partB_false, RK_i64, RK_u64, RK_u8, LoopEnd, List.getElem?_cons_zero, List.getElem?_cons_succ, List.getElem?_nil, Nat.sub_zero, Nat.le_refl, Int.toNat_natCast, List.set_cons_zero, List.set_cons_succ, List.getD_cons_zero, List.getD_cons_succ, Nat.sub_self, Option.map_some, Option.map_none, List.length_append, Nat.reduceLT, Try.results18]
  refine ⟨hp, partB_intro (fun hg => ?_) (fun hg => ?_)⟩
  · have hg2 := hg
    simp only [medB, Bool.and_eq_true, decide_eq_true_eq] at hg2
    have hf := good_iff.1 hg2.1
    have hn := hf.n7
    rw [hg]
    obtain ⟨f1, f2, f3⟩ := full_bits o.length hn
    obtain ⟨p0, p1, p2⟩ := pow_sub o.length hn
    refine ⟨⟨by omega, by omega, by omega⟩, ?_⟩
    with_reducible refine And.intro (by rw [p_subu]; exact True.intro) ?_
    refine loop_intro (fun j : Nat => [(6, .int .u64 (bag (revL o d j))), (1, .int .i64 k), (2, .iptr [.ints o, .rows d])]) (fun _ => []) 0 (fun j => j ≤ o.length - k.toNat) (fun j => o.length - k.toNat - j) 0 (by omega) (by omega) ?_ ?_
    · have e0 : bag (revL o d 0) = 2 ^ o.length - 1 := bag_full o.length hn
      simp only [go_sem, cond_true, cond_false, ↓reduceIte, Nat.reduceEqDiff, Nat.reduceBEq, List.map_cons, List.map_nil, List.append_nil, List.cons_append, List.nil_append, true_and, and_true, Nat.reduceAdd, Nat.reduceSub, Nat.zero_add, Nat.add_zero, List.drop_zero, List.drop_succ_cons, List.take_succ_cons, List.take_zero, List.all_cons, List.all_nil, Bool.and_true, Bool.true_and, Bool.and_false, Bool.false_and, Bool.or_true, Bool.true_or, Bool.or_false, Bool.false_or, Bool.not_false, Bool.not_true, Option.getD_some, List.length_cons, List.length_nil, Nat.reduceLeDiff, Option.isSome_none, Option.isSome_some, Nat.reduceMul, eq_self, exists_const, List.toList_toArray, partB_true, partB_false, RK_i64, RK_u64, RK_u8, LoopEnd, List.getElem?_cons_zero, List.getElem?_cons_succ, List.getElem?_nil, Nat.sub_zero, Nat.le_refl, Int.toNat_natCast, List.set_cons_zero, List.set_cons_succ, List.getD_cons_zero, List.getD_cons_succ, Nat.sub_self, Option.map_some, Option.map_none, List.length_append, Nat.reduceLT, v_subu, p_subu]
      rw [p0, e0]
      repeat' (first | refine fork_intro (fun hb => ?_) (fun hb => ?_) | refine partB_intro (fun hb => ?_) (fun hb => ?_) | refine And.intro ?_ ?_)
      all_goals first | exact True.intro | omega | with_reducible rfl | exact congrArg (AV.int _) (by omega) | (first | rfl)
    · intro j hj
      have hR := revL_ok o d j (by omega)
      have hl := hR.len
      have hup := hR.up
      have hx7 : ∀ x ∈ revL o d j, 0 ≤ x ∧ x < 7 := fun x hx => by have := hR.mem x hx; omega
      have hbag := bag_lt hx7
      have hbl := bagL_len hup hx7
      simp only [go_sem, cond_true, cond_false, ↓reduceIte, Nat.reduceEqDiff, Nat.reduceBEq, List.map_cons, List.map_nil, List.append_nil, List.cons_append, List.nil_append, true_and, and_true, Nat.reduceAdd, Nat.reduceSub, Nat.zero_add, Nat.add_zero, List.drop_zero, List.drop_succ_cons, List.take_succ_cons, List.take_zero, List.all_cons, List.all_nil, Bool.and_true, Bool.true_and, Bool.and_false, Bool.false_and, Bool.or_true, Bool.true_or, Bool.or_false, Bool.false_or, Bool.not_false, Bool.not_true, Option.getD_some, List.length_cons, List.length_nil, Nat.reduceLeDiff, Option.isSome_none, Option.isSome_some, Nat.reduceMul, eq_self, exists_const, List.toList_toArray, partB_true, partB_false, RK_i64, RK_u64, RK_u8, LoopEnd, List.getElem?_cons_zero, List.getElem?_cons_succ, List.getElem?_nil, Nat.sub_zero, Nat.le_refl, Int.toNat_natCast, List.set_cons_zero, List.set_cons_succ, List.getD_cons_zero, List.getD_cons_succ, Nat.sub_self, Option.map_some, Option.map_none, List.length_append, Nat.reduceLT]
      simp only [hbl]
      refine ⟨by omega, fork_intro (fun hc => ?_) (fun hc => ?_)⟩
      · refine ⟨by omega, ?_⟩
        refine loop_intro (fun i : Nat => [(24, .ints (revL o d j)), (25, .int .i64 (revL o d j).length), (26, .int .i64 i), (7, .int .i64 (bestR d (revL o d j) i)), (6, .int .u64 (bag (revL o d j))), (1, .int .i64 k), (2, .iptr [.ints o, .rows d])]) (fun _ => []) 0 (fun i => i ≤ (revL o d j).length) (fun i => (revL o d j).length - i) 0 (by omega) (by omega) ?_ ?_
        · simp only [go_sem, cond_true, cond_false, ↓reduceIte, Nat.reduceEqDiff, Nat.reduceBEq, List.map_cons, List.map_nil, List.append_nil, List.cons_append, List.nil_append, true_and, and_true, Nat.reduceAdd, Nat.reduceSub, Nat.zero_add, Nat.add_zero, List.drop_zero, List.drop_succ_cons, List.take_succ_cons, List.take_zero, List.all_cons, List.all_nil, Bool.and_true, Bool.true_and, Bool.and_false, Bool.false_and, Bool.or_true, Bool.true_or, Bool.or_false, Bool.false_or, Bool.not_false, Bool.not_true, Option.getD_some, List.length_cons, List.length_nil, Nat.reduceLeDiff, Option.isSome_none, Option.isSome_some, Nat.reduceMul, eq_self, exists_const, List.toList_toArray, partB_true, partB_false, RK_i64, RK_u64, RK_u8, LoopEnd, List.getElem?_cons_zero, List.getElem?_cons_succ, List.getElem?_nil, Nat.sub_zero, Nat.le_refl, Int.toNat_natCast, List.set_cons_zero, List.set_cons_succ, List.getD_cons_zero, List.getD_cons_succ, Nat.sub_self, Option.map_some, Option.map_none, List.length_append, Nat.reduceLT]
          repeat' (first | refine fork_intro (fun hb => ?_) (fun hb => ?_) | refine partB_intro (fun hb => ?_) (fun hb => ?_) | refine And.intro ?_ ?_)
          all_goals first | exact True.intro | omega | with_reducible rfl | exact congrArg (AV.int _) (by omega) | (first | rfl | rw [hbl])
        · intro i hi
          have hbm := bestR_mem (d := d) (set := revL o d j) (fun x hx => (hR.mem x hx).1) i hi
          have e : bestR d (revL o d j) (i + 1) = if bestR d (revL o d j) i < 0 ∨ svc d (without (revL o d j) (ix (revL o d j) (i : Int))) < svc d (without (revL o d j) (bestR d (revL o d j) i)) then ix (revL o d j) (i : Int) else bestR d (revL o d j) i := rfl
          simp only [go_sem, cond_true, cond_false, ↓reduceIte, Nat.reduceEqDiff, Nat.reduceBEq, List.map_cons, List.map_nil, List.append_nil, List.cons_append, List.nil_append, true_and, and_true, Nat.reduceAdd, Nat.reduceSub, Nat.zero_add, Nat.add_zero, List.drop_zero, List.drop_succ_cons, List.take_succ_cons, List.take_zero, List.all_cons, List.all_nil, Bool.and_true, Bool.true_and, Bool.and_false, Bool.false_and, Bool.or_true, Bool.true_or, Bool.or_false, Bool.false_or, Bool.not_false, Bool.not_true, Option.getD_some, List.length_cons, List.length_nil, Nat.reduceLeDiff, Option.isSome_none, Option.isSome_some, Nat.reduceMul, eq_self, exists_const, List.toList_toArray, partB_true, partB_false, RK_i64, RK_u64, RK_u8, LoopEnd, List.getElem?_cons_zero, List.getElem?_cons_succ, List.getElem?_nil, Nat.sub_zero, Nat.le_refl, Int.toNat_natCast, List.set_cons_zero, List.set_cons_succ, List.getD_cons_zero, List.getD_cons_succ, Nat.sub_self, Option.map_some, Option.map_none, List.length_append, Nat.reduceLT]
          refine fork_intro (fun hd => ?_) (fun hd => ?_)
          · have hxi := hx7 _ (ix_mem (revL o d j) (k := i) (by omega))
            refine ⟨by omega, fork_intro (fun h2 => ?_) (fun h2 => ?_)⟩
            · rw [if_pos (.inl h2)] at e
              repeat' (first | refine fork_intro (fun hb => ?_) (fun hb => ?_) | refine partB_intro (fun hb => ?_) (fun hb => ?_) | refine And.intro ?_ ?_)
              all_goals first | exact True.intro | omega | with_reducible rfl | exact congrArg (AV.int _) (by omega) | (refine LoopEnd.intro (i + 1) (by first | omega) (by first | omega | (dsimp only; omega)) (by omega) ?_; simp only [go_sem, cond_true, cond_false, ↓reduceIte, Nat.reduceEqDiff, Nat.reduceBEq, List.map_cons, List.map_nil, List.append_nil, List.cons_append, List.nil_append, true_and, and_true, Nat.reduceAdd, Nat.reduceSub, Nat.zero_add, Nat.add_zero, List.drop_zero, List.drop_succ_cons, List.take_succ_cons, List.take_zero, List.all_cons, List.all_nil, Bool.and_true, Bool.true_and, Bool.and_false, Bool.false_and, Bool.or_true, Bool.true_or, Bool.or_false, Bool.false_or, Bool.not_false, Bool.not_true, Option.getD_some, List.length_cons, List.length_nil, Nat.reduceLeDiff, Option.isSome_none, Option.isSome_some, Nat.reduceMul, eq_self, exists_const, List.toList_toArray, partB_true, partB_false, RK_i64, RK_u64, RK_u8, LoopEnd, List.getElem?_cons_zero, List.getElem?_cons_succ, List.getElem?_nil, Nat.sub_zero, Nat.le_refl, Int.toNat_natCast, List.set_cons_zero, List.set_cons_succ, List.getD_cons_zero, List.getD_cons_succ, Nat.sub_self, Option.map_some, Option.map_none, List.length_append, Nat.reduceLT]; (repeat' (first | refine fork_intro (fun hb => ?_) (fun hb => ?_) | refine partB_intro (fun hb => ?_) (fun hb => ?_) | refine And.intro ?_ ?_)); all_goals first | exact True.intro | omega | with_reducible rfl | exact congrArg (AV.int _) (by omega) | (first | rw [e])) | (first | rw [e])
            · have hbs : bestR d (revL o d j) i ∈ revL o d j := by
                rcases hbm with ⟨h, _⟩ | h
                · omega
                · exact h.2.1
              have hb7 := hx7 _ hbs
              have o1 := hR.without_open (d := d) hf (by omega) (ix (revL o d j) (i : Int))
              have o2 := hR.without_open (d := d) hf (by omega) (bestR d (revL o d j) i)
              have e1 := without_bagL hup hx7 hxi
              have e2 := without_bagL hup hx7 hb7
              obtain ⟨q1, q2, q3⟩ := pow7 (ix (revL o d j) (i : Int)).toNat (by omega)
              obtain ⟨r1, r2, r3⟩ := pow7 (bestR d (revL o d j) i).toNat (by omega)
              have l1 := andNot_lt (1 * 2 ^ (ix (revL o d j) (i : Int)).toNat) hbag
              have l2 := andNot_lt (1 * 2 ^ (bestR d (revL o d j) i).toNat) hbag
              simp only [q3, r3, bitN_andNot, e1, e2]
              refine ⟨by omega, by omega, by omega, o1, by omega, by omega, by omega, o2, fork_intro (fun h3 => ?_) (fun h3 => ?_)⟩
              · rw [if_pos (.inr h3)] at e
                repeat' (first | refine fork_intro (fun hb => ?_) (fun hb => ?_) | refine partB_intro (fun hb => ?_) (fun hb => ?_) | refine And.intro ?_ ?_)
                all_goals first | exact True.intro | omega | with_reducible rfl | exact congrArg (AV.int _) (by omega) | (refine LoopEnd.intro (i + 1) (by first | omega) (by first | omega | (dsimp only; omega)) (by omega) ?_; simp only [go_sem, cond_true, cond_false, ↓reduceIte, Nat.reduceEqDiff, Nat.reduceBEq, List.map_cons, List.map_nil, List.append_nil, List.cons_append, List.nil_append, true_and, and_true, Nat.reduceAdd, Nat.reduceSub, Nat.zero_add, Nat.add_zero, List.drop_zero, List.drop_succ_cons, List.take_succ_cons, List.take_zero, List.all_cons, List.all_nil, Bool.and_true, Bool.true_and, Bool.and_false, Bool.false_and, Bool.or_true, Bool.true_or, Bool.or_false, Bool.false_or, Bool.not_false, Bool.not_true, Option.getD_some, List.length_cons, List.length_nil, Nat.reduceLeDiff, Option.isSome_none, Option.isSome_some, Nat.reduceMul, eq_self, exists_const, List.toList_toArray, partB_true, partB_false, RK_i64, RK_u64, RK_u8, LoopEnd, List.getElem?_cons_zero, List.getElem?_cons_succ, List.getElem?_nil, Nat.sub_zero, Nat.le_refl, Int.toNat_natCast, List.set_cons_zero, List.set_cons_succ, List.getD_cons_zero, List.getD_cons_succ, Nat.sub_self, Option.map_some, Option.map_none, List.length_append, Nat.reduceLT]; (repeat' (first | refine fork_intro (fun hb => ?_) (fun hb => ?_) | refine partB_intro (fun hb => ?_) (fun hb => ?_) | refine And.intro ?_ ?_)); all_goals first | exact True.intro | omega | with_reducible rfl | exact congrArg (AV.int _) (by omega) | (first | rw [e])) | (first | rw [e])
              · rw [if_neg (fun h => by rcases h with h | h <;> omega)] at e
                repeat' (first | refine fork_intro (fun hb => ?_) (fun hb => ?_) | refine partB_intro (fun hb => ?_) (fun hb => ?_) | refine And.intro ?_ ?_)
                all_goals first | exact True.intro | omega | with_reducible rfl | exact congrArg (AV.int _) (by omega) | (refine LoopEnd.intro (i + 1) (by first | omega) (by first | omega | (dsimp only; omega)) (by omega) ?_; simp only [go_sem, cond_true, cond_false, ↓reduceIte, Nat.reduceEqDiff, Nat.reduceBEq, List.map_cons, List.map_nil, List.append_nil, List.cons_append, List.nil_append, true_and, and_true, Nat.reduceAdd, Nat.reduceSub, Nat.zero_add, Nat.add_zero, List.drop_zero, List.drop_succ_cons, List.take_succ_cons, List.take_zero, List.all_cons, List.all_nil, Bool.and_true, Bool.true_and, Bool.and_false, Bool.false_and, Bool.or_true, Bool.true_or, Bool.or_false, Bool.false_or, Bool.not_false, Bool.not_true, Option.getD_some, List.length_cons, List.length_nil, Nat.reduceLeDiff, Option.isSome_none, Option.isSome_some, Nat.reduceMul, eq_self, exists_const, List.toList_toArray, partB_true, partB_false, RK_i64, RK_u64, RK_u8, LoopEnd, List.getElem?_cons_zero, List.getElem?_cons_succ, List.getElem?_nil, Nat.sub_zero, Nat.le_refl, Int.toNat_natCast, List.set_cons_zero, List.set_cons_succ, List.getD_cons_zero, List.getD_cons_succ, Nat.sub_self, Option.map_some, Option.map_none, List.length_append, Nat.reduceLT]; (repeat' (first | refine fork_intro (fun hb => ?_) (fun hb => ?_) | refine partB_intro (fun hb => ?_) (fun hb => ?_) | refine And.intro ?_ ?_)); all_goals first | exact True.intro | omega | with_reducible rfl | exact congrArg (AV.int _) (by omega) | (first | rw [e])) | (first | rw [e])
          · have hil : i = (revL o d j).length := by omega
            subst hil
            have hbs : bestR d (revL o d j) (revL o d j).length ∈ revL o d j := by
              rcases hbm with ⟨_, h⟩ | h
              · omega
              · exact h.2.1
            have hb7 := hx7 _ hbs
            obtain ⟨r1, r2, r3⟩ := pow7 (bestR d (revL o d j) (revL o d j).length).toNat (by omega)
            have l2 := andNot_lt (1 * 2 ^ (bestR d (revL o d j) (revL o d j).length).toNat) hbag
            have e2 : bag (revL o d (j + 1)) = bag (revL o d j) ^^^ (bag (revL o d j) &&& 1 * 2 ^ (bestR d (revL o d j) (revL o d j).length).toNat) := without_bag hup hx7 hb7
            simp only [r3, bitN_andNot, ← e2] at l2 ⊢
            repeat' (first | refine fork_intro (fun hb => ?_) (fun hb => ?_) | refine partB_intro (fun hb => ?_) (fun hb => ?_) | refine And.intro ?_ ?_)
            all_goals first | exact True.intro | omega | with_reducible rfl | exact congrArg (AV.int _) (by omega) | (refine LoopEnd.intro (j + 1) (by first | omega) (by first | omega | (dsimp only; omega)) (by omega) ?_; simp only [go_sem, cond_true, cond_false, ↓reduceIte, Nat.reduceEqDiff, Nat.reduceBEq, List.map_cons, List.map_nil, List.append_nil, List.cons_append, List.nil_append, true_and, and_true, Nat.reduceAdd, Nat.reduceSub, Nat.zero_add, Nat.add_zero, List.drop_zero, List.drop_succ_cons, List.take_succ_cons, List.take_zero, List.all_cons, List.all_nil, Bool.and_true, Bool.true_and, Bool.and_false, Bool.false_and, Bool.or_true, Bool.true_or, Bool.or_false, Bool.false_or, Bool.not_false, Bool.not_true, Option.getD_some, List.length_cons, List.length_nil, Nat.reduceLeDiff, Option.isSome_none, Option.isSome_some, Nat.reduceMul, eq_self, exists_const, List.toList_toArray, partB_true, partB_false, RK_i64, RK_u64, RK_u8, LoopEnd, List.getElem?_cons_zero, List.getElem?_cons_succ, List.getElem?_nil, Nat.sub_zero, Nat.le_refl, Int.toNat_natCast, List.set_cons_zero, List.set_cons_succ, List.getD_cons_zero, List.getD_cons_succ, Nat.sub_self, Option.map_some, Option.map_none, List.length_append, Nat.reduceLT]; (repeat' (first | refine fork_intro (fun hb => ?_) (fun hb => ?_) | refine partB_intro (fun hb => ?_) (fun hb => ?_) | refine And.intro ?_ ?_)); all_goals first | exact True.intro | omega | with_reducible rfl | exact congrArg (AV.int _) (by omega) | (first | rfl)) | (first | rfl)
      · have hjk : j = o.length - k.toNat := by omega
        subst hjk
        repeat' (first | refine fork_intro (fun hb => ?_) (fun hb => ?_) | refine partB_intro (fun hb => ?_) (fun hb => ?_) | refine And.intro ?_ ?_)
        all_goals first | exact True.intro | omega | with_reducible rfl | exact congrArg (AV.int _) (by omega) | (first | rfl)
  · rw [hg]
    repeat' (first | refine fork_intro (fun hb => ?_) (fun hb => ?_) | refine partB_intro (fun hb => ?_) (fun hb => ?_) | refine And.intro ?_ ?_)
    all_goals first | exact True.intro | omega | with_reducible rfl | exact congrArg (AV.int _) (by omega) | (first | rfl)
def t_revI : Table := [(18, ownC g_revI)]
theorem t_revI_ok : TabOK Try.prog t_revI := .cons Try.func18 (by kernel_rfl) (.own (by intro args hp; unfold g_revI at hp ⊢; split at hp <;> first | exact hp.elim | exact ⟨revI_ok _ _ _ hp, rfl⟩)) (.nil _)
attribute [go_sem] g_revI_eq t_revI
end Go.Proofs.Ytibomnplkclkmaa
