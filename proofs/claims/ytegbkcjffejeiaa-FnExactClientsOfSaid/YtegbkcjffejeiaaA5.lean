/- Rising lists and payments: both packages say the same. -/
import Derived.Test.YtegbkcjffejeiaaA3
import Derived.Test.YtegbkcjffejeiaaPlS
namespace Go.Proofs.Ytegbkcjffejeiaa
open Go.Vc
set_option maxRecDepth 100000
set_option linter.unusedSimpArgs false
set_option linter.unusedVariables false

def g_risS : List AV → Prop × AV
  | [.ints xs, .int .i64 lo, .int .i64 hi] => (xs.length ≤ 1048576000, .bool (ris lo hi xs))
  | _ => (False, .undef)
theorem g_risS_eq (xs : List Int) (lo hi : Int) : g_risS [.ints xs, .int .i64 lo, .int .i64 hi] = (xs.length ≤ 1048576000, .bool (ris lo hi xs)) := (rfl)
theorem risS_ok (xs : List Int) (lo hi : Int) (hp : xs.length ≤ 1048576000) : SpecOK Try.prog 46 [.ints xs, .int .i64 lo, .int .i64 hi] (.bool (ris lo hi xs)) [] := by
  refine fun_ok (C := t_l1In) (hint := hintX [] [] 0 [] [] [] []) (t_l1In_ok) mixed Try.func46 rfl (by kernel_rfl) rfl ?_
  show codeA _ _ _ _ _ _ _ _
  simp only [go_sem, cond_true, cond_false, ↓reduceIte, Nat.reduceEqDiff, Nat.reduceBEq, List.map_cons, List.map_nil, List.append_nil, List.cons_append, List.nil_append, true_and, and_true, Nat.reduceAdd, Nat.reduceSub, Nat.zero_add, Nat.add_zero, List.drop_zero, List.drop_succ_cons, List.take_succ_cons, List.take_zero, List.all_cons, List.all_nil, Bool.and_true, Bool.true_and, Bool.and_false, Bool.false_and, Bool.or_true, Bool.true_or, Bool.or_false, Bool.false_or, Bool.not_false, Bool.not_true, Option.getD_some, List.length_cons, List.length_nil, Nat.reduceLeDiff, Option.isSome_none, Option.isSome_some, Nat.reduceMul, eq_self, exists_const, List.toList_toArray, partB_true, partB_false, RK_i64, RK_u64, RK_u8, LoopEnd, List.getElem?_cons_zero, List.getElem?_cons_succ, List.getElem?_nil, Nat.sub_zero, Nat.le_refl, Int.toNat_natCast, List.set_cons_zero, List.set_cons_succ, List.getD_cons_zero, List.getD_cons_succ, Nat.sub_self, Option.map_some, Option.map_none, List.length_append, Nat.reduceLT, Try.results46]
  refine loop_intro (fun k : Nat => [(7, .int .i64 k), (0, .ints xs), (1, .int .i64 lo), (2, .int .i64 hi)]) (fun _ => []) 0 (fun k => k ≤ xs.length ∧ ∀ k', k' < k → (lo ≤ ix xs (k' : Int) ∧ ix xs (k' : Int) ≤ hi) ∧ (0 < k' → ix xs ((k' : Int) - 1) < ix xs (k' : Int))) (fun k => xs.length - k) 0 ⟨Nat.zero_le _, fun i' h => absurd h (Nat.not_lt_zero _)⟩ (Nat.zero_le _) ?_ ?_
  · simp only [go_sem, cond_true, cond_false, ↓reduceIte, Nat.reduceEqDiff, Nat.reduceBEq, List.map_cons, List.map_nil, List.append_nil, List.cons_append, List.nil_append, true_and, and_true, Nat.reduceAdd, Nat.reduceSub, Nat.zero_add, Nat.add_zero, List.drop_zero, List.drop_succ_cons, List.take_succ_cons, List.take_zero, List.all_cons, List.all_nil, Bool.and_true, Bool.true_and, Bool.and_false, Bool.false_and, Bool.or_true, Bool.true_or, Bool.or_false, Bool.false_or, Bool.not_false, Bool.not_true, Option.getD_some, List.length_cons, List.length_nil, Nat.reduceLeDiff, Option.isSome_none, Option.isSome_some, Nat.reduceMul, eq_self, exists_const, List.toList_toArray, partB_true, partB_false, RK_i64, RK_u64, RK_u8, LoopEnd, List.getElem?_cons_zero, List.getElem?_cons_succ, List.getElem?_nil, Nat.sub_zero, Nat.le_refl, Int.toNat_natCast, List.set_cons_zero, List.set_cons_succ, List.getD_cons_zero, List.getD_cons_succ, Nat.sub_self, Option.map_some, Option.map_none, List.length_append, Nat.reduceLT]
    repeat' (first | refine fork_intro (fun hb => ?_) (fun hb => ?_) | refine partB_intro (fun hb => ?_) (fun hb => ?_) | refine And.intro ?_ ?_)
    all_goals first | trivial | rfl | omega
  · rintro k ⟨hk, ht⟩
    simp only [go_sem, cond_true, cond_false, ↓reduceIte, Nat.reduceEqDiff, Nat.reduceBEq, List.map_cons, List.map_nil, List.append_nil, List.cons_append, List.nil_append, true_and, and_true, Nat.reduceAdd, Nat.reduceSub, Nat.zero_add, Nat.add_zero, List.drop_zero, List.drop_succ_cons, List.take_succ_cons, List.take_zero, List.all_cons, List.all_nil, Bool.and_true, Bool.true_and, Bool.and_false, Bool.false_and, Bool.or_true, Bool.true_or, Bool.or_false, Bool.false_or, Bool.not_false, Bool.not_true, Option.getD_some, List.length_cons, List.length_nil, Nat.reduceLeDiff, Option.isSome_none, Option.isSome_some, Nat.reduceMul, eq_self, exists_const, List.toList_toArray, partB_true, partB_false, RK_i64, RK_u64, RK_u8, LoopEnd, List.getElem?_cons_zero, List.getElem?_cons_succ, List.getElem?_nil, Nat.sub_zero, Nat.le_refl, Int.toNat_natCast, List.set_cons_zero, List.set_cons_succ, List.getD_cons_zero, List.getD_cons_succ, Nat.sub_self, Option.map_some, Option.map_none, List.length_append, Nat.reduceLT]
    refine fork_intro (fun hb => ?_) (fun hb => ?_)
    · have hz : ∀ h : ¬((lo ≤ ix xs (k : Int) ∧ ix xs (k : Int) ≤ hi) ∧ (0 < k → ix xs ((k : Int) - 1) < ix xs (k : Int))), ris lo hi xs = false := fun h => decide_eq_false (fun hz => h (hz k (by omega)))
      have hs : ∀ h : ((lo ≤ ix xs (k : Int) ∧ ix xs (k : Int) ≤ hi) ∧ (0 < k → ix xs ((k : Int) - 1) < ix xs (k : Int))), ∀ k', k' < k + 1 → (lo ≤ ix xs (k' : Int) ∧ ix xs (k' : Int) ≤ hi) ∧ (0 < k' → ix xs ((k' : Int) - 1) < ix xs (k' : Int)) := by
        intro h k' hk'
        rcases Nat.lt_succ_iff_lt_or_eq.1 hk' with h' | h'
        · exact ht k' h'
        · subst h'; exact h
      refine ⟨by omega, fork_intro (fun h1 => fork_intro (fun h2 => ⟨by omega, by omega, by omega, fork_intro (fun h3 => ?_) (fun h3 => ⟨by omega, ?_⟩)⟩) (fun h2 => ⟨by omega, ?_⟩)) (fun h1 => ?_)⟩
      · rw [hz (by omega)]
      · refine LoopEnd.intro (k + 1) ⟨by omega, hs ⟨by omega, fun _ => by omega⟩⟩ (by omega) (Nat.zero_le _) ?_
        simp only [go_sem, cond_true, cond_false, ↓reduceIte, Nat.reduceEqDiff, Nat.reduceBEq, List.map_cons, List.map_nil, List.append_nil, List.cons_append, List.nil_append, true_and, and_true, Nat.reduceAdd, Nat.reduceSub, Nat.zero_add, Nat.add_zero, List.drop_zero, List.drop_succ_cons, List.take_succ_cons, List.take_zero, List.all_cons, List.all_nil, Bool.and_true, Bool.true_and, Bool.and_false, Bool.false_and, Bool.or_true, Bool.true_or, Bool.or_false, Bool.false_or, Bool.not_false, Bool.not_true, Option.getD_some, List.length_cons, List.length_nil, Nat.reduceLeDiff, Option.isSome_none, Option.isSome_some, Nat.reduceMul, eq_self, exists_const, List.toList_toArray, partB_true, partB_false, RK_i64, RK_u64, RK_u8, LoopEnd, List.getElem?_cons_zero, List.getElem?_cons_succ, List.getElem?_nil, Nat.sub_zero, Nat.le_refl, Int.toNat_natCast, List.set_cons_zero, List.set_cons_succ, List.getD_cons_zero, List.getD_cons_succ, Nat.sub_self, Option.map_some, Option.map_none, List.length_append, Nat.reduceLT]
        repeat' (first | refine fork_intro (fun hb => ?_) (fun hb => ?_) | refine partB_intro (fun hb => ?_) (fun hb => ?_) | refine And.intro ?_ ?_)
        all_goals first | trivial | rfl | omega
      · refine LoopEnd.intro (k + 1) ⟨by omega, hs ⟨by omega, fun h => by omega⟩⟩ (by omega) (Nat.zero_le _) ?_
        simp only [go_sem, cond_true, cond_false, ↓reduceIte, Nat.reduceEqDiff, Nat.reduceBEq, List.map_cons, List.map_nil, List.append_nil, List.cons_append, List.nil_append, true_and, and_true, Nat.reduceAdd, Nat.reduceSub, Nat.zero_add, Nat.add_zero, List.drop_zero, List.drop_succ_cons, List.take_succ_cons, List.take_zero, List.all_cons, List.all_nil, Bool.and_true, Bool.true_and, Bool.and_false, Bool.false_and, Bool.or_true, Bool.true_or, Bool.or_false, Bool.false_or, Bool.not_false, Bool.not_true, Option.getD_some, List.length_cons, List.length_nil, Nat.reduceLeDiff, Option.isSome_none, Option.isSome_some, Nat.reduceMul, eq_self, exists_const, List.toList_toArray, partB_true, partB_false, RK_i64, RK_u64, RK_u8, LoopEnd, List.getElem?_cons_zero, List.getElem?_cons_succ, List.getElem?_nil, Nat.sub_zero, Nat.le_refl, Int.toNat_natCast, List.set_cons_zero, List.set_cons_succ, List.getD_cons_zero, List.getD_cons_succ, Nat.sub_self, Option.map_some, Option.map_none, List.length_append, Nat.reduceLT]
        repeat' (first | refine fork_intro (fun hb => ?_) (fun hb => ?_) | refine partB_intro (fun hb => ?_) (fun hb => ?_) | refine And.intro ?_ ?_)
        all_goals first | trivial | rfl | omega
      · rw [hz (by omega)]
    · rw [show ris lo hi xs = true from decide_eq_true (fun k' hk' => ht k' (by omega))]
def t_risS : Table := [(46, pureC g_risS)]
theorem t_risS_ok : TabOK Try.prog t_risS := .cons Try.func46 (by kernel_rfl) (.pure (by intro args hp; unfold g_risS at hp ⊢; split at hp <;> first | exact hp.elim | exact risS_ok _ _ _ hp)) (.nil _)
attribute [go_sem] g_risS_eq t_risS
def g_risI : List AV → Prop × AV
  | [.ints xs, .int .i64 n] => (xs.length ≤ 1048576000 ∧ 0 ≤ n ∧ n ≤ 1048576000, .bool (ris 0 (n - 1) xs))
  | _ => (False, .undef)
theorem g_risI_eq (xs : List Int) (n : Int) : g_risI [.ints xs, .int .i64 n] = (xs.length ≤ 1048576000 ∧ 0 ≤ n ∧ n ≤ 1048576000, .bool (ris 0 (n - 1) xs)) := (rfl)
theorem risI_ok (xs : List Int) (n : Int) (hp : xs.length ≤ 1048576000 ∧ 0 ≤ n ∧ n ≤ 1048576000) : SpecOK Try.prog 47 [.ints xs, .int .i64 n] (.bool (ris 0 (n - 1) xs)) [] := by
  refine fun_ok (C := t_between) (hint := hintX [] [] 0 [] [] [] []) (t_between_ok) mixed Try.func47 rfl (by kernel_rfl) rfl ?_
  show codeA _ _ _ _ _ _ _ _
  simp only [go_sem, cond_true, cond_false, ↓reduceIte, Nat.reduceEqDiff, Nat.reduceBEq, List.map_cons, List.map_nil, List.append_nil, List.cons_append, List.nil_append, true_and, and_true, Nat.reduceAdd, Nat.reduceSub, Nat.zero_add, Nat.add_zero, List.drop_zero, List.drop_succ_cons, List.take_succ_cons, List.take_zero, List.all_cons, List.all_nil, Bool.and_true, Bool.true_and, Bool.and_false, Bool.false_and, Bool.or_true, Bool.true_or, Bool.or_false, Bool.false_or, Bool.not_false, Bool.not_true, Option.getD_some, List.length_cons, List.length_nil, Nat.reduceLeDiff, Option.isSome_none, Option.isSome_some, Nat.reduceMul, eq_self, exists_const, List.toList_toArray, partB_true, partB_false, RK_i64, RK_u64, RK_u8, LoopEnd, List.getElem?_cons_zero, List.getElem?_cons_succ, List.getElem?_nil, Nat.sub_zero, Nat.le_refl, Int.toNat_natCast, List.set_cons_zero, List.set_cons_succ, List.getD_cons_zero, List.getD_cons_succ, Nat.sub_self, Option.map_some, Option.map_none, List.length_append, Nat.reduceLT, Try.results47]
  refine loop_intro (fun k : Nat => [(7, .ints xs), (8, .int .i64 xs.length), (9, .int .i64 k), (0, .ints xs), (1, .int .i64 n)]) (fun _ => []) 0 (fun k => k ≤ xs.length ∧ ∀ k', k' < k → (0 ≤ ix xs (k' : Int) ∧ ix xs (k' : Int) ≤ n - 1) ∧ (0 < k' → ix xs ((k' : Int) - 1) < ix xs (k' : Int))) (fun k => xs.length - k) 0 ⟨Nat.zero_le _, fun i' h => absurd h (Nat.not_lt_zero _)⟩ (Nat.zero_le _) ?_ ?_
  · simp only [go_sem, cond_true, cond_false, ↓reduceIte, Nat.reduceEqDiff, Nat.reduceBEq, List.map_cons, List.map_nil, List.append_nil, List.cons_append, List.nil_append, true_and, and_true, Nat.reduceAdd, Nat.reduceSub, Nat.zero_add, Nat.add_zero, List.drop_zero, List.drop_succ_cons, List.take_succ_cons, List.take_zero, List.all_cons, List.all_nil, Bool.and_true, Bool.true_and, Bool.and_false, Bool.false_and, Bool.or_true, Bool.true_or, Bool.or_false, Bool.false_or, Bool.not_false, Bool.not_true, Option.getD_some, List.length_cons, List.length_nil, Nat.reduceLeDiff, Option.isSome_none, Option.isSome_some, Nat.reduceMul, eq_self, exists_const, List.toList_toArray, partB_true, partB_false, RK_i64, RK_u64, RK_u8, LoopEnd, List.getElem?_cons_zero, List.getElem?_cons_succ, List.getElem?_nil, Nat.sub_zero, Nat.le_refl, Int.toNat_natCast, List.set_cons_zero, List.set_cons_succ, List.getD_cons_zero, List.getD_cons_succ, Nat.sub_self, Option.map_some, Option.map_none, List.length_append, Nat.reduceLT]
    repeat' (first | refine fork_intro (fun hb => ?_) (fun hb => ?_) | refine partB_intro (fun hb => ?_) (fun hb => ?_) | refine And.intro ?_ ?_)
    all_goals first | trivial | rfl | omega
  · rintro k ⟨hk, ht⟩
    simp only [go_sem, cond_true, cond_false, ↓reduceIte, Nat.reduceEqDiff, Nat.reduceBEq, List.map_cons, List.map_nil, List.append_nil, List.cons_append, List.nil_append, true_and, and_true, Nat.reduceAdd, Nat.reduceSub, Nat.zero_add, Nat.add_zero, List.drop_zero, List.drop_succ_cons, List.take_succ_cons, List.take_zero, List.all_cons, List.all_nil, Bool.and_true, Bool.true_and, Bool.and_false, Bool.false_and, Bool.or_true, Bool.true_or, Bool.or_false, Bool.false_or, Bool.not_false, Bool.not_true, Option.getD_some, List.length_cons, List.length_nil, Nat.reduceLeDiff, Option.isSome_none, Option.isSome_some, Nat.reduceMul, eq_self, exists_const, List.toList_toArray, partB_true, partB_false, RK_i64, RK_u64, RK_u8, LoopEnd, List.getElem?_cons_zero, List.getElem?_cons_succ, List.getElem?_nil, Nat.sub_zero, Nat.le_refl, Int.toNat_natCast, List.set_cons_zero, List.set_cons_succ, List.getD_cons_zero, List.getD_cons_succ, Nat.sub_self, Option.map_some, Option.map_none, List.length_append, Nat.reduceLT]
    refine fork_intro (fun hb => ?_) (fun hb => ?_)
    · have hz : ∀ h : ¬((0 ≤ ix xs (k : Int) ∧ ix xs (k : Int) ≤ n - 1) ∧ (0 < k → ix xs ((k : Int) - 1) < ix xs (k : Int))), ris 0 (n - 1) xs = false := fun h => decide_eq_false (fun hz => h (hz k (by omega)))
      have hs : ∀ h : ((0 ≤ ix xs (k : Int) ∧ ix xs (k : Int) ≤ n - 1) ∧ (0 < k → ix xs ((k : Int) - 1) < ix xs (k : Int))), ∀ k', k' < k + 1 → (0 ≤ ix xs (k' : Int) ∧ ix xs (k' : Int) ≤ n - 1) ∧ (0 < k' → ix xs ((k' : Int) - 1) < ix xs (k' : Int)) := by
        intro h k' hk'
        rcases Nat.lt_succ_iff_lt_or_eq.1 hk' with h' | h'
        · exact ht k' h'
        · subst h'; exact h
      refine ⟨by omega, by omega, fork_intro (fun h1 => fork_intro (fun h2 => ⟨by omega, by omega, fork_intro (fun h3 => ?_) (fun h3 => ⟨by omega, ?_⟩)⟩) (fun h2 => ⟨by omega, ?_⟩)) (fun h1 => ?_)⟩
      · rw [hz (by omega)]
      · refine LoopEnd.intro (k + 1) ⟨by omega, hs ⟨by omega, fun _ => by omega⟩⟩ (by omega) (Nat.zero_le _) ?_
        simp only [go_sem, cond_true, cond_false, ↓reduceIte, Nat.reduceEqDiff, Nat.reduceBEq, List.map_cons, List.map_nil, List.append_nil, List.cons_append, List.nil_append, true_and, and_true, Nat.reduceAdd, Nat.reduceSub, Nat.zero_add, Nat.add_zero, List.drop_zero, List.drop_succ_cons, List.take_succ_cons, List.take_zero, List.all_cons, List.all_nil, Bool.and_true, Bool.true_and, Bool.and_false, Bool.false_and, Bool.or_true, Bool.true_or, Bool.or_false, Bool.false_or, Bool.not_false, Bool.not_true, Option.getD_some, List.length_cons, List.length_nil, Nat.reduceLeDiff, Option.isSome_none, Option.isSome_some, Nat.reduceMul, eq_self, exists_const, List.toList_toArray, partB_true, partB_false, RK_i64, RK_u64, RK_u8, LoopEnd, List.getElem?_cons_zero, List.getElem?_cons_succ, List.getElem?_nil, Nat.sub_zero, Nat.le_refl, Int.toNat_natCast, List.set_cons_zero, List.set_cons_succ, List.getD_cons_zero, List.getD_cons_succ, Nat.sub_self, Option.map_some, Option.map_none, List.length_append, Nat.reduceLT]
        repeat' (first | refine fork_intro (fun hb => ?_) (fun hb => ?_) | refine partB_intro (fun hb => ?_) (fun hb => ?_) | refine And.intro ?_ ?_)
        all_goals first | trivial | rfl | omega
      · refine LoopEnd.intro (k + 1) ⟨by omega, hs ⟨by omega, fun h => by omega⟩⟩ (by omega) (Nat.zero_le _) ?_
        simp only [go_sem, cond_true, cond_false, ↓reduceIte, Nat.reduceEqDiff, Nat.reduceBEq, List.map_cons, List.map_nil, List.append_nil, List.cons_append, List.nil_append, true_and, and_true, Nat.reduceAdd, Nat.reduceSub, Nat.zero_add, Nat.add_zero, List.drop_zero, List.drop_succ_cons, List.take_succ_cons, List.take_zero, List.all_cons, List.all_nil, Bool.and_true, Bool.true_and, Bool.and_false, Bool.false_and, Bool.or_true, Bool.true_or, Bool.or_false, Bool.false_or, Bool.not_false, Bool.not_true, Option.getD_some, List.length_cons, List.length_nil, Nat.reduceLeDiff, Option.isSome_none, Option.isSome_some, Nat.reduceMul, eq_self, exists_const, List.toList_toArray, partB_true, partB_false, RK_i64, RK_u64, RK_u8, LoopEnd, List.getElem?_cons_zero, List.getElem?_cons_succ, List.getElem?_nil, Nat.sub_zero, Nat.le_refl, Int.toNat_natCast, List.set_cons_zero, List.set_cons_succ, List.getD_cons_zero, List.getD_cons_succ, Nat.sub_self, Option.map_some, Option.map_none, List.length_append, Nat.reduceLT]
        repeat' (first | refine fork_intro (fun hb => ?_) (fun hb => ?_) | refine partB_intro (fun hb => ?_) (fun hb => ?_) | refine And.intro ?_ ?_)
        all_goals first | trivial | rfl | omega
      · rw [hz (by omega)]
    · rw [show ris 0 (n - 1) xs = true from decide_eq_true (fun k' hk' => ht k' (by omega))]
def t_risI : Table := [(47, pureC g_risI)]
theorem t_risI_ok : TabOK Try.prog t_risI := .cons Try.func47 (by kernel_rfl) (.pure (by intro args hp; unfold g_risI at hp ⊢; split at hp <;> first | exact hp.elim | exact risI_ok _ _ hp)) (.nil _)
attribute [go_sem] g_risI_eq t_risI

def g_setS : List AV → Prop × AV
  | [.agg [.ints o, .rows d], .ints xs] => (o.length ≤ 1048576000 ∧ xs.length ≤ 1048576000, .bool (ris 0 (o.length - 1) xs))
  | _ => (False, .undef)
theorem g_setS_eq (o : List Int) (d : List (List Int)) (xs : List Int) : g_setS [.agg [.ints o, .rows d], .ints xs] = (o.length ≤ 1048576000 ∧ xs.length ≤ 1048576000, .bool (ris 0 (o.length - 1) xs)) := (rfl)
theorem setS_ok (o : List Int) (d : List (List Int)) (xs : List Int) (hp : o.length ≤ 1048576000 ∧ xs.length ≤ 1048576000) : SpecOK Try.prog 35 [.agg [.ints o, .rows d], .ints xs] (.bool (ris 0 (o.length - 1) xs)) [] := by
  refine fun_ok (C := t_risS) (hint := hintX [] [] 0 [] [] [] []) (t_risS_ok) mixed Try.func35 rfl (by kernel_rfl) rfl ?_
  show codeA _ _ _ _ _ _ _ _
  simp only [go_sem, cond_true, cond_false, ↓reduceIte, Nat.reduceEqDiff, Nat.reduceBEq, List.map_cons, List.map_nil, List.append_nil, List.cons_append, List.nil_append, true_and, and_true, Nat.reduceAdd, Nat.reduceSub, Nat.zero_add, Nat.add_zero, List.drop_zero, List.drop_succ_cons, List.take_succ_cons, List.take_zero, List.all_cons, List.all_nil, Bool.and_true, Bool.true_and, Bool.and_false, Bool.false_and, Bool.or_true, Bool.true_or, Bool.or_false, Bool.false_or, Bool.not_false, Bool.not_true, Option.getD_some, List.length_cons, List.length_nil, Nat.reduceLeDiff, Option.isSome_none, Option.isSome_some, Nat.reduceMul, eq_self, exists_const, List.toList_toArray, partB_true, partB_false, RK_i64, RK_u64, RK_u8, LoopEnd, List.getElem?_cons_zero, List.getElem?_cons_succ, List.getElem?_nil, Nat.sub_zero, Nat.le_refl, Int.toNat_natCast, List.set_cons_zero, List.set_cons_succ, List.getD_cons_zero, List.getD_cons_succ, Nat.sub_self, Option.map_some, Option.map_none, List.length_append, Nat.reduceLT, Try.results35]
  exact ⟨by omega, hp.2⟩
def t_setS : Table := [(35, pureC g_setS)]
theorem t_setS_ok : TabOK Try.prog t_setS := .cons Try.func35 (by kernel_rfl) (.pure (by intro args hp; unfold g_setS at hp ⊢; split at hp <;> first | exact hp.elim | exact setS_ok _ _ _ hp)) (.nil _)
attribute [go_sem] g_setS_eq t_setS
end Go.Proofs.Ytegbkcjffejeiaa
