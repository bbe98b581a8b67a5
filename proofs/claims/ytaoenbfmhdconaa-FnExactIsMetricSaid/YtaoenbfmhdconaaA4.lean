/- Metric fields and payments: both packages say the same. -/
import Derived.Test.YtaoenbfmhdconaaA3
namespace Go.Proofs.Ytaoenbfmhdconaa
open Go.Vc
set_option maxRecDepth 100000
set_option linter.unusedSimpArgs false
set_option linter.unusedVariables false

def metP (d : List (List Int)) (i j a b : Nat) : Prop := ix (ix d i) a ≤ ix (ix d i) b + ix (ix d j) b + ix (ix d j) a
instance (d : List (List Int)) (i j a b : Nat) : Decidable (metP d i j a b) := inferInstanceAs (Decidable (_ ≤ _))
def metric (d : List (List Int)) (n : Nat) : Bool := decide (∀ i, i < d.length → ∀ j, j < d.length → ∀ a, a < n → ∀ b, b < n → metP d i j a b)
theorem row_of {o : List Int} {d : List (List Int)} (h : FieldOK o d) {k : Nat} (hk : k < d.length) : (ix d (k : Int)).length = o.length ∧ ∀ a : Nat, a < o.length → 0 ≤ ix (ix d (k : Int)) (a : Int) ∧ ix (ix d (k : Int)) (a : Int) ≤ 99 := by
  have hm := ix_mem d hk
  have hl := h.len _ hm
  exact ⟨hl, fun a ha => h.d99 _ hm _ (ix_mem _ (by omega))⟩

def g_metS : List AV → Prop × AV
  | [.agg [.ints o, .rows d]] => (FieldOK o d, .bool (metric d o.length))
  | _ => (False, .undef)
theorem g_metS_eq (o : List Int) (d : List (List Int)) : g_metS [.agg [.ints o, .rows d]] = (FieldOK o d, .bool (metric d o.length)) := (rfl)
theorem metS_ok (o : List Int) (d : List (List Int)) (hp : FieldOK o d) : SpecOK Try.prog 44 [.agg [.ints o, .rows d]] (.bool (metric d o.length)) [] := by
  refine fun_ok (C := []) (hint := hintX [] [] 0 [] []) (TabOK.nil _) mixed Try.func44 rfl (by kernel_rfl) rfl ?_
  show codeA _ _ _ _ _ _ _ _
  simp only [go_sem, cond_true, cond_false, ↓reduceIte, Nat.reduceEqDiff, Nat.reduceBEq, List.map_cons, List.map_nil, List.append_nil, List.cons_append, List.nil_append, true_and, and_true, Nat.reduceAdd, Nat.reduceSub, Nat.zero_add, Nat.add_zero, List.drop_zero, List.drop_succ_cons, List.take_succ_cons, List.take_zero, List.all_cons, List.all_nil, Bool.and_true, Bool.true_and, Bool.and_false, Bool.false_and, Bool.or_true, Bool.true_or, Bool.or_false, Bool.false_or, Bool.not_false, Bool.not_true, Option.getD_some, List.length_cons, List.length_nil, Nat.reduceLeDiff, Option.isSome_none, Option.isSome_some, Nat.reduceMul, eq_self, exists_const, List.toList_toArray, partB_true, partB_false, RK_i64, RK_u64, RK_u8, LoopEnd, List.getElem?_cons_zero, List.getElem?_cons_succ, List.getElem?_nil, Nat.sub_zero, Nat.le_refl, Int.toNat_natCast, List.set_cons_zero, List.set_cons_succ, List.getD_cons_zero, List.getD_cons_succ, Nat.sub_self, Try.results44]
  have hn := hp.n7
  have hm := hp.m7
  refine loop_intro (fun i : Nat => [(3, .int .i64 i), (1, .iptr [.ints o, .rows d])]) (fun _ => []) 0 (fun i => i ≤ d.length ∧ ∀ i', i' < i → ∀ j, j < d.length → ∀ a, a < o.length → ∀ b, b < o.length → metP d i' j a b) (fun i => d.length - i) 0 ⟨Nat.zero_le _, fun i' h => absurd h (Nat.not_lt_zero _)⟩ (Nat.zero_le _) ?_ ?_
  · simp only [go_sem, cond_true, cond_false, ↓reduceIte, Nat.reduceEqDiff, Nat.reduceBEq, List.map_cons, List.map_nil, List.append_nil, List.cons_append, List.nil_append, true_and, and_true, Nat.reduceAdd, Nat.reduceSub, Nat.zero_add, Nat.add_zero, List.drop_zero, List.drop_succ_cons, List.take_succ_cons, List.take_zero, List.all_cons, List.all_nil, Bool.and_true, Bool.true_and, Bool.and_false, Bool.false_and, Bool.or_true, Bool.true_or, Bool.or_false, Bool.false_or, Bool.not_false, Bool.not_true, Option.getD_some, List.length_cons, List.length_nil, Nat.reduceLeDiff, Option.isSome_none, Option.isSome_some, Nat.reduceMul, eq_self, exists_const, List.toList_toArray, partB_true, partB_false, RK_i64, RK_u64, RK_u8, LoopEnd, List.getElem?_cons_zero, List.getElem?_cons_succ, List.getElem?_nil, Nat.sub_zero, Nat.le_refl, Int.toNat_natCast, List.set_cons_zero, List.set_cons_succ, List.getD_cons_zero, List.getD_cons_succ, Nat.sub_self]
    repeat' (first | refine fork_intro (fun hb => ?_) (fun hb => ?_) | refine partB_intro (fun hb => ?_) (fun hb => ?_) | refine And.intro ?_ ?_)
    all_goals first | trivial | rfl | omega
  · rintro i ⟨hi, ti⟩
    simp only [go_sem, cond_true, cond_false, ↓reduceIte, Nat.reduceEqDiff, Nat.reduceBEq, List.map_cons, List.map_nil, List.append_nil, List.cons_append, List.nil_append, true_and, and_true, Nat.reduceAdd, Nat.reduceSub, Nat.zero_add, Nat.add_zero, List.drop_zero, List.drop_succ_cons, List.take_succ_cons, List.take_zero, List.all_cons, List.all_nil, Bool.and_true, Bool.true_and, Bool.and_false, Bool.false_and, Bool.or_true, Bool.true_or, Bool.or_false, Bool.false_or, Bool.not_false, Bool.not_true, Option.getD_some, List.length_cons, List.length_nil, Nat.reduceLeDiff, Option.isSome_none, Option.isSome_some, Nat.reduceMul, eq_self, exists_const, List.toList_toArray, partB_true, partB_false, RK_i64, RK_u64, RK_u8, LoopEnd, List.getElem?_cons_zero, List.getElem?_cons_succ, List.getElem?_nil, Nat.sub_zero, Nat.le_refl, Int.toNat_natCast, List.set_cons_zero, List.set_cons_succ, List.getD_cons_zero, List.getD_cons_succ, Nat.sub_self]
    refine fork_intro (fun bi => ?_) (fun bi => ?_)
    · obtain ⟨li, vi⟩ := row_of hp (k := i) (by omega)
      refine loop_intro (fun j : Nat => [(4, .int .i64 j), (3, .int .i64 i), (1, .iptr [.ints o, .rows d])]) (fun _ => []) 0 (fun j => j ≤ d.length ∧ ∀ j', j' < j → ∀ a, a < o.length → ∀ b, b < o.length → metP d i j' a b) (fun j => d.length - j) 0 ⟨Nat.zero_le _, fun i' h => absurd h (Nat.not_lt_zero _)⟩ (Nat.zero_le _) ?_ ?_
      · simp only [go_sem, cond_true, cond_false, ↓reduceIte, Nat.reduceEqDiff, Nat.reduceBEq, List.map_cons, List.map_nil, List.append_nil, List.cons_append, List.nil_append, true_and, and_true, Nat.reduceAdd, Nat.reduceSub, Nat.zero_add, Nat.add_zero, List.drop_zero, List.drop_succ_cons, List.take_succ_cons, List.take_zero, List.all_cons, List.all_nil, Bool.and_true, Bool.true_and, Bool.and_false, Bool.false_and, Bool.or_true, Bool.true_or, Bool.or_false, Bool.false_or, Bool.not_false, Bool.not_true, Option.getD_some, List.length_cons, List.length_nil, Nat.reduceLeDiff, Option.isSome_none, Option.isSome_some, Nat.reduceMul, eq_self, exists_const, List.toList_toArray, partB_true, partB_false, RK_i64, RK_u64, RK_u8, LoopEnd, List.getElem?_cons_zero, List.getElem?_cons_succ, List.getElem?_nil, Nat.sub_zero, Nat.le_refl, Int.toNat_natCast, List.set_cons_zero, List.set_cons_succ, List.getD_cons_zero, List.getD_cons_succ, Nat.sub_self]
        repeat' (first | refine fork_intro (fun hb => ?_) (fun hb => ?_) | refine partB_intro (fun hb => ?_) (fun hb => ?_) | refine And.intro ?_ ?_)
        all_goals first | trivial | rfl | omega
      · rintro j ⟨hj, tj⟩
        simp only [go_sem, cond_true, cond_false, ↓reduceIte, Nat.reduceEqDiff, Nat.reduceBEq, List.map_cons, List.map_nil, List.append_nil, List.cons_append, List.nil_append, true_and, and_true, Nat.reduceAdd, Nat.reduceSub, Nat.zero_add, Nat.add_zero, List.drop_zero, List.drop_succ_cons, List.take_succ_cons, List.take_zero, List.all_cons, List.all_nil, Bool.and_true, Bool.true_and, Bool.and_false, Bool.false_and, Bool.or_true, Bool.true_or, Bool.or_false, Bool.false_or, Bool.not_false, Bool.not_true, Option.getD_some, List.length_cons, List.length_nil, Nat.reduceLeDiff, Option.isSome_none, Option.isSome_some, Nat.reduceMul, eq_self, exists_const, List.toList_toArray, partB_true, partB_false, RK_i64, RK_u64, RK_u8, LoopEnd, List.getElem?_cons_zero, List.getElem?_cons_succ, List.getElem?_nil, Nat.sub_zero, Nat.le_refl, Int.toNat_natCast, List.set_cons_zero, List.set_cons_succ, List.getD_cons_zero, List.getD_cons_succ, Nat.sub_self]
        refine fork_intro (fun bj => ?_) (fun bj => ?_)
        · obtain ⟨lj, vj⟩ := row_of hp (k := j) (by omega)
          refine loop_intro (fun a : Nat => [(5, .int .i64 a), (4, .int .i64 j), (3, .int .i64 i), (1, .iptr [.ints o, .rows d])]) (fun _ => []) 0 (fun a => a ≤ o.length ∧ ∀ a', a' < a → ∀ b, b < o.length → metP d i j a' b) (fun a => o.length - a) 0 ⟨Nat.zero_le _, fun i' h => absurd h (Nat.not_lt_zero _)⟩ (Nat.zero_le _) ?_ ?_
          · simp only [go_sem, cond_true, cond_false, ↓reduceIte, Nat.reduceEqDiff, Nat.reduceBEq, List.map_cons, List.map_nil, List.append_nil, List.cons_append, List.nil_append, true_and, and_true, Nat.reduceAdd, Nat.reduceSub, Nat.zero_add, Nat.add_zero, List.drop_zero, List.drop_succ_cons, List.take_succ_cons, List.take_zero, List.all_cons, List.all_nil, Bool.and_true, Bool.true_and, Bool.and_false, Bool.false_and, Bool.or_true, Bool.true_or, Bool.or_false, Bool.false_or, Bool.not_false, Bool.not_true, Option.getD_some, List.length_cons, List.length_nil, Nat.reduceLeDiff, Option.isSome_none, Option.isSome_some, Nat.reduceMul, eq_self, exists_const, List.toList_toArray, partB_true, partB_false, RK_i64, RK_u64, RK_u8, LoopEnd, List.getElem?_cons_zero, List.getElem?_cons_succ, List.getElem?_nil, Nat.sub_zero, Nat.le_refl, Int.toNat_natCast, List.set_cons_zero, List.set_cons_succ, List.getD_cons_zero, List.getD_cons_succ, Nat.sub_self]
            repeat' (first | refine fork_intro (fun hb => ?_) (fun hb => ?_) | refine partB_intro (fun hb => ?_) (fun hb => ?_) | refine And.intro ?_ ?_)
            all_goals first | trivial | rfl | omega
          · rintro a ⟨ha, ta⟩
            simp only [go_sem, cond_true, cond_false, ↓reduceIte, Nat.reduceEqDiff, Nat.reduceBEq, List.map_cons, List.map_nil, List.append_nil, List.cons_append, List.nil_append, true_and, and_true, Nat.reduceAdd, Nat.reduceSub, Nat.zero_add, Nat.add_zero, List.drop_zero, List.drop_succ_cons, List.take_succ_cons, List.take_zero, List.all_cons, List.all_nil, Bool.and_true, Bool.true_and, Bool.and_false, Bool.false_and, Bool.or_true, Bool.true_or, Bool.or_false, Bool.false_or, Bool.not_false, Bool.not_true, Option.getD_some, List.length_cons, List.length_nil, Nat.reduceLeDiff, Option.isSome_none, Option.isSome_some, Nat.reduceMul, eq_self, exists_const, List.toList_toArray, partB_true, partB_false, RK_i64, RK_u64, RK_u8, LoopEnd, List.getElem?_cons_zero, List.getElem?_cons_succ, List.getElem?_nil, Nat.sub_zero, Nat.le_refl, Int.toNat_natCast, List.set_cons_zero, List.set_cons_succ, List.getD_cons_zero, List.getD_cons_succ, Nat.sub_self]
            refine fork_intro (fun ba => ?_) (fun ba => ?_)
            · skip
              refine loop_intro (fun b : Nat => [(6, .int .i64 b), (5, .int .i64 a), (4, .int .i64 j), (3, .int .i64 i), (1, .iptr [.ints o, .rows d])]) (fun _ => []) 0 (fun b => b ≤ o.length ∧ ∀ b', b' < b → metP d i j a b') (fun b => o.length - b) 0 ⟨Nat.zero_le _, fun i' h => absurd h (Nat.not_lt_zero _)⟩ (Nat.zero_le _) ?_ ?_
              · simp only [go_sem, cond_true, cond_false, ↓reduceIte, Nat.reduceEqDiff, Nat.reduceBEq, List.map_cons, List.map_nil, List.append_nil, List.cons_append, List.nil_append, true_and, and_true, Nat.reduceAdd, Nat.reduceSub, Nat.zero_add, Nat.add_zero, List.drop_zero, List.drop_succ_cons, List.take_succ_cons, List.take_zero, List.all_cons, List.all_nil, Bool.and_true, Bool.true_and, Bool.and_false, Bool.false_and, Bool.or_true, Bool.true_or, Bool.or_false, Bool.false_or, Bool.not_false, Bool.not_true, Option.getD_some, List.length_cons, List.length_nil, Nat.reduceLeDiff, Option.isSome_none, Option.isSome_some, Nat.reduceMul, eq_self, exists_const, List.toList_toArray, partB_true, partB_false, RK_i64, RK_u64, RK_u8, LoopEnd, List.getElem?_cons_zero, List.getElem?_cons_succ, List.getElem?_nil, Nat.sub_zero, Nat.le_refl, Int.toNat_natCast, List.set_cons_zero, List.set_cons_succ, List.getD_cons_zero, List.getD_cons_succ, Nat.sub_self]
                repeat' (first | refine fork_intro (fun hb => ?_) (fun hb => ?_) | refine partB_intro (fun hb => ?_) (fun hb => ?_) | refine And.intro ?_ ?_)
                all_goals first | trivial | rfl | omega
              · rintro b ⟨hb, tb⟩
                simp only [go_sem, cond_true, cond_false, ↓reduceIte, Nat.reduceEqDiff, Nat.reduceBEq, List.map_cons, List.map_nil, List.append_nil, List.cons_append, List.nil_append, true_and, and_true, Nat.reduceAdd, Nat.reduceSub, Nat.zero_add, Nat.add_zero, List.drop_zero, List.drop_succ_cons, List.take_succ_cons, List.take_zero, List.all_cons, List.all_nil, Bool.and_true, Bool.true_and, Bool.and_false, Bool.false_and, Bool.or_true, Bool.true_or, Bool.or_false, Bool.false_or, Bool.not_false, Bool.not_true, Option.getD_some, List.length_cons, List.length_nil, Nat.reduceLeDiff, Option.isSome_none, Option.isSome_some, Nat.reduceMul, eq_self, exists_const, List.toList_toArray, partB_true, partB_false, RK_i64, RK_u64, RK_u8, LoopEnd, List.getElem?_cons_zero, List.getElem?_cons_succ, List.getElem?_nil, Nat.sub_zero, Nat.le_refl, Int.toNat_natCast, List.set_cons_zero, List.set_cons_succ, List.getD_cons_zero, List.getD_cons_succ, Nat.sub_self]
                refine fork_intro (fun bb => ?_) (fun bb => ?_)
                · obtain ⟨x1, x2⟩ := vi a (by omega)
                  obtain ⟨x3, x4⟩ := vi b (by omega)
                  obtain ⟨x5, x6⟩ := vj a (by omega)
                  obtain ⟨x7, x8⟩ := vj b (by omega)
                  refine ⟨by omega, by omega, by omega, by omega, by omega, by omega, by omega, by omega, by omega, by omega, fork_intro (fun hc => ?_) (fun hc => ?_)⟩
                  · have hz : metric d o.length = false := decide_eq_false (fun hz => by have := hz i (by omega) j (by omega) a (by omega) b (by omega); unfold metP at this; omega)
                    rw [hz]
                  · refine ⟨by omega, ?_⟩
                    refine LoopEnd.intro (b + 1) ⟨by omega, fun b' hb' => ?_⟩ (by omega) (Nat.zero_le _) ?_
                    · rcases Nat.lt_succ_iff_lt_or_eq.1 hb' with h | h
                      · exact tb b' h
                      · subst h; unfold metP; omega
                    · simp only [go_sem, cond_true, cond_false, ↓reduceIte, Nat.reduceEqDiff, Nat.reduceBEq, List.map_cons, List.map_nil, List.append_nil, List.cons_append, List.nil_append, true_and, and_true, Nat.reduceAdd, Nat.reduceSub, Nat.zero_add, Nat.add_zero, List.drop_zero, List.drop_succ_cons, List.take_succ_cons, List.take_zero, List.all_cons, List.all_nil, Bool.and_true, Bool.true_and, Bool.and_false, Bool.false_and, Bool.or_true, Bool.true_or, Bool.or_false, Bool.false_or, Bool.not_false, Bool.not_true, Option.getD_some, List.length_cons, List.length_nil, Nat.reduceLeDiff, Option.isSome_none, Option.isSome_some, Nat.reduceMul, eq_self, exists_const, List.toList_toArray, partB_true, partB_false, RK_i64, RK_u64, RK_u8, LoopEnd, List.getElem?_cons_zero, List.getElem?_cons_succ, List.getElem?_nil, Nat.sub_zero, Nat.le_refl, Int.toNat_natCast, List.set_cons_zero, List.set_cons_succ, List.getD_cons_zero, List.getD_cons_succ, Nat.sub_self]
                      repeat' (first | refine fork_intro (fun hb => ?_) (fun hb => ?_) | refine partB_intro (fun hb => ?_) (fun hb => ?_) | refine And.intro ?_ ?_)
                      all_goals first | trivial | rfl | omega
                · refine ⟨by omega, ?_⟩
                  refine LoopEnd.intro (a + 1) ⟨by omega, fun a' ha' => ?_⟩ (by omega) (Nat.zero_le _) ?_
                  · rcases Nat.lt_succ_iff_lt_or_eq.1 ha' with h | h
                    · exact ta a' h
                    · subst h; have hq : b = o.length := by omega
                      exact hq ▸ tb
                  · simp only [go_sem, cond_true, cond_false, ↓reduceIte, Nat.reduceEqDiff, Nat.reduceBEq, List.map_cons, List.map_nil, List.append_nil, List.cons_append, List.nil_append, true_and, and_true, Nat.reduceAdd, Nat.reduceSub, Nat.zero_add, Nat.add_zero, List.drop_zero, List.drop_succ_cons, List.take_succ_cons, List.take_zero, List.all_cons, List.all_nil, Bool.and_true, Bool.true_and, Bool.and_false, Bool.false_and, Bool.or_true, Bool.true_or, Bool.or_false, Bool.false_or, Bool.not_false, Bool.not_true, Option.getD_some, List.length_cons, List.length_nil, Nat.reduceLeDiff, Option.isSome_none, Option.isSome_some, Nat.reduceMul, eq_self, exists_const, List.toList_toArray, partB_true, partB_false, RK_i64, RK_u64, RK_u8, LoopEnd, List.getElem?_cons_zero, List.getElem?_cons_succ, List.getElem?_nil, Nat.sub_zero, Nat.le_refl, Int.toNat_natCast, List.set_cons_zero, List.set_cons_succ, List.getD_cons_zero, List.getD_cons_succ, Nat.sub_self]
                    repeat' (first | refine fork_intro (fun hb => ?_) (fun hb => ?_) | refine partB_intro (fun hb => ?_) (fun hb => ?_) | refine And.intro ?_ ?_)
                    all_goals first | trivial | rfl | omega
            · refine ⟨by omega, ?_⟩
              refine LoopEnd.intro (j + 1) ⟨by omega, fun j' hj' => ?_⟩ (by omega) (Nat.zero_le _) ?_
              · rcases Nat.lt_succ_iff_lt_or_eq.1 hj' with h | h
                · exact tj j' h
                · subst h; have hq : a = o.length := by omega
                  exact hq ▸ ta
              · simp only [go_sem, cond_true, cond_false, ↓reduceIte, Nat.reduceEqDiff, Nat.reduceBEq, List.map_cons, List.map_nil, List.append_nil, List.cons_append, List.nil_append, true_and, and_true, Nat.reduceAdd, Nat.reduceSub, Nat.zero_add, Nat.add_zero, List.drop_zero, List.drop_succ_cons, List.take_succ_cons, List.take_zero, List.all_cons, List.all_nil, Bool.and_true, Bool.true_and, Bool.and_false, Bool.false_and, Bool.or_true, Bool.true_or, Bool.or_false, Bool.false_or, Bool.not_false, Bool.not_true, Option.getD_some, List.length_cons, List.length_nil, Nat.reduceLeDiff, Option.isSome_none, Option.isSome_some, Nat.reduceMul, eq_self, exists_const, List.toList_toArray, partB_true, partB_false, RK_i64, RK_u64, RK_u8, LoopEnd, List.getElem?_cons_zero, List.getElem?_cons_succ, List.getElem?_nil, Nat.sub_zero, Nat.le_refl, Int.toNat_natCast, List.set_cons_zero, List.set_cons_succ, List.getD_cons_zero, List.getD_cons_succ, Nat.sub_self]
                repeat' (first | refine fork_intro (fun hb => ?_) (fun hb => ?_) | refine partB_intro (fun hb => ?_) (fun hb => ?_) | refine And.intro ?_ ?_)
                all_goals first | trivial | rfl | omega
        · refine ⟨by omega, ?_⟩
          refine LoopEnd.intro (i + 1) ⟨by omega, fun i' hi' => ?_⟩ (by omega) (Nat.zero_le _) ?_
          · rcases Nat.lt_succ_iff_lt_or_eq.1 hi' with h | h
            · exact ti i' h
            · subst h; have hq : j = d.length := by omega
              exact hq ▸ tj
          · simp only [go_sem, cond_true, cond_false, ↓reduceIte, Nat.reduceEqDiff, Nat.reduceBEq, List.map_cons, List.map_nil, List.append_nil, List.cons_append, List.nil_append, true_and, and_true, Nat.reduceAdd, Nat.reduceSub, Nat.zero_add, Nat.add_zero, List.drop_zero, List.drop_succ_cons, List.take_succ_cons, List.take_zero, List.all_cons, List.all_nil, Bool.and_true, Bool.true_and, Bool.and_false, Bool.false_and, Bool.or_true, Bool.true_or, Bool.or_false, Bool.false_or, Bool.not_false, Bool.not_true, Option.getD_some, List.length_cons, List.length_nil, Nat.reduceLeDiff, Option.isSome_none, Option.isSome_some, Nat.reduceMul, eq_self, exists_const, List.toList_toArray, partB_true, partB_false, RK_i64, RK_u64, RK_u8, LoopEnd, List.getElem?_cons_zero, List.getElem?_cons_succ, List.getElem?_nil, Nat.sub_zero, Nat.le_refl, Int.toNat_natCast, List.set_cons_zero, List.set_cons_succ, List.getD_cons_zero, List.getD_cons_succ, Nat.sub_self]
            repeat' (first | refine fork_intro (fun hb => ?_) (fun hb => ?_) | refine partB_intro (fun hb => ?_) (fun hb => ?_) | refine And.intro ?_ ?_)
            all_goals first | trivial | rfl | omega
    · have hz : metric d o.length = true := decide_eq_true (by rw [show d.length = i by omega]; exact (show d.length = i by omega) ▸ ti)
      rw [hz]
def t_metS : Table := [(44, pureC g_metS)]
theorem t_metS_ok : TabOK Try.prog t_metS := .cons Try.func44 (by kernel_rfl) (.pure (by intro args hp; unfold g_metS at hp ⊢; split at hp <;> first | exact hp.elim | exact metS_ok _ _ hp)) (.nil _)
attribute [go_sem] g_metS_eq t_metS
def g_metI : List AV → Prop × AV
  | [.agg [.ints o, .rows d]] => (o.length ≤ 1048576000 ∧ d.length ≤ 1048576000 ∧ ∀ x ∈ d, x.length ≤ 1048576000, .tup [.bool (good o d && metric d o.length), .bool (good o d)])
  | _ => (False, .undef)
theorem g_metI_eq (o : List Int) (d : List (List Int)) : g_metI [.agg [.ints o, .rows d]] = (o.length ≤ 1048576000 ∧ d.length ≤ 1048576000 ∧ ∀ x ∈ d, x.length ≤ 1048576000, .tup [.bool (good o d && metric d o.length), .bool (good o d)]) := (rfl)
theorem metI_ok (o : List Int) (d : List (List Int)) (hp : o.length ≤ 1048576000 ∧ d.length ≤ 1048576000 ∧ ∀ x ∈ d, x.length ≤ 1048576000) : SpecOK Try.prog 24 [.agg [.ints o, .rows d]] (.tup [.bool (good o d && metric d o.length), .bool (good o d)]) [] := by
  refine fun_ok (C := t_isF) (hint := hintX [] [] 0 [] []) (t_isF_ok) mixed Try.func24 rfl (by kernel_rfl) rfl ?_
  show codeA _ _ _ _ _ _ _ _
  simp only [go_sem, cond_true, cond_false, ↓reduceIte, Nat.reduceEqDiff, Nat.reduceBEq, List.map_cons, List.map_nil, List.append_nil, List.cons_append, List.nil_append, true_and, and_true, Nat.reduceAdd, Nat.reduceSub, Nat.zero_add, Nat.add_zero, List.drop_zero, List.drop_succ_cons, List.take_succ_cons, List.take_zero, List.all_cons, List.all_nil, Bool.and_true, Bool.true_and, Bool.and_false, Bool.false_and, Bool.or_true, Bool.true_or, Bool.or_false, Bool.false_or, Bool.not_false, Bool.not_true, Option.getD_some, List.length_cons, List.length_nil, Nat.reduceLeDiff, Option.isSome_none, Option.isSome_some, Nat.reduceMul, eq_self, exists_const, List.toList_toArray, partB_true, partB_false, RK_i64, RK_u64, RK_u8, LoopEnd, List.getElem?_cons_zero, List.getElem?_cons_succ, List.getElem?_nil, Nat.sub_zero, Nat.le_refl, Int.toNat_natCast, List.set_cons_zero, List.set_cons_succ, List.getD_cons_zero, List.getD_cons_succ, Nat.sub_self, Try.results24]
  refine ⟨hp, partB_intro (fun hg => ?_) (fun hg => ?_)⟩
  rotate_left
  · rw [hg]; exact ⟨rfl, rfl⟩
  rw [hg]
  have hp := good_iff.1 hg
  have hn := hp.n7
  have hm := hp.m7
  refine loop_intro (fun i : Nat => [(14, .rows d), (15, .int .i64 d.length), (16, .int .i64 i), (1, .iptr [.ints o, .rows d])]) (fun _ => []) 0 (fun i => i ≤ d.length ∧ ∀ i', i' < i → ∀ j, j < d.length → ∀ a, a < o.length → ∀ b, b < o.length → metP d i' j a b) (fun i => d.length - i) 0 ⟨Nat.zero_le _, fun i' h => absurd h (Nat.not_lt_zero _)⟩ (Nat.zero_le _) ?_ ?_
  · simp only [go_sem, cond_true, cond_false, ↓reduceIte, Nat.reduceEqDiff, Nat.reduceBEq, List.map_cons, List.map_nil, List.append_nil, List.cons_append, List.nil_append, true_and, and_true, Nat.reduceAdd, Nat.reduceSub, Nat.zero_add, Nat.add_zero, List.drop_zero, List.drop_succ_cons, List.take_succ_cons, List.take_zero, List.all_cons, List.all_nil, Bool.and_true, Bool.true_and, Bool.and_false, Bool.false_and, Bool.or_true, Bool.true_or, Bool.or_false, Bool.false_or, Bool.not_false, Bool.not_true, Option.getD_some, List.length_cons, List.length_nil, Nat.reduceLeDiff, Option.isSome_none, Option.isSome_some, Nat.reduceMul, eq_self, exists_const, List.toList_toArray, partB_true, partB_false, RK_i64, RK_u64, RK_u8, LoopEnd, List.getElem?_cons_zero, List.getElem?_cons_succ, List.getElem?_nil, Nat.sub_zero, Nat.le_refl, Int.toNat_natCast, List.set_cons_zero, List.set_cons_succ, List.getD_cons_zero, List.getD_cons_succ, Nat.sub_self]
    repeat' (first | refine fork_intro (fun hb => ?_) (fun hb => ?_) | refine partB_intro (fun hb => ?_) (fun hb => ?_) | refine And.intro ?_ ?_)
    all_goals first | trivial | rfl | omega
  · rintro i ⟨hi, ti⟩
    simp only [go_sem, cond_true, cond_false, ↓reduceIte, Nat.reduceEqDiff, Nat.reduceBEq, List.map_cons, List.map_nil, List.append_nil, List.cons_append, List.nil_append, true_and, and_true, Nat.reduceAdd, Nat.reduceSub, Nat.zero_add, Nat.add_zero, List.drop_zero, List.drop_succ_cons, List.take_succ_cons, List.take_zero, List.all_cons, List.all_nil, Bool.and_true, Bool.true_and, Bool.and_false, Bool.false_and, Bool.or_true, Bool.true_or, Bool.or_false, Bool.false_or, Bool.not_false, Bool.not_true, Option.getD_some, List.length_cons, List.length_nil, Nat.reduceLeDiff, Option.isSome_none, Option.isSome_some, Nat.reduceMul, eq_self, exists_const, List.toList_toArray, partB_true, partB_false, RK_i64, RK_u64, RK_u8, LoopEnd, List.getElem?_cons_zero, List.getElem?_cons_succ, List.getElem?_nil, Nat.sub_zero, Nat.le_refl, Int.toNat_natCast, List.set_cons_zero, List.set_cons_succ, List.getD_cons_zero, List.getD_cons_succ, Nat.sub_self]
    refine fork_intro (fun bi => ?_) (fun bi => ?_)
    · obtain ⟨li, vi⟩ := row_of hp (k := i) (by omega)
      refine ⟨by omega, ?_⟩
      refine loop_intro (fun j : Nat => [(5, .ints (ix d i)), (21, .rows d), (22, .int .i64 d.length), (23, .int .i64 j), (14, .rows d), (15, .int .i64 d.length), (16, .int .i64 i), (1, .iptr [.ints o, .rows d])]) (fun _ => []) 0 (fun j => j ≤ d.length ∧ ∀ j', j' < j → ∀ a, a < o.length → ∀ b, b < o.length → metP d i j' a b) (fun j => d.length - j) 0 ⟨Nat.zero_le _, fun i' h => absurd h (Nat.not_lt_zero _)⟩ (Nat.zero_le _) ?_ ?_
      · simp only [go_sem, cond_true, cond_false, ↓reduceIte, Nat.reduceEqDiff, Nat.reduceBEq, List.map_cons, List.map_nil, List.append_nil, List.cons_append, List.nil_append, true_and, and_true, Nat.reduceAdd, Nat.reduceSub, Nat.zero_add, Nat.add_zero, List.drop_zero, List.drop_succ_cons, List.take_succ_cons, List.take_zero, List.all_cons, List.all_nil, Bool.and_true, Bool.true_and, Bool.and_false, Bool.false_and, Bool.or_true, Bool.true_or, Bool.or_false, Bool.false_or, Bool.not_false, Bool.not_true, Option.getD_some, List.length_cons, List.length_nil, Nat.reduceLeDiff, Option.isSome_none, Option.isSome_some, Nat.reduceMul, eq_self, exists_const, List.toList_toArray, partB_true, partB_false, RK_i64, RK_u64, RK_u8, LoopEnd, List.getElem?_cons_zero, List.getElem?_cons_succ, List.getElem?_nil, Nat.sub_zero, Nat.le_refl, Int.toNat_natCast, List.set_cons_zero, List.set_cons_succ, List.getD_cons_zero, List.getD_cons_succ, Nat.sub_self]
        repeat' (first | refine fork_intro (fun hb => ?_) (fun hb => ?_) | refine partB_intro (fun hb => ?_) (fun hb => ?_) | refine And.intro ?_ ?_)
        all_goals first | trivial | rfl | omega
      · rintro j ⟨hj, tj⟩
        simp only [go_sem, cond_true, cond_false, ↓reduceIte, Nat.reduceEqDiff, Nat.reduceBEq, List.map_cons, List.map_nil, List.append_nil, List.cons_append, List.nil_append, true_and, and_true, Nat.reduceAdd, Nat.reduceSub, Nat.zero_add, Nat.add_zero, List.drop_zero, List.drop_succ_cons, List.take_succ_cons, List.take_zero, List.all_cons, List.all_nil, Bool.and_true, Bool.true_and, Bool.and_false, Bool.false_and, Bool.or_true, Bool.true_or, Bool.or_false, Bool.false_or, Bool.not_false, Bool.not_true, Option.getD_some, List.length_cons, List.length_nil, Nat.reduceLeDiff, Option.isSome_none, Option.isSome_some, Nat.reduceMul, eq_self, exists_const, List.toList_toArray, partB_true, partB_false, RK_i64, RK_u64, RK_u8, LoopEnd, List.getElem?_cons_zero, List.getElem?_cons_succ, List.getElem?_nil, Nat.sub_zero, Nat.le_refl, Int.toNat_natCast, List.set_cons_zero, List.set_cons_succ, List.getD_cons_zero, List.getD_cons_succ, Nat.sub_self]
        refine fork_intro (fun bj => ?_) (fun bj => ?_)
        · obtain ⟨lj, vj⟩ := row_of hp (k := j) (by omega)
          refine ⟨by omega, ?_⟩
          refine loop_intro (fun a : Nat => [(7, .ints (ix d j)), (28, .ints o), (29, .int .i64 o.length), (30, .int .i64 a), (5, .ints (ix d i)), (21, .rows d), (22, .int .i64 d.length), (23, .int .i64 j), (14, .rows d), (15, .int .i64 d.length), (16, .int .i64 i), (1, .iptr [.ints o, .rows d])]) (fun _ => []) 0 (fun a => a ≤ o.length ∧ ∀ a', a' < a → ∀ b, b < o.length → metP d i j a' b) (fun a => o.length - a) 0 ⟨Nat.zero_le _, fun i' h => absurd h (Nat.not_lt_zero _)⟩ (Nat.zero_le _) ?_ ?_
          · simp only [go_sem, cond_true, cond_false, ↓reduceIte, Nat.reduceEqDiff, Nat.reduceBEq, List.map_cons, List.map_nil, List.append_nil, List.cons_append, List.nil_append, true_and, and_true, Nat.reduceAdd, Nat.reduceSub, Nat.zero_add, Nat.add_zero, List.drop_zero, List.drop_succ_cons, List.take_succ_cons, List.take_zero, List.all_cons, List.all_nil, Bool.and_true, Bool.true_and, Bool.and_false, Bool.false_and, Bool.or_true, Bool.true_or, Bool.or_false, Bool.false_or, Bool.not_false, Bool.not_true, Option.getD_some, List.length_cons, List.length_nil, Nat.reduceLeDiff, Option.isSome_none, Option.isSome_some, Nat.reduceMul, eq_self, exists_const, List.toList_toArray, partB_true, partB_false, RK_i64, RK_u64, RK_u8, LoopEnd, List.getElem?_cons_zero, List.getElem?_cons_succ, List.getElem?_nil, Nat.sub_zero, Nat.le_refl, Int.toNat_natCast, List.set_cons_zero, List.set_cons_succ, List.getD_cons_zero, List.getD_cons_succ, Nat.sub_self]
            repeat' (first | refine fork_intro (fun hb => ?_) (fun hb => ?_) | refine partB_intro (fun hb => ?_) (fun hb => ?_) | refine And.intro ?_ ?_)
            all_goals first | trivial | rfl | omega
          · rintro a ⟨ha, ta⟩
            simp only [go_sem, cond_true, cond_false, ↓reduceIte, Nat.reduceEqDiff, Nat.reduceBEq, List.map_cons, List.map_nil, List.append_nil, List.cons_append, List.nil_append, true_and, and_true, Nat.reduceAdd, Nat.reduceSub, Nat.zero_add, Nat.add_zero, List.drop_zero, List.drop_succ_cons, List.take_succ_cons, List.take_zero, List.all_cons, List.all_nil, Bool.and_true, Bool.true_and, Bool.and_false, Bool.false_and, Bool.or_true, Bool.true_or, Bool.or_false, Bool.false_or, Bool.not_false, Bool.not_true, Option.getD_some, List.length_cons, List.length_nil, Nat.reduceLeDiff, Option.isSome_none, Option.isSome_some, Nat.reduceMul, eq_self, exists_const, List.toList_toArray, partB_true, partB_false, RK_i64, RK_u64, RK_u8, LoopEnd, List.getElem?_cons_zero, List.getElem?_cons_succ, List.getElem?_nil, Nat.sub_zero, Nat.le_refl, Int.toNat_natCast, List.set_cons_zero, List.set_cons_succ, List.getD_cons_zero, List.getD_cons_succ, Nat.sub_self]
            refine fork_intro (fun ba => ?_) (fun ba => ?_)
            · skip
              refine loop_intro (fun b : Nat => [(8, .int .i64 a), (34, .ints o), (35, .int .i64 o.length), (36, .int .i64 b), (7, .ints (ix d j)), (28, .ints o), (29, .int .i64 o.length), (30, .int .i64 a), (5, .ints (ix d i)), (21, .rows d), (22, .int .i64 d.length), (23, .int .i64 j), (14, .rows d), (15, .int .i64 d.length), (16, .int .i64 i), (1, .iptr [.ints o, .rows d])]) (fun _ => []) 0 (fun b => b ≤ o.length ∧ ∀ b', b' < b → metP d i j a b') (fun b => o.length - b) 0 ⟨Nat.zero_le _, fun i' h => absurd h (Nat.not_lt_zero _)⟩ (Nat.zero_le _) ?_ ?_
              · simp only [go_sem, cond_true, cond_false, ↓reduceIte, Nat.reduceEqDiff, Nat.reduceBEq, List.map_cons, List.map_nil, List.append_nil, List.cons_append, List.nil_append, true_and, and_true, Nat.reduceAdd, Nat.reduceSub, Nat.zero_add, Nat.add_zero, List.drop_zero, List.drop_succ_cons, List.take_succ_cons, List.take_zero, List.all_cons, List.all_nil, Bool.and_true, Bool.true_and, Bool.and_false, Bool.false_and, Bool.or_true, Bool.true_or, Bool.or_false, Bool.false_or, Bool.not_false, Bool.not_true, Option.getD_some, List.length_cons, List.length_nil, Nat.reduceLeDiff, Option.isSome_none, Option.isSome_some, Nat.reduceMul, eq_self, exists_const, List.toList_toArray, partB_true, partB_false, RK_i64, RK_u64, RK_u8, LoopEnd, List.getElem?_cons_zero, List.getElem?_cons_succ, List.getElem?_nil, Nat.sub_zero, Nat.le_refl, Int.toNat_natCast, List.set_cons_zero, List.set_cons_succ, List.getD_cons_zero, List.getD_cons_succ, Nat.sub_self]
                repeat' (first | refine fork_intro (fun hb => ?_) (fun hb => ?_) | refine partB_intro (fun hb => ?_) (fun hb => ?_) | refine And.intro ?_ ?_)
                all_goals first | trivial | rfl | omega
              · rintro b ⟨hb, tb⟩
                simp only [go_sem, cond_true, cond_false, ↓reduceIte, Nat.reduceEqDiff, Nat.reduceBEq, List.map_cons, List.map_nil, List.append_nil, List.cons_append, List.nil_append, true_and, and_true, Nat.reduceAdd, Nat.reduceSub, Nat.zero_add, Nat.add_zero, List.drop_zero, List.drop_succ_cons, List.take_succ_cons, List.take_zero, List.all_cons, List.all_nil, Bool.and_true, Bool.true_and, Bool.and_false, Bool.false_and, Bool.or_true, Bool.true_or, Bool.or_false, Bool.false_or, Bool.not_false, Bool.not_true, Option.getD_some, List.length_cons, List.length_nil, Nat.reduceLeDiff, Option.isSome_none, Option.isSome_some, Nat.reduceMul, eq_self, exists_const, List.toList_toArray, partB_true, partB_false, RK_i64, RK_u64, RK_u8, LoopEnd, List.getElem?_cons_zero, List.getElem?_cons_succ, List.getElem?_nil, Nat.sub_zero, Nat.le_refl, Int.toNat_natCast, List.set_cons_zero, List.set_cons_succ, List.getD_cons_zero, List.getD_cons_succ, Nat.sub_self]
                refine fork_intro (fun bb => ?_) (fun bb => ?_)
                · obtain ⟨x1, x2⟩ := vi a (by omega)
                  obtain ⟨x3, x4⟩ := vi b (by omega)
                  obtain ⟨x5, x6⟩ := vj a (by omega)
                  obtain ⟨x7, x8⟩ := vj b (by omega)
                  refine ⟨by omega, by omega, by omega, by omega, by omega, by omega, fork_intro (fun hc => ?_) (fun hc => ?_)⟩
                  · have hz : metric d o.length = false := decide_eq_false (fun hz => by have := hz i (by omega) j (by omega) a (by omega) b (by omega); unfold metP at this; omega)
                    rw [hz]
                  · refine ⟨by omega, ?_⟩
                    refine LoopEnd.intro (b + 1) ⟨by omega, fun b' hb' => ?_⟩ (by omega) (Nat.zero_le _) ?_
                    · rcases Nat.lt_succ_iff_lt_or_eq.1 hb' with h | h
                      · exact tb b' h
                      · subst h; unfold metP; omega
                    · simp only [go_sem, cond_true, cond_false, ↓reduceIte, Nat.reduceEqDiff, Nat.reduceBEq, List.map_cons, List.map_nil, List.append_nil, List.cons_append, List.nil_append, true_and, and_true, Nat.reduceAdd, Nat.reduceSub, Nat.zero_add, Nat.add_zero, List.drop_zero, List.drop_succ_cons, List.take_succ_cons, List.take_zero, List.all_cons, List.all_nil, Bool.and_true, Bool.true_and, Bool.and_false, Bool.false_and, Bool.or_true, Bool.true_or, Bool.or_false, Bool.false_or, Bool.not_false, Bool.not_true, Option.getD_some, List.length_cons, List.length_nil, Nat.reduceLeDiff, Option.isSome_none, Option.isSome_some, Nat.reduceMul, eq_self, exists_const, List.toList_toArray, partB_true, partB_false, RK_i64, RK_u64, RK_u8, LoopEnd, List.getElem?_cons_zero, List.getElem?_cons_succ, List.getElem?_nil, Nat.sub_zero, Nat.le_refl, Int.toNat_natCast, List.set_cons_zero, List.set_cons_succ, List.getD_cons_zero, List.getD_cons_succ, Nat.sub_self]
                      repeat' (first | refine fork_intro (fun hb => ?_) (fun hb => ?_) | refine partB_intro (fun hb => ?_) (fun hb => ?_) | refine And.intro ?_ ?_)
                      all_goals first | trivial | rfl | omega
                · refine ⟨by omega, ?_⟩
                  refine LoopEnd.intro (a + 1) ⟨by omega, fun a' ha' => ?_⟩ (by omega) (Nat.zero_le _) ?_
                  · rcases Nat.lt_succ_iff_lt_or_eq.1 ha' with h | h
                    · exact ta a' h
                    · subst h; have hq : b = o.length := by omega
                      exact hq ▸ tb
                  · simp only [go_sem, cond_true, cond_false, ↓reduceIte, Nat.reduceEqDiff, Nat.reduceBEq, List.map_cons, List.map_nil, List.append_nil, List.cons_append, List.nil_append, true_and, and_true, Nat.reduceAdd, Nat.reduceSub, Nat.zero_add, Nat.add_zero, List.drop_zero, List.drop_succ_cons, List.take_succ_cons, List.take_zero, List.all_cons, List.all_nil, Bool.and_true, Bool.true_and, Bool.and_false, Bool.false_and, Bool.or_true, Bool.true_or, Bool.or_false, Bool.false_or, Bool.not_false, Bool.not_true, Option.getD_some, List.length_cons, List.length_nil, Nat.reduceLeDiff, Option.isSome_none, Option.isSome_some, Nat.reduceMul, eq_self, exists_const, List.toList_toArray, partB_true, partB_false, RK_i64, RK_u64, RK_u8, LoopEnd, List.getElem?_cons_zero, List.getElem?_cons_succ, List.getElem?_nil, Nat.sub_zero, Nat.le_refl, Int.toNat_natCast, List.set_cons_zero, List.set_cons_succ, List.getD_cons_zero, List.getD_cons_succ, Nat.sub_self]
                    repeat' (first | refine fork_intro (fun hb => ?_) (fun hb => ?_) | refine partB_intro (fun hb => ?_) (fun hb => ?_) | refine And.intro ?_ ?_)
                    all_goals first | trivial | rfl | omega
            · refine ⟨by omega, ?_⟩
              refine LoopEnd.intro (j + 1) ⟨by omega, fun j' hj' => ?_⟩ (by omega) (Nat.zero_le _) ?_
              · rcases Nat.lt_succ_iff_lt_or_eq.1 hj' with h | h
                · exact tj j' h
                · subst h; have hq : a = o.length := by omega
                  exact hq ▸ ta
              · simp only [go_sem, cond_true, cond_false, ↓reduceIte, Nat.reduceEqDiff, Nat.reduceBEq, List.map_cons, List.map_nil, List.append_nil, List.cons_append, List.nil_append, true_and, and_true, Nat.reduceAdd, Nat.reduceSub, Nat.zero_add, Nat.add_zero, List.drop_zero, List.drop_succ_cons, List.take_succ_cons, List.take_zero, List.all_cons, List.all_nil, Bool.and_true, Bool.true_and, Bool.and_false, Bool.false_and, Bool.or_true, Bool.true_or, Bool.or_false, Bool.false_or, Bool.not_false, Bool.not_true, Option.getD_some, List.length_cons, List.length_nil, Nat.reduceLeDiff, Option.isSome_none, Option.isSome_some, Nat.reduceMul, eq_self, exists_const, List.toList_toArray, partB_true, partB_false, RK_i64, RK_u64, RK_u8, LoopEnd, List.getElem?_cons_zero, List.getElem?_cons_succ, List.getElem?_nil, Nat.sub_zero, Nat.le_refl, Int.toNat_natCast, List.set_cons_zero, List.set_cons_succ, List.getD_cons_zero, List.getD_cons_succ, Nat.sub_self]
                repeat' (first | refine fork_intro (fun hb => ?_) (fun hb => ?_) | refine partB_intro (fun hb => ?_) (fun hb => ?_) | refine And.intro ?_ ?_)
                all_goals first | trivial | rfl | omega
        · refine ⟨by omega, ?_⟩
          refine LoopEnd.intro (i + 1) ⟨by omega, fun i' hi' => ?_⟩ (by omega) (Nat.zero_le _) ?_
          · rcases Nat.lt_succ_iff_lt_or_eq.1 hi' with h | h
            · exact ti i' h
            · subst h; have hq : j = d.length := by omega
              exact hq ▸ tj
          · simp only [go_sem, cond_true, cond_false, ↓reduceIte, Nat.reduceEqDiff, Nat.reduceBEq, List.map_cons, List.map_nil, List.append_nil, List.cons_append, List.nil_append, true_and, and_true, Nat.reduceAdd, Nat.reduceSub, Nat.zero_add, Nat.add_zero, List.drop_zero, List.drop_succ_cons, List.take_succ_cons, List.take_zero, List.all_cons, List.all_nil, Bool.and_true, Bool.true_and, Bool.and_false, Bool.false_and, Bool.or_true, Bool.true_or, Bool.or_false, Bool.false_or, Bool.not_false, Bool.not_true, Option.getD_some, List.length_cons, List.length_nil, Nat.reduceLeDiff, Option.isSome_none, Option.isSome_some, Nat.reduceMul, eq_self, exists_const, List.toList_toArray, partB_true, partB_false, RK_i64, RK_u64, RK_u8, LoopEnd, List.getElem?_cons_zero, List.getElem?_cons_succ, List.getElem?_nil, Nat.sub_zero, Nat.le_refl, Int.toNat_natCast, List.set_cons_zero, List.set_cons_succ, List.getD_cons_zero, List.getD_cons_succ, Nat.sub_self]
            repeat' (first | refine fork_intro (fun hb => ?_) (fun hb => ?_) | refine partB_intro (fun hb => ?_) (fun hb => ?_) | refine And.intro ?_ ?_)
            all_goals first | trivial | rfl | omega
    · have hz : metric d o.length = true := decide_eq_true (by rw [show d.length = i by omega]; exact (show d.length = i by omega) ▸ ti)
      rw [hz]
def t_metI : Table := [(24, pureC g_metI)]
theorem t_metI_ok : TabOK Try.prog t_metI := .cons Try.func24 (by kernel_rfl) (.pure (by intro args hp; unfold g_metI at hp ⊢; split at hp <;> first | exact hp.elim | exact metI_ok _ _ hp)) (.nil _)
attribute [go_sem] g_metI_eq t_metI
def g_metSpec : List AV → Prop × AV
  | [.agg [.ints o, .rows d]] => (o.length ≤ 1048576000 ∧ d.length ≤ 1048576000 ∧ ∀ x ∈ d, x.length ≤ 1048576000, .tup [.bool (good o d && metric d o.length), .bool (good o d)])
  | _ => (False, .undef)
theorem g_metSpec_eq (o : List Int) (d : List (List Int)) : g_metSpec [.agg [.ints o, .rows d]] = (o.length ≤ 1048576000 ∧ d.length ≤ 1048576000 ∧ ∀ x ∈ d, x.length ≤ 1048576000, .tup [.bool (good o d && metric d o.length), .bool (good o d)]) := (rfl)
theorem metSpec_ok (o : List Int) (d : List (List Int)) (hp : o.length ≤ 1048576000 ∧ d.length ≤ 1048576000 ∧ ∀ x ∈ d, x.length ≤ 1048576000) : SpecOK Try.prog 23 [.agg [.ints o, .rows d]] (.tup [.bool (good o d && metric d o.length), .bool (good o d)]) [] := by
  refine fun_ok (C := t_l2Good ++ t_metS) (hint := hintX [] [] 0 [] []) ((t_l2Good_ok).append t_metS_ok) mixed Try.func23 rfl (by kernel_rfl) rfl ?_
  show codeA _ _ _ _ _ _ _ _
  simp only [go_sem, cond_true, cond_false, ↓reduceIte, Nat.reduceEqDiff, Nat.reduceBEq, List.map_cons, List.map_nil, List.append_nil, List.cons_append, List.nil_append, true_and, and_true, Nat.reduceAdd, Nat.reduceSub, Nat.zero_add, Nat.add_zero, List.drop_zero, List.drop_succ_cons, List.take_succ_cons, List.take_zero, List.all_cons, List.all_nil, Bool.and_true, Bool.true_and, Bool.and_false, Bool.false_and, Bool.or_true, Bool.true_or, Bool.or_false, Bool.false_or, Bool.not_false, Bool.not_true, Option.getD_some, List.length_cons, List.length_nil, Nat.reduceLeDiff, Option.isSome_none, Option.isSome_some, Nat.reduceMul, eq_self, exists_const, List.toList_toArray, partB_true, partB_false, RK_i64, RK_u64, RK_u8, LoopEnd, List.getElem?_cons_zero, List.getElem?_cons_succ, List.getElem?_nil, Nat.sub_zero, Nat.le_refl, Int.toNat_natCast, List.set_cons_zero, List.set_cons_succ, List.getD_cons_zero, List.getD_cons_succ, Nat.sub_self, Try.results23]
  refine ⟨hp, partB_intro (fun hg => ?_) (fun hg => ?_)⟩
  · exact ⟨good_iff.1 hg, by rw [hg]; exact ⟨rfl, rfl⟩⟩
  · rw [hg]; exact ⟨rfl, rfl⟩
def t_metSpec : Table := [(23, pureC g_metSpec)]
theorem t_metSpec_ok : TabOK Try.prog t_metSpec := .cons Try.func23 (by kernel_rfl) (.pure (by intro args hp; unfold g_metSpec at hp ⊢; split at hp <;> first | exact hp.elim | exact metSpec_ok _ _ hp)) (.nil _)
attribute [go_sem] g_metSpec_eq t_metSpec
end Go.Proofs.Ytaoenbfmhdconaa
