/- Trees: both packages say the same. -/
import Derived.Test.YtaoenbfmhdconaaA3
import Derived.Test.YtaoenbfmhdconaaPlT
namespace Go.Proofs.Ytaoenbfmhdconaa
open Go.Vc
set_option maxRecDepth 100000
set_option linter.unusedSimpArgs false
set_option linter.unusedVariables false

def treeP (ps : List Int) (k : Nat) : Prop := (k = 0 → ix ps 0 = -1) ∧ (0 < k → 0 ≤ ix ps (k : Int) ∧ ix ps (k : Int) < k)
theorem treeP_no {ps : List Int} {k : Nat} (hk : k < ps.length) (h : ¬ treeP ps k) : tree ps = false := by
  cases ht : tree ps with
  | false => rfl
  | true =>
    have := tree_iff.1 ht
    exact (h ⟨fun _ => this.root, fun h0 => this.par k hk h0⟩).elim
theorem treeP_all {ps : List Int} (h : ∀ k, k < ps.length → treeP ps k) : tree ps = decide (1 ≤ (ps.length : Int) ∧ (ps.length : Int) ≤ 7) := by
  unfold tree
  apply decide_eq_decide.2
  refine ⟨fun h1 => by omega, fun h1 => ⟨by omega, (h 0 (by omega)).1 rfl, fun k hk h0 => (h k hk).2 h0⟩⟩
theorem treeP_next {ps : List Int} {k : Nat} (h : ∀ j, j < k → treeP ps j) (hk : treeP ps k) : ∀ j, j < k + 1 → treeP ps j := by
  intro j hj
  rcases Nat.lt_succ_iff_lt_or_eq.1 hj with h1 | h1
  · exact h j h1
  · subst h1; exact hk
def g_treeS : List AV → Prop × AV
  | [.ints ps] => (ps.length ≤ 1048576000, .bool (tree ps))
  | _ => (False, .undef)
theorem g_treeS_eq (ps : List Int) : g_treeS [.ints ps] = (ps.length ≤ 1048576000, .bool (tree ps)) := (rfl)
theorem treeS_ok (ps : List Int) (hp : ps.length ≤ 1048576000) : SpecOK Try.prog 38 [.ints ps] (.bool (tree ps)) [] := by
  refine fun_ok (C := t_l1In) (hint := hintX [] [] 0 [] []) (t_l1In_ok) mixed Try.func38 rfl (by kernel_rfl) rfl ?_
  show codeA _ _ _ _ _ _ _ _
  simp only [go_sem, cond_true, cond_false, ↓reduceIte, Nat.reduceEqDiff, Nat.reduceBEq, List.map_cons, List.map_nil, List.append_nil, List.cons_append, List.nil_append, true_and, and_true, Nat.reduceAdd, Nat.reduceSub, Nat.zero_add, Nat.add_zero, List.drop_zero, List.drop_succ_cons, List.take_succ_cons, List.take_zero, List.all_cons, List.all_nil, Bool.and_true, Bool.true_and, Bool.and_false, Bool.false_and, Bool.or_true, Bool.true_or, Bool.or_false, Bool.false_or, Bool.not_false, Bool.not_true, Option.getD_some, List.length_cons, List.length_nil, Nat.reduceLeDiff, Option.isSome_none, Option.isSome_some, Nat.reduceMul, eq_self, exists_const, List.toList_toArray, partB_true, partB_false, RK_i64, RK_u64, RK_u8, LoopEnd, List.getElem?_cons_zero, List.getElem?_cons_succ, List.getElem?_nil, Nat.sub_zero, Nat.le_refl, Int.toNat_natCast, List.set_cons_zero, List.set_cons_succ, List.getD_cons_zero, List.getD_cons_succ, Nat.sub_self, Option.map_some, Option.map_none, Try.results38]
  refine loop_intro (fun k : Nat => [(3, .int .i64 k), (0, .ints ps)]) (fun _ => []) 0 (fun k => k ≤ ps.length ∧ ∀ j : Nat, j < k → treeP ps j) (fun k => ps.length - k) 0 ⟨Nat.zero_le _, fun j h => absurd h (Nat.not_lt_zero _)⟩ (Nat.zero_le _) ?_ ?_
  · simp only [go_sem, cond_true, cond_false, ↓reduceIte, Nat.reduceEqDiff, Nat.reduceBEq, List.map_cons, List.map_nil, List.append_nil, List.cons_append, List.nil_append, true_and, and_true, Nat.reduceAdd, Nat.reduceSub, Nat.zero_add, Nat.add_zero, List.drop_zero, List.drop_succ_cons, List.take_succ_cons, List.take_zero, List.all_cons, List.all_nil, Bool.and_true, Bool.true_and, Bool.and_false, Bool.false_and, Bool.or_true, Bool.true_or, Bool.or_false, Bool.false_or, Bool.not_false, Bool.not_true, Option.getD_some, List.length_cons, List.length_nil, Nat.reduceLeDiff, Option.isSome_none, Option.isSome_some, Nat.reduceMul, eq_self, exists_const, List.toList_toArray, partB_true, partB_false, RK_i64, RK_u64, RK_u8, LoopEnd, List.getElem?_cons_zero, List.getElem?_cons_succ, List.getElem?_nil, Nat.sub_zero, Nat.le_refl, Int.toNat_natCast, List.set_cons_zero, List.set_cons_succ, List.getD_cons_zero, List.getD_cons_succ, Nat.sub_self, Option.map_some, Option.map_none]
    repeat' (first | refine fork_intro (fun hb => ?_) (fun hb => ?_) | refine partB_intro (fun hb => ?_) (fun hb => ?_) | refine And.intro ?_ ?_)
    all_goals first | exact True.intro | omega | with_reducible rfl | exact congrArg (AV.int _) (by omega)
  · rintro k ⟨hk, ht⟩
    simp only [go_sem, cond_true, cond_false, ↓reduceIte, Nat.reduceEqDiff, Nat.reduceBEq, List.map_cons, List.map_nil, List.append_nil, List.cons_append, List.nil_append, true_and, and_true, Nat.reduceAdd, Nat.reduceSub, Nat.zero_add, Nat.add_zero, List.drop_zero, List.drop_succ_cons, List.take_succ_cons, List.take_zero, List.all_cons, List.all_nil, Bool.and_true, Bool.true_and, Bool.and_false, Bool.false_and, Bool.or_true, Bool.true_or, Bool.or_false, Bool.false_or, Bool.not_false, Bool.not_true, Option.getD_some, List.length_cons, List.length_nil, Nat.reduceLeDiff, Option.isSome_none, Option.isSome_some, Nat.reduceMul, eq_self, exists_const, List.toList_toArray, partB_true, partB_false, RK_i64, RK_u64, RK_u8, LoopEnd, List.getElem?_cons_zero, List.getElem?_cons_succ, List.getElem?_nil, Nat.sub_zero, Nat.le_refl, Int.toNat_natCast, List.set_cons_zero, List.set_cons_succ, List.getD_cons_zero, List.getD_cons_succ, Nat.sub_self, Option.map_some, Option.map_none]
    refine fork_intro (fun hb => ?_) (fun hb => ?_)
    · have hz := treeP_no (ps := ps) (k := k) (by omega)
      have hs := treeP_next (ps := ps) (k := k) ht
      have hk0 : k = 0 → ix ps (k : Int) = ix ps 0 := fun h => by rw [h]; rfl
      repeat' (first | refine fork_intro (fun hb => ?_) (fun hb => ?_) | refine partB_intro (fun hb => ?_) (fun hb => ?_) | refine And.intro ?_ ?_)
      all_goals first | exact True.intro | omega | with_reducible rfl | exact congrArg (AV.int _) (by omega) | (refine LoopEnd.intro (k + 1) (by first | omega | (exact ⟨by omega, hs ⟨fun _ => by omega, fun _ => by omega⟩⟩)) (by first | omega | (dsimp only; omega)) (by omega) ?_; simp only [go_sem, cond_true, cond_false, ↓reduceIte, Nat.reduceEqDiff, Nat.reduceBEq, List.map_cons, List.map_nil, List.append_nil, List.cons_append, List.nil_append, true_and, and_true, Nat.reduceAdd, Nat.reduceSub, Nat.zero_add, Nat.add_zero, List.drop_zero, List.drop_succ_cons, List.take_succ_cons, List.take_zero, List.all_cons, List.all_nil, Bool.and_true, Bool.true_and, Bool.and_false, Bool.false_and, Bool.or_true, Bool.true_or, Bool.or_false, Bool.false_or, Bool.not_false, Bool.not_true, Option.getD_some, List.length_cons, List.length_nil, Nat.reduceLeDiff, Option.isSome_none, Option.isSome_some, Nat.reduceMul, eq_self, exists_const, List.toList_toArray, partB_true, partB_false, RK_i64, RK_u64, RK_u8, LoopEnd, List.getElem?_cons_zero, List.getElem?_cons_succ, List.getElem?_nil, Nat.sub_zero, Nat.le_refl, Int.toNat_natCast, List.set_cons_zero, List.set_cons_succ, List.getD_cons_zero, List.getD_cons_succ, Nat.sub_self, Option.map_some, Option.map_none]; (repeat' (first | refine fork_intro (fun hb => ?_) (fun hb => ?_) | refine partB_intro (fun hb => ?_) (fun hb => ?_) | refine And.intro ?_ ?_)); all_goals first | exact True.intro | omega | with_reducible rfl | exact congrArg (AV.int _) (by omega) | (rw [hz (fun h => by have h1 := h.1; have h2 := h.2; omega)])) | (rw [hz (fun h => by have h1 := h.1; have h2 := h.2; omega)])
    · rw [treeP_all (fun j hj => ht j (by omega))]
def t_treeS : Table := [(38, pureC g_treeS)]
theorem t_treeS_ok : TabOK Try.prog t_treeS := .cons Try.func38 (by kernel_rfl) (.pure (by intro args hp; unfold g_treeS at hp ⊢; split at hp <;> first | exact hp.elim | exact treeS_ok _ hp)) (.nil _)
attribute [go_sem] g_treeS_eq t_treeS
def g_treeI : List AV → Prop × AV
  | [.ints ps] => (ps.length ≤ 1048576000, .bool (tree ps))
  | _ => (False, .undef)
theorem g_treeI_eq (ps : List Int) : g_treeI [.ints ps] = (ps.length ≤ 1048576000, .bool (tree ps)) := (rfl)
theorem treeI_ok (ps : List Int) (hp : ps.length ≤ 1048576000) : SpecOK Try.prog 42 [.ints ps] (.bool (tree ps)) [] := by
  refine fun_ok (C := t_between) (hint := hintX [] [] 0 [] []) (t_between_ok) mixed Try.func42 rfl (by kernel_rfl) rfl ?_
  show codeA _ _ _ _ _ _ _ _
  simp only [go_sem, cond_true, cond_false, ↓reduceIte, Nat.reduceEqDiff, Nat.reduceBEq, List.map_cons, List.map_nil, List.append_nil, List.cons_append, List.nil_append, true_and, and_true, Nat.reduceAdd, Nat.reduceSub, Nat.zero_add, Nat.add_zero, List.drop_zero, List.drop_succ_cons, List.take_succ_cons, List.take_zero, List.all_cons, List.all_nil, Bool.and_true, Bool.true_and, Bool.and_false, Bool.false_and, Bool.or_true, Bool.true_or, Bool.or_false, Bool.false_or, Bool.not_false, Bool.not_true, Option.getD_some, List.length_cons, List.length_nil, Nat.reduceLeDiff, Option.isSome_none, Option.isSome_some, Nat.reduceMul, eq_self, exists_const, List.toList_toArray, partB_true, partB_false, RK_i64, RK_u64, RK_u8, LoopEnd, List.getElem?_cons_zero, List.getElem?_cons_succ, List.getElem?_nil, Nat.sub_zero, Nat.le_refl, Int.toNat_natCast, List.set_cons_zero, List.set_cons_succ, List.getD_cons_zero, List.getD_cons_succ, Nat.sub_self, Option.map_some, Option.map_none, Try.results42]
  refine fork_intro (fun h1 => ⟨by omega, fork_intro (fun h2 => ⟨by omega, ?_⟩) (fun h2 => ?_)⟩) (fun h1 => ?_)
  · have hcl : (cutL ps 1 ps.length).length = ps.length - 1 := by simp [cutL]
    refine loop_intro (fun k : Nat => [(18, .int .i64 k), (17, .int .i64 ((cutL ps 1 ps.length).length)), (16, .ints (cutL ps 1 ps.length))]) (fun _ => []) 0 (fun k => k + 1 ≤ ps.length ∧ ∀ j : Nat, j < k + 1 → treeP ps j) (fun k => ps.length - k) 0 ⟨by omega, fun j h => ?_⟩ (Nat.zero_le _) ?_ ?_
    · have : j = 0 := by omega
      subst this; exact ⟨fun _ => h2, fun h => by omega⟩
    · simp only [go_sem, cond_true, cond_false, ↓reduceIte, Nat.reduceEqDiff, Nat.reduceBEq, List.map_cons, List.map_nil, List.append_nil, List.cons_append, List.nil_append, true_and, and_true, Nat.reduceAdd, Nat.reduceSub, Nat.zero_add, Nat.add_zero, List.drop_zero, List.drop_succ_cons, List.take_succ_cons, List.take_zero, List.all_cons, List.all_nil, Bool.and_true, Bool.true_and, Bool.and_false, Bool.false_and, Bool.or_true, Bool.true_or, Bool.or_false, Bool.false_or, Bool.not_false, Bool.not_true, Option.getD_some, List.length_cons, List.length_nil, Nat.reduceLeDiff, Option.isSome_none, Option.isSome_some, Nat.reduceMul, eq_self, exists_const, List.toList_toArray, partB_true, partB_false, RK_i64, RK_u64, RK_u8, LoopEnd, List.getElem?_cons_zero, List.getElem?_cons_succ, List.getElem?_nil, Nat.sub_zero, Nat.le_refl, Int.toNat_natCast, List.set_cons_zero, List.set_cons_succ, List.getD_cons_zero, List.getD_cons_succ, Nat.sub_self, Option.map_some, Option.map_none]
      repeat' (first | refine fork_intro (fun hb => ?_) (fun hb => ?_) | refine partB_intro (fun hb => ?_) (fun hb => ?_) | refine And.intro ?_ ?_)
      all_goals first | exact True.intro | omega | with_reducible rfl | exact congrArg (AV.int _) (by omega)
    · rintro k ⟨hk, ht⟩
      simp only [go_sem, cond_true, cond_false, ↓reduceIte, Nat.reduceEqDiff, Nat.reduceBEq, List.map_cons, List.map_nil, List.append_nil, List.cons_append, List.nil_append, true_and, and_true, Nat.reduceAdd, Nat.reduceSub, Nat.zero_add, Nat.add_zero, List.drop_zero, List.drop_succ_cons, List.take_succ_cons, List.take_zero, List.all_cons, List.all_nil, Bool.and_true, Bool.true_and, Bool.and_false, Bool.false_and, Bool.or_true, Bool.true_or, Bool.or_false, Bool.false_or, Bool.not_false, Bool.not_true, Option.getD_some, List.length_cons, List.length_nil, Nat.reduceLeDiff, Option.isSome_none, Option.isSome_some, Nat.reduceMul, eq_self, exists_const, List.toList_toArray, partB_true, partB_false, RK_i64, RK_u64, RK_u8, LoopEnd, List.getElem?_cons_zero, List.getElem?_cons_succ, List.getElem?_nil, Nat.sub_zero, Nat.le_refl, Int.toNat_natCast, List.set_cons_zero, List.set_cons_succ, List.getD_cons_zero, List.getD_cons_succ, Nat.sub_self, Option.map_some, Option.map_none]
      refine fork_intro (fun hb => ?_) (fun hb => ?_)
      · have hz := treeP_no (ps := ps) (k := k + 1) (by omega)
        have hs := treeP_next (ps := ps) (k := k + 1) ht
        have hx : ix (cutL ps 1 ps.length) (k : Int) = ix ps ((k + 1 : Nat) : Int) := by
          simp [cutL, ix]
        rw [hx]
        repeat' (first | refine fork_intro (fun hb => ?_) (fun hb => ?_) | refine partB_intro (fun hb => ?_) (fun hb => ?_) | refine And.intro ?_ ?_)
        all_goals first | exact True.intro | omega | with_reducible rfl | exact congrArg (AV.int _) (by omega) | (refine LoopEnd.intro (k + 1) (by first | omega | (exact ⟨by omega, hs ⟨fun _ => by omega, fun _ => by omega⟩⟩)) (by first | omega | (dsimp only; omega)) (by omega) ?_; simp only [go_sem, cond_true, cond_false, ↓reduceIte, Nat.reduceEqDiff, Nat.reduceBEq, List.map_cons, List.map_nil, List.append_nil, List.cons_append, List.nil_append, true_and, and_true, Nat.reduceAdd, Nat.reduceSub, Nat.zero_add, Nat.add_zero, List.drop_zero, List.drop_succ_cons, List.take_succ_cons, List.take_zero, List.all_cons, List.all_nil, Bool.and_true, Bool.true_and, Bool.and_false, Bool.false_and, Bool.or_true, Bool.true_or, Bool.or_false, Bool.false_or, Bool.not_false, Bool.not_true, Option.getD_some, List.length_cons, List.length_nil, Nat.reduceLeDiff, Option.isSome_none, Option.isSome_some, Nat.reduceMul, eq_self, exists_const, List.toList_toArray, partB_true, partB_false, RK_i64, RK_u64, RK_u8, LoopEnd, List.getElem?_cons_zero, List.getElem?_cons_succ, List.getElem?_nil, Nat.sub_zero, Nat.le_refl, Int.toNat_natCast, List.set_cons_zero, List.set_cons_succ, List.getD_cons_zero, List.getD_cons_succ, Nat.sub_self, Option.map_some, Option.map_none]; (repeat' (first | refine fork_intro (fun hb => ?_) (fun hb => ?_) | refine partB_intro (fun hb => ?_) (fun hb => ?_) | refine And.intro ?_ ?_)); all_goals first | exact True.intro | omega | with_reducible rfl | exact congrArg (AV.int _) (by omega) | (rw [hz (fun h => by have h1 := h.1; have h2 := h.2; omega)])) | (rw [hz (fun h => by have h1 := h.1; have h2 := h.2; omega)])
      · rw [treeP_all (fun j hj => ht j (by omega)), decide_eq_true (by omega)]
  · have hz := treeP_no (ps := ps) (k := 0) (by omega) (fun h => h2 (h.1 rfl))
    rw [hz]
  · rw [show tree ps = false from by
      cases ht : tree ps with
      | false => rfl
      | true => have h0 := tree_iff.1 ht; have := h0.n1; have := h0.n7; omega]
def t_treeI : Table := [(42, pureC g_treeI)]
theorem t_treeI_ok : TabOK Try.prog t_treeI := .cons Try.func42 (by kernel_rfl) (.pure (by intro args hp; unfold g_treeI at hp ⊢; split at hp <;> first | exact hp.elim | exact treeI_ok _ hp)) (.nil _)
attribute [go_sem] g_treeI_eq t_treeI
def g_most2 : List AV → Prop × AV
  | [.int .i64 a, .int .i64 b] => (True, .int .i64 (max a b))
  | _ => (False, .undef)
theorem g_most2_eq (a b : Int) : g_most2 [.int .i64 a, .int .i64 b] = (True, .int .i64 (max a b)) := (rfl)
theorem most2_ok (a b : Int) (hp : True) : SpecOK Try.prog 41 [.int .i64 a, .int .i64 b] (.int .i64 (max a b)) [] := by
  refine fun_ok (C := []) (hint := hintX [] [] 0 [] []) (TabOK.nil _) mixed Try.func41 rfl (by kernel_rfl) rfl ?_
  show codeA _ _ _ _ _ _ _ _
  simp only [go_sem, cond_true, cond_false, ↓reduceIte, Nat.reduceEqDiff, Nat.reduceBEq, List.map_cons, List.map_nil, List.append_nil, List.cons_append, List.nil_append, true_and, and_true, Nat.reduceAdd, Nat.reduceSub, Nat.zero_add, Nat.add_zero, List.drop_zero, List.drop_succ_cons, List.take_succ_cons, List.take_zero, List.all_cons, List.all_nil, Bool.and_true, Bool.true_and, Bool.and_false, Bool.false_and, Bool.or_true, Bool.true_or, Bool.or_false, Bool.false_or, Bool.not_false, Bool.not_true, Option.getD_some, List.length_cons, List.length_nil, Nat.reduceLeDiff, Option.isSome_none, Option.isSome_some, Nat.reduceMul, eq_self, exists_const, List.toList_toArray, partB_true, partB_false, RK_i64, RK_u64, RK_u8, LoopEnd, List.getElem?_cons_zero, List.getElem?_cons_succ, List.getElem?_nil, Nat.sub_zero, Nat.le_refl, Int.toNat_natCast, List.set_cons_zero, List.set_cons_succ, List.getD_cons_zero, List.getD_cons_succ, Nat.sub_self, Option.map_some, Option.map_none, Try.results41]
  repeat' (first | refine fork_intro (fun hb => ?_) (fun hb => ?_) | refine partB_intro (fun hb => ?_) (fun hb => ?_) | refine And.intro ?_ ?_)
  all_goals first | exact True.intro | omega | with_reducible rfl | exact congrArg (AV.int _) (by omega) | (congr 1; omega)
def t_most2 : Table := [(41, pureC g_most2)]
theorem t_most2_ok : TabOK Try.prog t_most2 := .cons Try.func41 (by kernel_rfl) (.pure (by intro args hp; unfold g_most2 at hp ⊢; split at hp <;> first | exact hp.elim | exact most2_ok _ _ hp)) (.nil _)
attribute [go_sem] g_most2_eq t_most2
def g_cloneI : List AV → Prop × AV × Heap
  | [.ints xs] => (xs.length ≤ 1048576000, .sl 0, [(0, .arr (.ints xs))])
  | _ => (False, .undef, [])
theorem g_cloneI_eq (xs : List Int) : g_cloneI [.ints xs] = (xs.length ≤ 1048576000, .sl 0, [(0, .arr (.ints xs))]) := (rfl)
theorem cloneI_ok (xs : List Int) (hp : xs.length ≤ 1048576000) : SpecOK Try.prog 43 [.ints xs] (.sl 0) [(0, .arr (.ints xs))] := by
  refine fun_ok (C := []) (hint := hintX [5, 7] [(2, [.post, .up 2 (.arr (.ints []))])] 0 [] []) (TabOK.nil _) mixed Try.func43 rfl (by kernel_rfl) rfl ?_
  show codeA _ _ _ _ _ _ _ _
  simp only [go_sem, cond_true, cond_false, ↓reduceIte, Nat.reduceEqDiff, Nat.reduceBEq, List.map_cons, List.map_nil, List.append_nil, List.cons_append, List.nil_append, true_and, and_true, Nat.reduceAdd, Nat.reduceSub, Nat.zero_add, Nat.add_zero, List.drop_zero, List.drop_succ_cons, List.take_succ_cons, List.take_zero, List.all_cons, List.all_nil, Bool.and_true, Bool.true_and, Bool.and_false, Bool.false_and, Bool.or_true, Bool.true_or, Bool.or_false, Bool.false_or, Bool.not_false, Bool.not_true, Option.getD_some, List.length_cons, List.length_nil, Nat.reduceLeDiff, Option.isSome_none, Option.isSome_some, Nat.reduceMul, eq_self, exists_const, List.toList_toArray, partB_true, partB_false, RK_i64, RK_u64, RK_u8, LoopEnd, List.getElem?_cons_zero, List.getElem?_cons_succ, List.getElem?_nil, Nat.sub_zero, Nat.le_refl, Int.toNat_natCast, List.set_cons_zero, List.set_cons_succ, List.getD_cons_zero, List.getD_cons_succ, Nat.sub_self, Option.map_some, Option.map_none, Try.results43]
  intro b hb
  exact partB_intro (fun h => by rw [hb h]) (fun h => by omega)
def t_cloneI : Table := [(43, ownC g_cloneI)]
theorem t_cloneI_ok : TabOK Try.prog t_cloneI := .cons Try.func43 (by kernel_rfl) (.own (by intro args hp; unfold g_cloneI at hp ⊢; split at hp <;> first | exact hp.elim | exact ⟨cloneI_ok _ hp, rfl⟩)) (.nil _)
attribute [go_sem] g_cloneI_eq t_cloneI

def wtF (ps ws : List Int) (x y : Nat) : Int := if up ps x y = x then ix ws (y : Int) else 0
theorem wtF_bd {ps ws : List Int} (hw : ∀ k : Nat, k < ps.length → 0 ≤ ix ws (k : Int) ∧ ix ws (k : Int) ≤ 99) (x : Nat) {y : Nat} (hy : y ≤ ps.length) : 0 ≤ sumN (wtF ps ws x) y ∧ sumN (wtF ps ws x) y ≤ 99 * y := by
  have := sumN_bd (f := wtF ps ws x) (lo := 0) (hi := 99) (n := y) (fun i hi => by
    have := hw i (by omega)
    unfold wtF
    split <;> omega)
  omega
def g_wtS : List AV → Prop × AV
  | [.ints ps, .ints ws, .int .i64 x] => (TreeOK ps ∧ ws.length = ps.length ∧ (∀ k : Nat, k < ps.length → 0 ≤ ix ws (k : Int) ∧ ix ws (k : Int) ≤ 99) ∧ 0 ≤ x ∧ x < ps.length, .int .i64 (wtT ps ws x.toNat))
  | _ => (False, .undef)
theorem g_wtS_eq (ps ws : List Int) (x : Int) : g_wtS [.ints ps, .ints ws, .int .i64 x] = (TreeOK ps ∧ ws.length = ps.length ∧ (∀ k : Nat, k < ps.length → 0 ≤ ix ws (k : Int) ∧ ix ws (k : Int) ≤ 99) ∧ 0 ≤ x ∧ x < ps.length, .int .i64 (wtT ps ws x.toNat)) := (rfl)
theorem wtS_ok (ps ws : List Int) (x : Int) (hp : TreeOK ps ∧ ws.length = ps.length ∧ (∀ k : Nat, k < ps.length → 0 ≤ ix ws (k : Int) ∧ ix ws (k : Int) ≤ 99) ∧ 0 ≤ x ∧ x < ps.length) : SpecOK Try.prog 40 [.ints ps, .ints ws, .int .i64 x] (.int .i64 (wtT ps ws x.toNat)) [] := by
  refine fun_ok (C := []) (hint := hintX [] [] 0 [] []) (TabOK.nil _) mixed Try.func40 rfl (by kernel_rfl) rfl ?_
  show codeA _ _ _ _ _ _ _ _
  simp only [go_sem, cond_true, cond_false, ↓reduceIte, Nat.reduceEqDiff, Nat.reduceBEq, List.map_cons, List.map_nil, List.append_nil, List.cons_append, List.nil_append, true_and, and_true, Nat.reduceAdd, Nat.reduceSub, Nat.zero_add, Nat.add_zero, List.drop_zero, List.drop_succ_cons, List.take_succ_cons, List.take_zero, List.all_cons, List.all_nil, Bool.and_true, Bool.true_and, Bool.and_false, Bool.false_and, Bool.or_true, Bool.true_or, Bool.or_false, Bool.false_or, Bool.not_false, Bool.not_true, Option.getD_some, List.length_cons, List.length_nil, Nat.reduceLeDiff, Option.isSome_none, Option.isSome_some, Nat.reduceMul, eq_self, exists_const, List.toList_toArray, partB_true, partB_false, RK_i64, RK_u64, RK_u8, LoopEnd, List.getElem?_cons_zero, List.getElem?_cons_succ, List.getElem?_nil, Nat.sub_zero, Nat.le_refl, Int.toNat_natCast, List.set_cons_zero, List.set_cons_succ, List.getD_cons_zero, List.getD_cons_succ, Nat.sub_self, Option.map_some, Option.map_none, Try.results40]
  obtain ⟨ht, hl, hw, h0, hx⟩ := hp
  obtain ⟨x, rfl⟩ : ∃ n : Nat, x = n := ⟨x.toNat, by omega⟩
  rw [Int.toNat_natCast]
  have n7 := ht.n7
  have hs0 : sumN (wtF ps ws x) x = 0 := sumN_zero (fun i hi => by unfold wtF; rw [up_low ps (by omega), if_neg (by omega)])
  refine loop_intro (fun y : Nat => [(7, .int .i64 (sumN (wtF ps ws x) y)), (8, .int .i64 y), (0, .ints ps), (1, .ints ws), (2, .int .i64 x)]) (fun _ => []) 0 (fun y => x ≤ y ∧ y ≤ ps.length) (fun y => ps.length - y) x (by omega) (Nat.zero_le _) ?_ ?_
  · simp only [go_sem, cond_true, cond_false, ↓reduceIte, Nat.reduceEqDiff, Nat.reduceBEq, List.map_cons, List.map_nil, List.append_nil, List.cons_append, List.nil_append, true_and, and_true, Nat.reduceAdd, Nat.reduceSub, Nat.zero_add, Nat.add_zero, List.drop_zero, List.drop_succ_cons, List.take_succ_cons, List.take_zero, List.all_cons, List.all_nil, Bool.and_true, Bool.true_and, Bool.and_false, Bool.false_and, Bool.or_true, Bool.true_or, Bool.or_false, Bool.false_or, Bool.not_false, Bool.not_true, Option.getD_some, List.length_cons, List.length_nil, Nat.reduceLeDiff, Option.isSome_none, Option.isSome_some, Nat.reduceMul, eq_self, exists_const, List.toList_toArray, partB_true, partB_false, RK_i64, RK_u64, RK_u8, LoopEnd, List.getElem?_cons_zero, List.getElem?_cons_succ, List.getElem?_nil, Nat.sub_zero, Nat.le_refl, Int.toNat_natCast, List.set_cons_zero, List.set_cons_succ, List.getD_cons_zero, List.getD_cons_succ, Nat.sub_self, Option.map_some, Option.map_none, hs0]
    repeat' (first | refine fork_intro (fun hb => ?_) (fun hb => ?_) | refine partB_intro (fun hb => ?_) (fun hb => ?_) | refine And.intro ?_ ?_)
    all_goals first | exact True.intro | omega | with_reducible rfl | exact congrArg (AV.int _) (by omega)
  · rintro y ⟨hy1, hy2⟩
    have hb0 := wtF_bd hw x hy2
    simp only [go_sem, cond_true, cond_false, ↓reduceIte, Nat.reduceEqDiff, Nat.reduceBEq, List.map_cons, List.map_nil, List.append_nil, List.cons_append, List.nil_append, true_and, and_true, Nat.reduceAdd, Nat.reduceSub, Nat.zero_add, Nat.add_zero, List.drop_zero, List.drop_succ_cons, List.take_succ_cons, List.take_zero, List.all_cons, List.all_nil, Bool.and_true, Bool.true_and, Bool.and_false, Bool.false_and, Bool.or_true, Bool.true_or, Bool.or_false, Bool.false_or, Bool.not_false, Bool.not_true, Option.getD_some, List.length_cons, List.length_nil, Nat.reduceLeDiff, Option.isSome_none, Option.isSome_some, Nat.reduceMul, eq_self, exists_const, List.toList_toArray, partB_true, partB_false, RK_i64, RK_u64, RK_u8, LoopEnd, List.getElem?_cons_zero, List.getElem?_cons_succ, List.getElem?_nil, Nat.sub_zero, Nat.le_refl, Int.toNat_natCast, List.set_cons_zero, List.set_cons_succ, List.getD_cons_zero, List.getD_cons_succ, Nat.sub_self, Option.map_some, Option.map_none]
    refine fork_intro (fun hb => ?_) (fun hb => ?_)
    · refine loop_intro (fun z : Nat => [(9, .int .i64 z), (7, .int .i64 (sumN (wtF ps ws x) y)), (8, .int .i64 y), (0, .ints ps), (1, .ints ws), (2, .int .i64 x)]) (fun _ => []) 0 (fun z => z < ps.length ∧ up ps x z = up ps x y) (fun z => z) y ⟨by omega, rfl⟩ (Nat.zero_le _) ?_ ?_
      · simp only [go_sem, cond_true, cond_false, ↓reduceIte, Nat.reduceEqDiff, Nat.reduceBEq, List.map_cons, List.map_nil, List.append_nil, List.cons_append, List.nil_append, true_and, and_true, Nat.reduceAdd, Nat.reduceSub, Nat.zero_add, Nat.add_zero, List.drop_zero, List.drop_succ_cons, List.take_succ_cons, List.take_zero, List.all_cons, List.all_nil, Bool.and_true, Bool.true_and, Bool.and_false, Bool.false_and, Bool.or_true, Bool.true_or, Bool.or_false, Bool.false_or, Bool.not_false, Bool.not_true, Option.getD_some, List.length_cons, List.length_nil, Nat.reduceLeDiff, Option.isSome_none, Option.isSome_some, Nat.reduceMul, eq_self, exists_const, List.toList_toArray, partB_true, partB_false, RK_i64, RK_u64, RK_u8, LoopEnd, List.getElem?_cons_zero, List.getElem?_cons_succ, List.getElem?_nil, Nat.sub_zero, Nat.le_refl, Int.toNat_natCast, List.set_cons_zero, List.set_cons_succ, List.getD_cons_zero, List.getD_cons_succ, Nat.sub_self, Option.map_some, Option.map_none]
        repeat' (first | refine fork_intro (fun hb => ?_) (fun hb => ?_) | refine partB_intro (fun hb => ?_) (fun hb => ?_) | refine And.intro ?_ ?_)
        all_goals first | exact True.intro | omega | with_reducible rfl | exact congrArg (AV.int _) (by omega)
      · rintro z ⟨hz, hu⟩
        simp only [go_sem, cond_true, cond_false, ↓reduceIte, Nat.reduceEqDiff, Nat.reduceBEq, List.map_cons, List.map_nil, List.append_nil, List.cons_append, List.nil_append, true_and, and_true, Nat.reduceAdd, Nat.reduceSub, Nat.zero_add, Nat.add_zero, List.drop_zero, List.drop_succ_cons, List.take_succ_cons, List.take_zero, List.all_cons, List.all_nil, Bool.and_true, Bool.true_and, Bool.and_false, Bool.false_and, Bool.or_true, Bool.true_or, Bool.or_false, Bool.false_or, Bool.not_false, Bool.not_true, Option.getD_some, List.length_cons, List.length_nil, Nat.reduceLeDiff, Option.isSome_none, Option.isSome_some, Nat.reduceMul, eq_self, exists_const, List.toList_toArray, partB_true, partB_false, RK_i64, RK_u64, RK_u8, LoopEnd, List.getElem?_cons_zero, List.getElem?_cons_succ, List.getElem?_nil, Nat.sub_zero, Nat.le_refl, Int.toNat_natCast, List.set_cons_zero, List.set_cons_succ, List.getD_cons_zero, List.getD_cons_succ, Nat.sub_self, Option.map_some, Option.map_none]
        refine fork_intro (fun hc => ?_) (fun hc => ?_)
        · have hp := ht.par z hz (by omega)
          have hst := up_step ht (x := x) (y := z) (by omega) hz
          repeat' (first | refine fork_intro (fun hb => ?_) (fun hb => ?_) | refine partB_intro (fun hb => ?_) (fun hb => ?_) | refine And.intro ?_ ?_)
          all_goals first | exact True.intro | omega | with_reducible rfl | exact congrArg (AV.int _) (by omega) | (refine LoopEnd.intro ((ix ps (z : Int)).toNat) (by first | omega | (exact ⟨by omega, by rw [← hst]; exact hu⟩)) (by first | omega | (dsimp only; omega)) (by omega) ?_; simp only [go_sem, cond_true, cond_false, ↓reduceIte, Nat.reduceEqDiff, Nat.reduceBEq, List.map_cons, List.map_nil, List.append_nil, List.cons_append, List.nil_append, true_and, and_true, Nat.reduceAdd, Nat.reduceSub, Nat.zero_add, Nat.add_zero, List.drop_zero, List.drop_succ_cons, List.take_succ_cons, List.take_zero, List.all_cons, List.all_nil, Bool.and_true, Bool.true_and, Bool.and_false, Bool.false_and, Bool.or_true, Bool.true_or, Bool.or_false, Bool.false_or, Bool.not_false, Bool.not_true, Option.getD_some, List.length_cons, List.length_nil, Nat.reduceLeDiff, Option.isSome_none, Option.isSome_some, Nat.reduceMul, eq_self, exists_const, List.toList_toArray, partB_true, partB_false, RK_i64, RK_u64, RK_u8, LoopEnd, List.getElem?_cons_zero, List.getElem?_cons_succ, List.getElem?_nil, Nat.sub_zero, Nat.le_refl, Int.toNat_natCast, List.set_cons_zero, List.set_cons_succ, List.getD_cons_zero, List.getD_cons_succ, Nat.sub_self, Option.map_some, Option.map_none]; (repeat' (first | refine fork_intro (fun hb => ?_) (fun hb => ?_) | refine partB_intro (fun hb => ?_) (fun hb => ?_) | refine And.intro ?_ ?_)); all_goals first | exact True.intro | omega | with_reducible rfl | exact congrArg (AV.int _) (by omega))
        · have hz2 : up ps x z = z := up_low ps (by omega)
          have hw1 := hw y (by omega)
          refine fork_intro (fun hd => ?_) (fun hd => ?_)
          · have hn : sumN (wtF ps ws x) (y + 1) = sumN (wtF ps ws x) y + ix ws (y : Int) := by
              rw [sumN, wtF, if_pos (by omega)]
            repeat' (first | refine fork_intro (fun hb => ?_) (fun hb => ?_) | refine partB_intro (fun hb => ?_) (fun hb => ?_) | refine And.intro ?_ ?_)
            all_goals first | exact True.intro | omega | with_reducible rfl | exact congrArg (AV.int _) (by omega) | (refine LoopEnd.intro (y + 1) (by first | omega) (by first | omega | (dsimp only; omega)) (by omega) ?_; simp only [go_sem, cond_true, cond_false, ↓reduceIte, Nat.reduceEqDiff, Nat.reduceBEq, List.map_cons, List.map_nil, List.append_nil, List.cons_append, List.nil_append, true_and, and_true, Nat.reduceAdd, Nat.reduceSub, Nat.zero_add, Nat.add_zero, List.drop_zero, List.drop_succ_cons, List.take_succ_cons, List.take_zero, List.all_cons, List.all_nil, Bool.and_true, Bool.true_and, Bool.and_false, Bool.false_and, Bool.or_true, Bool.true_or, Bool.or_false, Bool.false_or, Bool.not_false, Bool.not_true, Option.getD_some, List.length_cons, List.length_nil, Nat.reduceLeDiff, Option.isSome_none, Option.isSome_some, Nat.reduceMul, eq_self, exists_const, List.toList_toArray, partB_true, partB_false, RK_i64, RK_u64, RK_u8, LoopEnd, List.getElem?_cons_zero, List.getElem?_cons_succ, List.getElem?_nil, Nat.sub_zero, Nat.le_refl, Int.toNat_natCast, List.set_cons_zero, List.set_cons_succ, List.getD_cons_zero, List.getD_cons_succ, Nat.sub_self, Option.map_some, Option.map_none]; (repeat' (first | refine fork_intro (fun hb => ?_) (fun hb => ?_) | refine partB_intro (fun hb => ?_) (fun hb => ?_) | refine And.intro ?_ ?_)); all_goals first | exact True.intro | omega | with_reducible rfl | exact congrArg (AV.int _) (by omega))
          · have hn : sumN (wtF ps ws x) (y + 1) = sumN (wtF ps ws x) y := by
              rw [sumN, wtF, if_neg (by omega), Int.add_zero]
            repeat' (first | refine fork_intro (fun hb => ?_) (fun hb => ?_) | refine partB_intro (fun hb => ?_) (fun hb => ?_) | refine And.intro ?_ ?_)
            all_goals first | exact True.intro | omega | with_reducible rfl | exact congrArg (AV.int _) (by omega) | (refine LoopEnd.intro (y + 1) (by first | omega) (by first | omega | (dsimp only; omega)) (by omega) ?_; simp only [go_sem, cond_true, cond_false, ↓reduceIte, Nat.reduceEqDiff, Nat.reduceBEq, List.map_cons, List.map_nil, List.append_nil, List.cons_append, List.nil_append, true_and, and_true, Nat.reduceAdd, Nat.reduceSub, Nat.zero_add, Nat.add_zero, List.drop_zero, List.drop_succ_cons, List.take_succ_cons, List.take_zero, List.all_cons, List.all_nil, Bool.and_true, Bool.true_and, Bool.and_false, Bool.false_and, Bool.or_true, Bool.true_or, Bool.or_false, Bool.false_or, Bool.not_false, Bool.not_true, Option.getD_some, List.length_cons, List.length_nil, Nat.reduceLeDiff, Option.isSome_none, Option.isSome_some, Nat.reduceMul, eq_self, exists_const, List.toList_toArray, partB_true, partB_false, RK_i64, RK_u64, RK_u8, LoopEnd, List.getElem?_cons_zero, List.getElem?_cons_succ, List.getElem?_nil, Nat.sub_zero, Nat.le_refl, Int.toNat_natCast, List.set_cons_zero, List.set_cons_succ, List.getD_cons_zero, List.getD_cons_succ, Nat.sub_self, Option.map_some, Option.map_none]; (repeat' (first | refine fork_intro (fun hb => ?_) (fun hb => ?_) | refine partB_intro (fun hb => ?_) (fun hb => ?_) | refine And.intro ?_ ?_)); all_goals first | exact True.intro | omega | with_reducible rfl | exact congrArg (AV.int _) (by omega))
    · rw [show wtT ps ws x = sumN (wtF ps ws x) y by rw [show y = ps.length by omega]; rfl]
def t_wtS : Table := [(40, pureC g_wtS)]
theorem t_wtS_ok : TabOK Try.prog t_wtS := .cons Try.func40 (by kernel_rfl) (.pure (by intro args hp; unfold g_wtS at hp ⊢; split at hp <;> first | exact hp.elim | exact wtS_ok _ _ _ hp)) (.nil _)
attribute [go_sem] g_wtS_eq t_wtS
def g_majS : List AV → Prop × AV
  | [.ints ps, .ints ws] => (ps.length ≤ 1048576000 ∧ ws.length ≤ 1048576000, .tup [.int .i64 (if majOK ps ws = true then majI ps ws else 0), .bool (majOK ps ws && majB ps ws)])
  | _ => (False, .undef)
theorem g_majS_eq (ps ws : List Int) : g_majS [.ints ps, .ints ws] = (ps.length ≤ 1048576000 ∧ ws.length ≤ 1048576000, .tup [.int .i64 (if majOK ps ws = true then majI ps ws else 0), .bool (majOK ps ws && majB ps ws)]) := (rfl)
theorem majS_ok (ps ws : List Int) (hp : ps.length ≤ 1048576000 ∧ ws.length ≤ 1048576000) : SpecOK Try.prog 19 [.ints ps, .ints ws] (.tup [.int .i64 (if majOK ps ws = true then majI ps ws else 0), .bool (majOK ps ws && majB ps ws)]) [] := by
  refine fun_ok (C := t_treeS ++ t_l2Row ++ t_wtS ++ t_most2) (hint := hintX [] [] 0 [] []) ((((t_treeS_ok).append t_l2Row_ok).append t_wtS_ok).append t_most2_ok) mixed Try.func19 rfl (by kernel_rfl) rfl ?_
  show codeA _ _ _ _ _ _ _ _
  simp only [go_sem, cond_true, cond_false, ↓reduceIte, Nat.reduceEqDiff, Nat.reduceBEq, List.map_cons, List.map_nil, List.append_nil, List.cons_append, List.nil_append, true_and, and_true, Nat.reduceAdd, Nat.reduceSub, Nat.zero_add, Nat.add_zero, List.drop_zero, List.drop_succ_cons, List.take_succ_cons, List.take_zero, List.all_cons, List.all_nil, Bool.and_true, Bool.true_and, Bool.and_false, Bool.false_and, Bool.or_true, Bool.true_or, Bool.or_false, Bool.false_or, Bool.not_false, Bool.not_true, Option.getD_some, List.length_cons, List.length_nil, Nat.reduceLeDiff, Option.isSome_none, Option.isSome_some, Nat.reduceMul, eq_self, exists_const, List.toList_toArray, partB_true, partB_false, RK_i64, RK_u64, RK_u8, LoopEnd, List.getElem?_cons_zero, List.getElem?_cons_succ, List.getElem?_nil, Nat.sub_zero, Nat.le_refl, Int.toNat_natCast, List.set_cons_zero, List.set_cons_succ, List.getD_cons_zero, List.getD_cons_succ, Nat.sub_self, Option.map_some, Option.map_none, Try.results19]
  refine ⟨hp.1, partB_intro (fun h1 => ⟨hp.2, partB_intro (fun h2 => ?_) (fun h2 => ?_)⟩) (fun h1 => ?_)⟩
  · have hok : majOK ps ws = true := by unfold majOK; rw [h1, h2]; rfl
    have ht := tree_iff.1 h1
    have hl : ws.length = ps.length := by simp at h2; omega
    have hw : ∀ k : Nat, k < ps.length → 0 ≤ ix ws (k : Int) ∧ ix ws (k : Int) ≤ 99 := fun k hk => by
      simp only [Bool.and_eq_true] at h2
      exact rowOK_iff.1 h2.1 _ (ix_mem ws (by omega))
    have n7 := ht.n7
    have n1 := ht.n1
    have w0 := wtT_bd hw n7 0
    have T : TreeOK ps ∧ ws.length = ps.length ∧ (∀ k : Nat, k < ps.length → 0 ≤ ix ws (k : Int) ∧ ix ws (k : Int) ≤ 99) ∧ (0 : Int) ≤ 0 ∧ (0 : Int) < ps.length := ⟨ht, hl, hw, by omega, by omega⟩
    refine ⟨T, ?_⟩
    rw [Int.toNat_zero]
    refine loop_intro (fun x : Nat => [(6, .int .i64 (wtT ps ws 0)), (7, .int .i64 x), (0, .ints ps), (1, .ints ws)]) (fun _ => []) 0 (fun x => x ≤ ps.length ∧ ∀ j, j < x → majP ps ws j = false) (fun x => ps.length - x) 0 ⟨by omega, fun j h => absurd h (Nat.not_lt_zero _)⟩ (Nat.zero_le _) ?_ ?_
    · simp only [go_sem, cond_true, cond_false, ↓reduceIte, Nat.reduceEqDiff, Nat.reduceBEq, List.map_cons, List.map_nil, List.append_nil, List.cons_append, List.nil_append, true_and, and_true, Nat.reduceAdd, Nat.reduceSub, Nat.zero_add, Nat.add_zero, List.drop_zero, List.drop_succ_cons, List.take_succ_cons, List.take_zero, List.all_cons, List.all_nil, Bool.and_true, Bool.true_and, Bool.and_false, Bool.false_and, Bool.or_true, Bool.true_or, Bool.or_false, Bool.false_or, Bool.not_false, Bool.not_true, Option.getD_some, List.length_cons, List.length_nil, Nat.reduceLeDiff, Option.isSome_none, Option.isSome_some, Nat.reduceMul, eq_self, exists_const, List.toList_toArray, partB_true, partB_false, RK_i64, RK_u64, RK_u8, LoopEnd, List.getElem?_cons_zero, List.getElem?_cons_succ, List.getElem?_nil, Nat.sub_zero, Nat.le_refl, Int.toNat_natCast, List.set_cons_zero, List.set_cons_succ, List.getD_cons_zero, List.getD_cons_succ, Nat.sub_self, Option.map_some, Option.map_none]
      repeat' (first | refine fork_intro (fun hb => ?_) (fun hb => ?_) | refine partB_intro (fun hb => ?_) (fun hb => ?_) | refine And.intro ?_ ?_)
      all_goals first | exact True.intro | omega | with_reducible rfl | exact congrArg (AV.int _) (by omega)
    · rintro x ⟨hx, hf⟩
      have wx := wtT_bd hw n7 x
      simp only [go_sem, cond_true, cond_false, ↓reduceIte, Nat.reduceEqDiff, Nat.reduceBEq, List.map_cons, List.map_nil, List.append_nil, List.cons_append, List.nil_append, true_and, and_true, Nat.reduceAdd, Nat.reduceSub, Nat.zero_add, Nat.add_zero, List.drop_zero, List.drop_succ_cons, List.take_succ_cons, List.take_zero, List.all_cons, List.all_nil, Bool.and_true, Bool.true_and, Bool.and_false, Bool.false_and, Bool.or_true, Bool.true_or, Bool.or_false, Bool.false_or, Bool.not_false, Bool.not_true, Option.getD_some, List.length_cons, List.length_nil, Nat.reduceLeDiff, Option.isSome_none, Option.isSome_some, Nat.reduceMul, eq_self, exists_const, List.toList_toArray, partB_true, partB_false, RK_i64, RK_u64, RK_u8, LoopEnd, List.getElem?_cons_zero, List.getElem?_cons_succ, List.getElem?_nil, Nat.sub_zero, Nat.le_refl, Int.toNat_natCast, List.set_cons_zero, List.set_cons_succ, List.getD_cons_zero, List.getD_cons_succ, Nat.sub_self, Option.map_some, Option.map_none]
      refine fork_intro (fun hb => ?_) (fun hb => ?_)
      · have hm0 := mostT_start (ps := ps) (ws := ws) ht (x := x) (x + 1) (by omega) (by omega)
        have hm1 : mostT ps ws x 0 = wtT ps ws 0 - wtT ps ws x := rfl
        refine ⟨⟨ht, hl, hw, by omega, by omega⟩, by omega, by omega, ?_⟩
        refine loop_intro (fun y : Nat => [(8, .int .i64 (mostT ps ws x y)), (9, .int .i64 y), (6, .int .i64 (wtT ps ws 0)), (7, .int .i64 x), (0, .ints ps), (1, .ints ws)]) (fun _ => []) 0 (fun y => x + 1 ≤ y ∧ y ≤ ps.length) (fun y => ps.length - y) (x + 1) ⟨by omega, by omega⟩ (Nat.zero_le _) ?_ ?_
        · simp only [go_sem, cond_true, cond_false, ↓reduceIte, Nat.reduceEqDiff, Nat.reduceBEq, List.map_cons, List.map_nil, List.append_nil, List.cons_append, List.nil_append, true_and, and_true, Nat.reduceAdd, Nat.reduceSub, Nat.zero_add, Nat.add_zero, List.drop_zero, List.drop_succ_cons, List.take_succ_cons, List.take_zero, List.all_cons, List.all_nil, Bool.and_true, Bool.true_and, Bool.and_false, Bool.false_and, Bool.or_true, Bool.true_or, Bool.or_false, Bool.false_or, Bool.not_false, Bool.not_true, Option.getD_some, List.length_cons, List.length_nil, Nat.reduceLeDiff, Option.isSome_none, Option.isSome_some, Nat.reduceMul, eq_self, exists_const, List.toList_toArray, partB_true, partB_false, RK_i64, RK_u64, RK_u8, LoopEnd, List.getElem?_cons_zero, List.getElem?_cons_succ, List.getElem?_nil, Nat.sub_zero, Nat.le_refl, Int.toNat_natCast, List.set_cons_zero, List.set_cons_succ, List.getD_cons_zero, List.getD_cons_succ, Nat.sub_self, Option.map_some, Option.map_none]
          repeat' (first | refine fork_intro (fun hb => ?_) (fun hb => ?_) | refine partB_intro (fun hb => ?_) (fun hb => ?_) | refine And.intro ?_ ?_)
          all_goals first | exact True.intro | omega | with_reducible rfl | exact congrArg (AV.int _) (by omega)
        · rintro y ⟨hy1, hy2⟩
          have hmb := mostT_bd hw n7 x y
          simp only [go_sem, cond_true, cond_false, ↓reduceIte, Nat.reduceEqDiff, Nat.reduceBEq, List.map_cons, List.map_nil, List.append_nil, List.cons_append, List.nil_append, true_and, and_true, Nat.reduceAdd, Nat.reduceSub, Nat.zero_add, Nat.add_zero, List.drop_zero, List.drop_succ_cons, List.take_succ_cons, List.take_zero, List.all_cons, List.all_nil, Bool.and_true, Bool.true_and, Bool.and_false, Bool.false_and, Bool.or_true, Bool.true_or, Bool.or_false, Bool.false_or, Bool.not_false, Bool.not_true, Option.getD_some, List.length_cons, List.length_nil, Nat.reduceLeDiff, Option.isSome_none, Option.isSome_some, Nat.reduceMul, eq_self, exists_const, List.toList_toArray, partB_true, partB_false, RK_i64, RK_u64, RK_u8, LoopEnd, List.getElem?_cons_zero, List.getElem?_cons_succ, List.getElem?_nil, Nat.sub_zero, Nat.le_refl, Int.toNat_natCast, List.set_cons_zero, List.set_cons_succ, List.getD_cons_zero, List.getD_cons_succ, Nat.sub_self, Option.map_some, Option.map_none]
          refine fork_intro (fun hc => ?_) (fun hc => ?_)
          · have hn : mostT ps ws x (y + 1) = if ix ps (y : Int) = x then max (mostT ps ws x y) (wtT ps ws y) else mostT ps ws x y := rfl
            refine ⟨by omega, fork_intro (fun hd => ?_) (fun hd => ?_)⟩
            · rw [if_pos hd] at hn
              refine ⟨⟨ht, hl, hw, by omega, by omega⟩, ?_⟩
              repeat' (first | refine fork_intro (fun hb => ?_) (fun hb => ?_) | refine partB_intro (fun hb => ?_) (fun hb => ?_) | refine And.intro ?_ ?_)
              all_goals first | exact True.intro | omega | with_reducible rfl | exact congrArg (AV.int _) (by omega) | (refine LoopEnd.intro (y + 1) (by first | omega) (by first | omega | (dsimp only; omega)) (by omega) ?_; simp only [go_sem, cond_true, cond_false, ↓reduceIte, Nat.reduceEqDiff, Nat.reduceBEq, List.map_cons, List.map_nil, List.append_nil, List.cons_append, List.nil_append, true_and, and_true, Nat.reduceAdd, Nat.reduceSub, Nat.zero_add, Nat.add_zero, List.drop_zero, List.drop_succ_cons, List.take_succ_cons, List.take_zero, List.all_cons, List.all_nil, Bool.and_true, Bool.true_and, Bool.and_false, Bool.false_and, Bool.or_true, Bool.true_or, Bool.or_false, Bool.false_or, Bool.not_false, Bool.not_true, Option.getD_some, List.length_cons, List.length_nil, Nat.reduceLeDiff, Option.isSome_none, Option.isSome_some, Nat.reduceMul, eq_self, exists_const, List.toList_toArray, partB_true, partB_false, RK_i64, RK_u64, RK_u8, LoopEnd, List.getElem?_cons_zero, List.getElem?_cons_succ, List.getElem?_nil, Nat.sub_zero, Nat.le_refl, Int.toNat_natCast, List.set_cons_zero, List.set_cons_succ, List.getD_cons_zero, List.getD_cons_succ, Nat.sub_self, Option.map_some, Option.map_none]; (repeat' (first | refine fork_intro (fun hb => ?_) (fun hb => ?_) | refine partB_intro (fun hb => ?_) (fun hb => ?_) | refine And.intro ?_ ?_)); all_goals first | exact True.intro | omega | with_reducible rfl | exact congrArg (AV.int _) (by omega))
            · rw [if_neg hd] at hn
              repeat' (first | refine fork_intro (fun hb => ?_) (fun hb => ?_) | refine partB_intro (fun hb => ?_) (fun hb => ?_) | refine And.intro ?_ ?_)
              all_goals first | exact True.intro | omega | with_reducible rfl | exact congrArg (AV.int _) (by omega) | (refine LoopEnd.intro (y + 1) (by first | omega) (by first | omega | (dsimp only; omega)) (by omega) ?_; simp only [go_sem, cond_true, cond_false, ↓reduceIte, Nat.reduceEqDiff, Nat.reduceBEq, List.map_cons, List.map_nil, List.append_nil, List.cons_append, List.nil_append, true_and, and_true, Nat.reduceAdd, Nat.reduceSub, Nat.zero_add, Nat.add_zero, List.drop_zero, List.drop_succ_cons, List.take_succ_cons, List.take_zero, List.all_cons, List.all_nil, Bool.and_true, Bool.true_and, Bool.and_false, Bool.false_and, Bool.or_true, Bool.true_or, Bool.or_false, Bool.false_or, Bool.not_false, Bool.not_true, Option.getD_some, List.length_cons, List.length_nil, Nat.reduceLeDiff, Option.isSome_none, Option.isSome_some, Nat.reduceMul, eq_self, exists_const, List.toList_toArray, partB_true, partB_false, RK_i64, RK_u64, RK_u8, LoopEnd, List.getElem?_cons_zero, List.getElem?_cons_succ, List.getElem?_nil, Nat.sub_zero, Nat.le_refl, Int.toNat_natCast, List.set_cons_zero, List.set_cons_succ, List.getD_cons_zero, List.getD_cons_succ, Nat.sub_self, Option.map_some, Option.map_none]; (repeat' (first | refine fork_intro (fun hb => ?_) (fun hb => ?_) | refine partB_intro (fun hb => ?_) (fun hb => ?_) | refine And.intro ?_ ?_)); all_goals first | exact True.intro | omega | with_reducible rfl | exact congrArg (AV.int _) (by omega))
          · have hyl : y = ps.length := by omega
            have hmp : majP ps ws x = decide (2 * mostT ps ws x y ≤ wtT ps ws 0) := by unfold majP; rw [hyl]
            refine ⟨by omega, fork_intro (fun hd => ?_) (fun hd => ?_)⟩
            · have hfs := fst_some (p := majP ps ws) (n := ps.length) (k := x) (by omega) (by rw [hmp]; exact decide_eq_true hd) hf
              have e1 : majI ps ws = x := by unfold majI; rw [hfs]
              have e2 : majB ps ws = true := by unfold majB; rw [hfs]; rfl
              rw [hok, if_pos rfl, e1, e2]; exact ⟨rfl, rfl⟩
            · have hff : ∀ j, j < x + 1 → majP ps ws j = false := fun j hj => by
                rcases Nat.lt_succ_iff_lt_or_eq.1 hj with h1 | h1
                · exact hf j h1
                · subst h1; rw [hmp]; exact decide_eq_false hd
              repeat' (first | refine fork_intro (fun hb => ?_) (fun hb => ?_) | refine partB_intro (fun hb => ?_) (fun hb => ?_) | refine And.intro ?_ ?_)
              all_goals first | exact True.intro | omega | with_reducible rfl | exact congrArg (AV.int _) (by omega) | (refine LoopEnd.intro (x + 1) (by first | omega | (exact ⟨by omega, hff⟩)) (by first | omega | (dsimp only; omega)) (by omega) ?_; simp only [go_sem, cond_true, cond_false, ↓reduceIte, Nat.reduceEqDiff, Nat.reduceBEq, List.map_cons, List.map_nil, List.append_nil, List.cons_append, List.nil_append, true_and, and_true, Nat.reduceAdd, Nat.reduceSub, Nat.zero_add, Nat.add_zero, List.drop_zero, List.drop_succ_cons, List.take_succ_cons, List.take_zero, List.all_cons, List.all_nil, Bool.and_true, Bool.true_and, Bool.and_false, Bool.false_and, Bool.or_true, Bool.true_or, Bool.or_false, Bool.false_or, Bool.not_false, Bool.not_true, Option.getD_some, List.length_cons, List.length_nil, Nat.reduceLeDiff, Option.isSome_none, Option.isSome_some, Nat.reduceMul, eq_self, exists_const, List.toList_toArray, partB_true, partB_false, RK_i64, RK_u64, RK_u8, LoopEnd, List.getElem?_cons_zero, List.getElem?_cons_succ, List.getElem?_nil, Nat.sub_zero, Nat.le_refl, Int.toNat_natCast, List.set_cons_zero, List.set_cons_succ, List.getD_cons_zero, List.getD_cons_succ, Nat.sub_self, Option.map_some, Option.map_none]; (repeat' (first | refine fork_intro (fun hb => ?_) (fun hb => ?_) | refine partB_intro (fun hb => ?_) (fun hb => ?_) | refine And.intro ?_ ?_)); all_goals first | exact True.intro | omega | with_reducible rfl | exact congrArg (AV.int _) (by omega))
      · have hfn := fst_none (p := majP ps ws) (n := ps.length) (fun j hj => hf j (by omega))
        have e1 : majI ps ws = 0 := by unfold majI; rw [hfn]
        have e2 : majB ps ws = false := by unfold majB; rw [hfn]; rfl
        rw [hok, if_pos rfl, e1, e2]; exact ⟨rfl, rfl⟩
  · have hok : majOK ps ws = false := by unfold majOK; rw [h2, Bool.and_false]
    rw [hok]; exact ⟨rfl, rfl⟩
  · have hok : majOK ps ws = false := by unfold majOK; rw [h1, Bool.false_and]
    rw [hok]; exact ⟨rfl, rfl⟩
def t_majS : Table := [(19, pureC g_majS)]
theorem t_majS_ok : TabOK Try.prog t_majS := .cons Try.func19 (by kernel_rfl) (.pure (by intro args hp; unfold g_majS at hp ⊢; split at hp <;> first | exact hp.elim | exact majS_ok _ _ hp)) (.nil _)
attribute [go_sem] g_majS_eq t_majS
def g_majI : List AV → Prop × AV
  | [.ints ps, .ints ws] => (ps.length ≤ 1048576000 ∧ ws.length ≤ 1048576000, .tup [.int .i64 (if majOK ps ws = true then majI ps ws else 0), .bool (majOK ps ws && majB ps ws)])
  | _ => (False, .undef)
theorem g_majI_eq (ps ws : List Int) : g_majI [.ints ps, .ints ws] = (ps.length ≤ 1048576000 ∧ ws.length ≤ 1048576000, .tup [.int .i64 (if majOK ps ws = true then majI ps ws else 0), .bool (majOK ps ws && majB ps ws)]) := (rfl)
theorem majI_ok (ps ws : List Int) (hp : ps.length ≤ 1048576000 ∧ ws.length ≤ 1048576000) : SpecOK Try.prog 21 [.ints ps, .ints ws] (.tup [.int .i64 (if majOK ps ws = true then majI ps ws else 0), .bool (majOK ps ws && majB ps ws)]) [] := by
  refine fun_ok (C := t_treeI ++ t_areBtw ++ t_cloneI) (hint := hintX [28] [] 0 [] []) (((t_treeI_ok).append t_areBtw_ok).append t_cloneI_ok) mixed Try.func21 rfl (by kernel_rfl) rfl ?_
  show codeA _ _ _ _ _ _ _ _
  simp only [go_sem, cond_true, cond_false, ↓reduceIte, Nat.reduceEqDiff, Nat.reduceBEq, List.map_cons, List.map_nil, List.append_nil, List.cons_append, List.nil_append, true_and, and_true, Nat.reduceAdd, Nat.reduceSub, Nat.zero_add, Nat.add_zero, List.drop_zero, List.drop_succ_cons, List.take_succ_cons, List.take_zero, List.all_cons, List.all_nil, Bool.and_true, Bool.true_and, Bool.and_false, Bool.false_and, Bool.or_true, Bool.true_or, Bool.or_false, Bool.false_or, Bool.not_false, Bool.not_true, Option.getD_some, List.length_cons, List.length_nil, Nat.reduceLeDiff, Option.isSome_none, Option.isSome_some, Nat.reduceMul, eq_self, exists_const, List.toList_toArray, partB_true, partB_false, RK_i64, RK_u64, RK_u8, LoopEnd, List.getElem?_cons_zero, List.getElem?_cons_succ, List.getElem?_nil, Nat.sub_zero, Nat.le_refl, Int.toNat_natCast, List.set_cons_zero, List.set_cons_succ, List.getD_cons_zero, List.getD_cons_succ, Nat.sub_self, Option.map_some, Option.map_none, Try.results21]
  have hno : tree ps = false ∨ (ws.length : Int) ≠ ps.length ∨ rowOK 99 ws = false → majOK ps ws = false := fun h => by
    unfold majOK
    rcases h with h | h | h
    · rw [h, Bool.false_and]
    · rw [decide_eq_false h, Bool.and_false, Bool.and_false]
    · rw [h, Bool.false_and, Bool.and_false]
  refine ⟨hp.1, partB_intro (fun h1 => fork_intro (fun h2 => ⟨hp.2, partB_intro (fun h3 => ?_) (fun h3 => ?_)⟩) (fun h2 => ?_)) (fun h1 => ?_)⟩
  · have h3' : rowOK 99 ws = true := h3
    have hok : majOK ps ws = true := by unfold majOK; rw [h1, h3', decide_eq_true h2]; rfl
    have ht := tree_iff.1 h1
    have hl : ws.length = ps.length := by omega
    have hw : ∀ k : Nat, k < ps.length → 0 ≤ ix ws (k : Int) ∧ ix ws (k : Int) ≤ 99 := fun k hk => rowOK_iff.1 h3' _ (ix_mem ws (by omega))
    have n7 := ht.n7
    have n1 := ht.n1
    refine ⟨hp.2, by omega, ?_⟩
    refine loop_intro (fun x : Nat => [(6, .sl 0), (7, .int .i64 x), (0, .ints ps)]) (fun x => [(0, .arr (.ints (belowL ps ws x)))]) 1 (fun x => x < ps.length) (fun x => x) (ps.length - 1) (by omega) (Nat.zero_le _) ?_ ?_
    · simp only [go_sem, cond_true, cond_false, ↓reduceIte, Nat.reduceEqDiff, Nat.reduceBEq, List.map_cons, List.map_nil, List.append_nil, List.cons_append, List.nil_append, true_and, and_true, Nat.reduceAdd, Nat.reduceSub, Nat.zero_add, Nat.add_zero, List.drop_zero, List.drop_succ_cons, List.take_succ_cons, List.take_zero, List.all_cons, List.all_nil, Bool.and_true, Bool.true_and, Bool.and_false, Bool.false_and, Bool.or_true, Bool.true_or, Bool.or_false, Bool.false_or, Bool.not_false, Bool.not_true, Option.getD_some, List.length_cons, List.length_nil, Nat.reduceLeDiff, Option.isSome_none, Option.isSome_some, Nat.reduceMul, eq_self, exists_const, List.toList_toArray, partB_true, partB_false, RK_i64, RK_u64, RK_u8, LoopEnd, List.getElem?_cons_zero, List.getElem?_cons_succ, List.getElem?_nil, Nat.sub_zero, Nat.le_refl, Int.toNat_natCast, List.set_cons_zero, List.set_cons_succ, List.getD_cons_zero, List.getD_cons_succ, Nat.sub_self, Option.map_some, Option.map_none, belowL_first ht hl]
      repeat' (first | refine fork_intro (fun hb => ?_) (fun hb => ?_) | refine partB_intro (fun hb => ?_) (fun hb => ?_) | refine And.intro ?_ ?_)
      all_goals first | exact True.intro | omega | with_reducible rfl | exact congrArg (AV.int _) (by omega)
    · intro x hx
      have hbl := belowL_len ps ws x
      simp only [go_sem, cond_true, cond_false, ↓reduceIte, Nat.reduceEqDiff, Nat.reduceBEq, List.map_cons, List.map_nil, List.append_nil, List.cons_append, List.nil_append, true_and, and_true, Nat.reduceAdd, Nat.reduceSub, Nat.zero_add, Nat.add_zero, List.drop_zero, List.drop_succ_cons, List.take_succ_cons, List.take_zero, List.all_cons, List.all_nil, Bool.and_true, Bool.true_and, Bool.and_false, Bool.false_and, Bool.or_true, Bool.true_or, Bool.or_false, Bool.false_or, Bool.not_false, Bool.not_true, Option.getD_some, List.length_cons, List.length_nil, Nat.reduceLeDiff, Option.isSome_none, Option.isSome_some, Nat.reduceMul, eq_self, exists_const, List.toList_toArray, partB_true, partB_false, RK_i64, RK_u64, RK_u8, LoopEnd, List.getElem?_cons_zero, List.getElem?_cons_succ, List.getElem?_nil, Nat.sub_zero, Nat.le_refl, Int.toNat_natCast, List.set_cons_zero, List.set_cons_succ, List.getD_cons_zero, List.getD_cons_succ, Nat.sub_self, Option.map_some, Option.map_none]
      refine fork_intro (fun hb => ?_) (fun hb => ?_)
      · have hpx := ht.par x hx (by omega)
        have hfs := belowL_next (ws := ws) ht (x := x) (by omega) hx
        have i1 := belowL_ix (ws := ws) (x := x) hx
        have i2 := belowL_ix (ps := ps) (ws := ws) (x := x) (v := (ix ps (x : Int)).toNat) (by omega)
        rw [show (((ix ps (x : Int)).toNat : Nat) : Int) = ix ps (x : Int) by omega] at i2
        have b1 := below_bd hw n7 x x
        have b2 := below_bd hw n7 x (ix ps (x : Int)).toNat
        repeat' (first | refine fork_intro (fun hb => ?_) (fun hb => ?_) | refine partB_intro (fun hb => ?_) (fun hb => ?_) | refine And.intro ?_ ?_)
        all_goals first | exact True.intro | omega | with_reducible rfl | exact congrArg (AV.int _) (by omega) | (refine LoopEnd.intro (x - 1) (by first | omega) (by first | omega | (dsimp only; omega)) (by omega) ?_; simp only [go_sem, cond_true, cond_false, ↓reduceIte, Nat.reduceEqDiff, Nat.reduceBEq, List.map_cons, List.map_nil, List.append_nil, List.cons_append, List.nil_append, true_and, and_true, Nat.reduceAdd, Nat.reduceSub, Nat.zero_add, Nat.add_zero, List.drop_zero, List.drop_succ_cons, List.take_succ_cons, List.take_zero, List.all_cons, List.all_nil, Bool.and_true, Bool.true_and, Bool.and_false, Bool.false_and, Bool.or_true, Bool.true_or, Bool.or_false, Bool.false_or, Bool.not_false, Bool.not_true, Option.getD_some, List.length_cons, List.length_nil, Nat.reduceLeDiff, Option.isSome_none, Option.isSome_some, Nat.reduceMul, eq_self, exists_const, List.toList_toArray, partB_true, partB_false, RK_i64, RK_u64, RK_u8, LoopEnd, List.getElem?_cons_zero, List.getElem?_cons_succ, List.getElem?_nil, Nat.sub_zero, Nat.le_refl, Int.toNat_natCast, List.set_cons_zero, List.set_cons_succ, List.getD_cons_zero, List.getD_cons_succ, Nat.sub_self, Option.map_some, Option.map_none, hfs]; (repeat' (first | refine fork_intro (fun hb => ?_) (fun hb => ?_) | refine partB_intro (fun hb => ?_) (fun hb => ?_) | refine And.intro ?_ ?_)); all_goals first | exact True.intro | omega | with_reducible rfl | exact congrArg (AV.int _) (by omega))
      · have hx0 : x = 0 := by omega
        subst hx0
        have W : ∀ v : Nat, v < ps.length → ix (belowL ps ws 0) (v : Int) = wtT ps ws v := fun v hv => by rw [belowL_ix hv, below_zero]
        have w0 := W 0 (by omega)
        rw [Int.natCast_zero] at w0
        have wb0 := wtT_bd hw n7 0
        refine loop_intro (fun x : Nat => [(51, .int .i64 x), (50, .int .i64 ps.length), (6, .sl 0), (0, .ints ps)]) (fun _ => [(0, .arr (.ints (belowL ps ws 0)))]) 1 (fun x => x ≤ ps.length ∧ ∀ j, j < x → majP ps ws j = false) (fun x => ps.length - x) 0 ⟨by omega, fun j h => absurd h (Nat.not_lt_zero _)⟩ (Nat.zero_le _) ?_ ?_
        · simp only [go_sem, cond_true, cond_false, ↓reduceIte, Nat.reduceEqDiff, Nat.reduceBEq, List.map_cons, List.map_nil, List.append_nil, List.cons_append, List.nil_append, true_and, and_true, Nat.reduceAdd, Nat.reduceSub, Nat.zero_add, Nat.add_zero, List.drop_zero, List.drop_succ_cons, List.take_succ_cons, List.take_zero, List.all_cons, List.all_nil, Bool.and_true, Bool.true_and, Bool.and_false, Bool.false_and, Bool.or_true, Bool.true_or, Bool.or_false, Bool.false_or, Bool.not_false, Bool.not_true, Option.getD_some, List.length_cons, List.length_nil, Nat.reduceLeDiff, Option.isSome_none, Option.isSome_some, Nat.reduceMul, eq_self, exists_const, List.toList_toArray, partB_true, partB_false, RK_i64, RK_u64, RK_u8, LoopEnd, List.getElem?_cons_zero, List.getElem?_cons_succ, List.getElem?_nil, Nat.sub_zero, Nat.le_refl, Int.toNat_natCast, List.set_cons_zero, List.set_cons_succ, List.getD_cons_zero, List.getD_cons_succ, Nat.sub_self, Option.map_some, Option.map_none]
          repeat' (first | refine fork_intro (fun hb => ?_) (fun hb => ?_) | refine partB_intro (fun hb => ?_) (fun hb => ?_) | refine And.intro ?_ ?_)
          all_goals first | exact True.intro | omega | with_reducible rfl | exact congrArg (AV.int _) (by omega)
        · rintro x ⟨hx, hf⟩
          have wx := wtT_bd hw n7 x
          simp only [go_sem, cond_true, cond_false, ↓reduceIte, Nat.reduceEqDiff, Nat.reduceBEq, List.map_cons, List.map_nil, List.append_nil, List.cons_append, List.nil_append, true_and, and_true, Nat.reduceAdd, Nat.reduceSub, Nat.zero_add, Nat.add_zero, List.drop_zero, List.drop_succ_cons, List.take_succ_cons, List.take_zero, List.all_cons, List.all_nil, Bool.and_true, Bool.true_and, Bool.and_false, Bool.false_and, Bool.or_true, Bool.true_or, Bool.or_false, Bool.false_or, Bool.not_false, Bool.not_true, Option.getD_some, List.length_cons, List.length_nil, Nat.reduceLeDiff, Option.isSome_none, Option.isSome_some, Nat.reduceMul, eq_self, exists_const, List.toList_toArray, partB_true, partB_false, RK_i64, RK_u64, RK_u8, LoopEnd, List.getElem?_cons_zero, List.getElem?_cons_succ, List.getElem?_nil, Nat.sub_zero, Nat.le_refl, Int.toNat_natCast, List.set_cons_zero, List.set_cons_succ, List.getD_cons_zero, List.getD_cons_succ, Nat.sub_self, Option.map_some, Option.map_none]
          refine fork_intro (fun hb => ?_) (fun hb => ?_)
          · have Wx := W x (by omega)
            refine ⟨by omega, by omega, by omega, ?_⟩
            refine loop_intro (fun y : Nat => [(64, .int .i64 y), (63, .int .i64 ps.length), (62, .ints ps), (9, .int .i64 (mostT ps ws x y)), (8, .int .i64 x), (51, .int .i64 x), (50, .int .i64 ps.length), (6, .sl 0), (0, .ints ps)]) (fun _ => [(0, .arr (.ints (belowL ps ws 0)))]) 1 (fun y => y ≤ ps.length) (fun y => ps.length - y) 0 (by omega) (Nat.zero_le _) ?_ ?_
            · have hm1 : mostT ps ws x 0 = wtT ps ws 0 - wtT ps ws x := rfl
              simp only [go_sem, cond_true, cond_false, ↓reduceIte, Nat.reduceEqDiff, Nat.reduceBEq, List.map_cons, List.map_nil, List.append_nil, List.cons_append, List.nil_append, true_and, and_true, Nat.reduceAdd, Nat.reduceSub, Nat.zero_add, Nat.add_zero, List.drop_zero, List.drop_succ_cons, List.take_succ_cons, List.take_zero, List.all_cons, List.all_nil, Bool.and_true, Bool.true_and, Bool.and_false, Bool.false_and, Bool.or_true, Bool.true_or, Bool.or_false, Bool.false_or, Bool.not_false, Bool.not_true, Option.getD_some, List.length_cons, List.length_nil, Nat.reduceLeDiff, Option.isSome_none, Option.isSome_some, Nat.reduceMul, eq_self, exists_const, List.toList_toArray, partB_true, partB_false, RK_i64, RK_u64, RK_u8, LoopEnd, List.getElem?_cons_zero, List.getElem?_cons_succ, List.getElem?_nil, Nat.sub_zero, Nat.le_refl, Int.toNat_natCast, List.set_cons_zero, List.set_cons_succ, List.getD_cons_zero, List.getD_cons_succ, Nat.sub_self, Option.map_some, Option.map_none]
              repeat' (first | refine fork_intro (fun hb => ?_) (fun hb => ?_) | refine partB_intro (fun hb => ?_) (fun hb => ?_) | refine And.intro ?_ ?_)
              all_goals first | exact True.intro | omega | with_reducible rfl | exact congrArg (AV.int _) (by omega)
            · intro y hy
              have hmb := mostT_bd hw n7 x y
              simp only [go_sem, cond_true, cond_false, ↓reduceIte, Nat.reduceEqDiff, Nat.reduceBEq, List.map_cons, List.map_nil, List.append_nil, List.cons_append, List.nil_append, true_and, and_true, Nat.reduceAdd, Nat.reduceSub, Nat.zero_add, Nat.add_zero, List.drop_zero, List.drop_succ_cons, List.take_succ_cons, List.take_zero, List.all_cons, List.all_nil, Bool.and_true, Bool.true_and, Bool.and_false, Bool.false_and, Bool.or_true, Bool.true_or, Bool.or_false, Bool.false_or, Bool.not_false, Bool.not_true, Option.getD_some, List.length_cons, List.length_nil, Nat.reduceLeDiff, Option.isSome_none, Option.isSome_some, Nat.reduceMul, eq_self, exists_const, List.toList_toArray, partB_true, partB_false, RK_i64, RK_u64, RK_u8, LoopEnd, List.getElem?_cons_zero, List.getElem?_cons_succ, List.getElem?_nil, Nat.sub_zero, Nat.le_refl, Int.toNat_natCast, List.set_cons_zero, List.set_cons_succ, List.getD_cons_zero, List.getD_cons_succ, Nat.sub_self, Option.map_some, Option.map_none]
              refine fork_intro (fun hc => ?_) (fun hc => ?_)
              · have hn : mostT ps ws x (y + 1) = if ix ps (y : Int) = x then max (mostT ps ws x y) (wtT ps ws y) else mostT ps ws x y := rfl
                have Wy := W y (by omega)
                refine ⟨by omega, fork_intro (fun hd => ?_) (fun hd => ?_)⟩
                · rw [if_pos hd] at hn
                  repeat' (first | refine fork_intro (fun hb => ?_) (fun hb => ?_) | refine partB_intro (fun hb => ?_) (fun hb => ?_) | refine And.intro ?_ ?_)
                  all_goals first | exact True.intro | omega | with_reducible rfl | exact congrArg (AV.int _) (by omega) | (refine LoopEnd.intro (y + 1) (by first | omega) (by first | omega | (dsimp only; omega)) (by omega) ?_; simp only [go_sem, cond_true, cond_false, ↓reduceIte, Nat.reduceEqDiff, Nat.reduceBEq, List.map_cons, List.map_nil, List.append_nil, List.cons_append, List.nil_append, true_and, and_true, Nat.reduceAdd, Nat.reduceSub, Nat.zero_add, Nat.add_zero, List.drop_zero, List.drop_succ_cons, List.take_succ_cons, List.take_zero, List.all_cons, List.all_nil, Bool.and_true, Bool.true_and, Bool.and_false, Bool.false_and, Bool.or_true, Bool.true_or, Bool.or_false, Bool.false_or, Bool.not_false, Bool.not_true, Option.getD_some, List.length_cons, List.length_nil, Nat.reduceLeDiff, Option.isSome_none, Option.isSome_some, Nat.reduceMul, eq_self, exists_const, List.toList_toArray, partB_true, partB_false, RK_i64, RK_u64, RK_u8, LoopEnd, List.getElem?_cons_zero, List.getElem?_cons_succ, List.getElem?_nil, Nat.sub_zero, Nat.le_refl, Int.toNat_natCast, List.set_cons_zero, List.set_cons_succ, List.getD_cons_zero, List.getD_cons_succ, Nat.sub_self, Option.map_some, Option.map_none]; (repeat' (first | refine fork_intro (fun hb => ?_) (fun hb => ?_) | refine partB_intro (fun hb => ?_) (fun hb => ?_) | refine And.intro ?_ ?_)); all_goals first | exact True.intro | omega | with_reducible rfl | exact congrArg (AV.int _) (by omega))
                · rw [if_neg hd] at hn
                  repeat' (first | refine fork_intro (fun hb => ?_) (fun hb => ?_) | refine partB_intro (fun hb => ?_) (fun hb => ?_) | refine And.intro ?_ ?_)
                  all_goals first | exact True.intro | omega | with_reducible rfl | exact congrArg (AV.int _) (by omega) | (refine LoopEnd.intro (y + 1) (by first | omega) (by first | omega | (dsimp only; omega)) (by omega) ?_; simp only [go_sem, cond_true, cond_false, ↓reduceIte, Nat.reduceEqDiff, Nat.reduceBEq, List.map_cons, List.map_nil, List.append_nil, List.cons_append, List.nil_append, true_and, and_true, Nat.reduceAdd, Nat.reduceSub, Nat.zero_add, Nat.add_zero, List.drop_zero, List.drop_succ_cons, List.take_succ_cons, List.take_zero, List.all_cons, List.all_nil, Bool.and_true, Bool.true_and, Bool.and_false, Bool.false_and, Bool.or_true, Bool.true_or, Bool.or_false, Bool.false_or, Bool.not_false, Bool.not_true, Option.getD_some, List.length_cons, List.length_nil, Nat.reduceLeDiff, Option.isSome_none, Option.isSome_some, Nat.reduceMul, eq_self, exists_const, List.toList_toArray, partB_true, partB_false, RK_i64, RK_u64, RK_u8, LoopEnd, List.getElem?_cons_zero, List.getElem?_cons_succ, List.getElem?_nil, Nat.sub_zero, Nat.le_refl, Int.toNat_natCast, List.set_cons_zero, List.set_cons_succ, List.getD_cons_zero, List.getD_cons_succ, Nat.sub_self, Option.map_some, Option.map_none]; (repeat' (first | refine fork_intro (fun hb => ?_) (fun hb => ?_) | refine partB_intro (fun hb => ?_) (fun hb => ?_) | refine And.intro ?_ ?_)); all_goals first | exact True.intro | omega | with_reducible rfl | exact congrArg (AV.int _) (by omega))
              · have hyl : y = ps.length := by omega
                have hmp : majP ps ws x = decide (2 * mostT ps ws x y ≤ wtT ps ws 0) := by unfold majP; rw [hyl]
                refine ⟨by omega, by omega, fork_intro (fun hd => ?_) (fun hd => ?_)⟩
                · have hfs := fst_some (p := majP ps ws) (n := ps.length) (k := x) (by omega) (by rw [hmp]; exact decide_eq_true (by omega)) hf
                  have e1 : majI ps ws = x := by unfold majI; rw [hfs]
                  have e2 : majB ps ws = true := by unfold majB; rw [hfs]; rfl
                  rw [hok, if_pos rfl, e1, e2]; exact ⟨rfl, rfl⟩
                · have hff : ∀ j, j < x + 1 → majP ps ws j = false := fun j hj => by
                    rcases Nat.lt_succ_iff_lt_or_eq.1 hj with h1 | h1
                    · exact hf j h1
                    · subst h1; rw [hmp]; exact decide_eq_false (by omega)
                  repeat' (first | refine fork_intro (fun hb => ?_) (fun hb => ?_) | refine partB_intro (fun hb => ?_) (fun hb => ?_) | refine And.intro ?_ ?_)
                  all_goals first | exact True.intro | omega | with_reducible rfl | exact congrArg (AV.int _) (by omega) | (refine LoopEnd.intro (x + 1) (by first | omega | (exact ⟨by omega, hff⟩)) (by first | omega | (dsimp only; omega)) (by omega) ?_; simp only [go_sem, cond_true, cond_false, ↓reduceIte, Nat.reduceEqDiff, Nat.reduceBEq, List.map_cons, List.map_nil, List.append_nil, List.cons_append, List.nil_append, true_and, and_true, Nat.reduceAdd, Nat.reduceSub, Nat.zero_add, Nat.add_zero, List.drop_zero, List.drop_succ_cons, List.take_succ_cons, List.take_zero, List.all_cons, List.all_nil, Bool.and_true, Bool.true_and, Bool.and_false, Bool.false_and, Bool.or_true, Bool.true_or, Bool.or_false, Bool.false_or, Bool.not_false, Bool.not_true, Option.getD_some, List.length_cons, List.length_nil, Nat.reduceLeDiff, Option.isSome_none, Option.isSome_some, Nat.reduceMul, eq_self, exists_const, List.toList_toArray, partB_true, partB_false, RK_i64, RK_u64, RK_u8, LoopEnd, List.getElem?_cons_zero, List.getElem?_cons_succ, List.getElem?_nil, Nat.sub_zero, Nat.le_refl, Int.toNat_natCast, List.set_cons_zero, List.set_cons_succ, List.getD_cons_zero, List.getD_cons_succ, Nat.sub_self, Option.map_some, Option.map_none]; (repeat' (first | refine fork_intro (fun hb => ?_) (fun hb => ?_) | refine partB_intro (fun hb => ?_) (fun hb => ?_) | refine And.intro ?_ ?_)); all_goals first | exact True.intro | omega | with_reducible rfl | exact congrArg (AV.int _) (by omega))
          · have hfn := fst_none (p := majP ps ws) (n := ps.length) (fun j hj => hf j (by omega))
            have e1 : majI ps ws = 0 := by unfold majI; rw [hfn]
            have e2 : majB ps ws = false := by unfold majB; rw [hfn]; rfl
            rw [hok, if_pos rfl, e1, e2]; exact ⟨rfl, rfl⟩
  · rw [hno (.inr (.inr h3))]; exact ⟨rfl, rfl⟩
  · rw [hno (.inr (.inl h2))]; exact ⟨rfl, rfl⟩
  · rw [hno (.inl h1)]; exact ⟨rfl, rfl⟩
def t_majI : Table := [(21, pureC g_majI)]
theorem t_majI_ok : TabOK Try.prog t_majI := .cons Try.func21 (by kernel_rfl) (.pure (by intro args hp; unfold g_majI at hp ⊢; split at hp <;> first | exact hp.elim | exact majI_ok _ _ hp)) (.nil _)
attribute [go_sem] g_majI_eq t_majI
end Go.Proofs.Ytaoenbfmhdconaa
