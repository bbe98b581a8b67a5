/- Trees: both packages say the same. -/
import Derived.Test.YtpkmpmlgkhlgoaaA3
import Derived.Test.YtpkmpmlgkhlgoaaPlT
namespace Go.Proofs.Ytpkmpmlgkhlgoaa
open Go.Vc
set_option maxRecDepth 100000
set_option linter.unusedSimpArgs false
set_option linter.unusedVariables false

def treeP (ps : List Int) (k : Nat) : Prop := (k = 0 → ix ps 0 = -1) ∧ (0 < k → 0 ≤ ix ps (k : Int) ∧ ix ps (k : Int) < k)
theorem treeP_no {ps : List Int} {k : Nat} (hk : k < ps.length) (h : ¬ treeP ps k) : tree ps = false := by
  cases ht : tree ps with
  | false => rfl
  | true =>
    have := tree_iff.1 ht
    exact (h ⟨fun _ => this.root, fun h0 => this.par k hk h0⟩).elim
theorem treeP_all {ps : List Int} (h : ∀ k, k < ps.length → treeP ps k) : tree ps = decide (1 ≤ (ps.length : Int) ∧ (ps.length : Int) ≤ 7) := by
  unfold tree
  apply decide_eq_decide.2
  refine ⟨fun h1 => by omega, fun h1 => ⟨by omega, (h 0 (by omega)).1 rfl, fun k hk h0 => (h k hk).2 h0⟩⟩
theorem treeP_next {ps : List Int} {k : Nat} (h : ∀ j, j < k → treeP ps j) (hk : treeP ps k) : ∀ j, j < k + 1 → treeP ps j := by
  intro j hj
  rcases Nat.lt_succ_iff_lt_or_eq.1 hj with h1 | h1
  · exact h j h1
  · subst h1; exact hk
def g_treeS : List AV → Prop × AV
  | [.ints ps] => (ps.length ≤ 1048576000, .bool (tree ps))
  | _ => (False, .undef)
theorem g_treeS_eq (ps : List Int) : g_treeS [.ints ps] = (ps.length ≤ 1048576000, .bool (tree ps)) := (rfl)
theorem treeS_ok (ps : List Int) (hp : ps.length ≤ 1048576000) : SpecOK Try.prog 68 [.ints ps] (.bool (tree ps)) [] := by
  refine fun_ok (C := t_l1In) (hint := hintX [] [] 0 [] [] [] []) (t_l1In_ok) mixed Try.func68 rfl (by kernel_rfl) rfl ?_
  show codeA _ _ _ _ _ _ _ _
  simp only [go_sem, cond_true, cond_false, ↓reduceIte, Nat.reduceEqDiff, Nat.reduceBEq, List.map_cons, List.map_nil, List.append_nil, List.cons_append, List.nil_append, true_and, and_true, Nat.reduceAdd, Nat.reduceSub, Nat.zero_add, Nat.add_zero, List.drop_zero, List.drop_succ_cons, List.take_succ_cons, List.take_zero, List.all_cons, List.all_nil, Bool.and_true, Bool.true_and, Bool.and_false, Bool.false_and, Bool.or_true, Bool.true_or, Bool.or_false, Bool.false_or, Bool.not_false, Bool.not_true, Option.getD_some, List.length_cons, List.length_nil, Nat.reduceLeDiff, Option.isSome_none, Option.isSome_some, Nat.reduceMul, eq_self, exists_const, List.toList_toArray, partB_true, partB_false, RK_i64, RK_u64, RK_u8, LoopEnd, List.getElem?_cons_zero, List.getElem?_cons_succ, List.getElem?_nil, Nat.sub_zero, Nat.le_refl, Int.toNat_natCast, List.set_cons_zero, List.set_cons_succ, List.getD_cons_zero, List.getD_cons_succ, Nat.sub_self, Option.map_some, Option.map_none, List.length_append, Nat.reduceLT, Try.results68]
  refine loop_intro (fun k : Nat => [(3, .int .i64 k), (0, .ints ps)]) (fun _ => []) 0 (fun k => k ≤ ps.length ∧ ∀ j : Nat, j < k → treeP ps j) (fun k => ps.length - k) 0 ⟨Nat.zero_le _, fun j h => absurd h (Nat.not_lt_zero _)⟩ (Nat.zero_le _) ?_ ?_
  · simp only [go_sem, cond_true, cond_false, ↓reduceIte, Nat.reduceEqDiff, Nat.reduceBEq, List.map_cons, List.map_nil, List.append_nil, List.cons_append, List.nil_append, true_and, and_true, Nat.reduceAdd, Nat.reduceSub, Nat.zero_add, Nat.add_zero, List.drop_zero, List.drop_succ_cons, List.take_succ_cons, List.take_zero, List.all_cons, List.all_nil, Bool.and_true, Bool.true_and, Bool.and_false, Bool.false_and, Bool.or_true, Bool.true_or, Bool.or_false, Bool.false_or, Bool.not_false, Bool.not_true, Option.getD_some, List.length_cons, List.length_nil, Nat.reduceLeDiff, Option.isSome_none, Option.isSome_some, Nat.reduceMul, eq_self, exists_const, List.toList_toArray, partB_true, partB_false, RK_i64, RK_u64, RK_u8, LoopEnd, List.getElem?_cons_zero, List.getElem?_cons_succ, List.getElem?_nil, Nat.sub_zero, Nat.le_refl, Int.toNat_natCast, List.set_cons_zero, List.set_cons_succ, List.getD_cons_zero, List.getD_cons_succ, Nat.sub_self, Option.map_some, Option.map_none, List.length_append, Nat.reduceLT]
    repeat' (first | refine fork_intro (fun hb => ?_) (fun hb => ?_) | refine partB_intro (fun hb => ?_) (fun hb => ?_) | refine And.intro ?_ ?_)
    all_goals first | exact True.intro | omega | with_reducible rfl | exact congrArg (AV.int _) (by omega)
  · rintro k ⟨hk, ht⟩
    simp only [go_sem, cond_true, cond_false, ↓reduceIte, Nat.reduceEqDiff, Nat.reduceBEq, List.map_cons, List.map_nil, List.append_nil, List.cons_append, List.nil_append, true_and, and_true, Nat.reduceAdd, Nat.reduceSub, Nat.zero_add, Nat.add_zero, List.drop_zero, List.drop_succ_cons, List.take_succ_cons, List.take_zero, List.all_cons, List.all_nil, Bool.and_true, Bool.true_and, Bool.and_false, Bool.false_and, Bool.or_true, Bool.true_or, Bool.or_false, Bool.false_or, Bool.not_false, Bool.not_true, Option.getD_some, List.length_cons, List.length_nil, Nat.reduceLeDiff, Option.isSome_none, Option.isSome_some, Nat.reduceMul, eq_self, exists_const, List.toList_toArray, partB_true, partB_false, RK_i64, RK_u64, RK_u8, LoopEnd, List.getElem?_cons_zero, List.getElem?_cons_succ, List.getElem?_nil, Nat.sub_zero, Nat.le_refl, Int.toNat_natCast, List.set_cons_zero, List.set_cons_succ, List.getD_cons_zero, List.getD_cons_succ, Nat.sub_self, Option.map_some, Option.map_none, List.length_append, Nat.reduceLT]
    refine fork_intro (fun hb => ?_) (fun hb => ?_)
    · have hz := treeP_no (ps := ps) (k := k) (by omega)
      have hs := treeP_next (ps := ps) (k := k) ht
      have hk0 : k = 0 → ix ps (k : Int) = ix ps 0 := fun h => by rw [h]; rfl
      repeat' (first | refine fork_intro (fun hb => ?_) (fun hb => ?_) | refine partB_intro (fun hb => ?_) (fun hb => ?_) | refine And.intro ?_ ?_)
      all_goals first | exact True.intro | omega | with_reducible rfl | exact congrArg (AV.int _) (by omega) | (refine LoopEnd.intro (k + 1) (by first | omega | (first | exact ⟨by omega, hs ⟨fun _ => by omega, fun _ => by omega⟩⟩)) (by first | omega | (dsimp only; omega)) (by omega) ?_; simp only [go_sem, cond_true, cond_false, ↓reduceIte, Nat.reduceEqDiff, Nat.reduceBEq, List.map_cons, List.map_nil, List.append_nil, List.cons_append, List.nil_append, true_and, and_true, Nat.reduceAdd, Nat.reduceSub, Nat.zero_add, Nat.add_zero, List.drop_zero, List.drop_succ_cons, List.take_succ_cons, List.take_zero, List.all_cons, List.all_nil, Bool.and_true, Bool.true_and, Bool.and_false, Bool.false_and, Bool.or_true, Bool.true_or, Bool.or_false, Bool.false_or, Bool.not_false, Bool.not_true, Option.getD_some, List.length_cons, List.length_nil, Nat.reduceLeDiff, Option.isSome_none, Option.isSome_some, Nat.reduceMul, eq_self, exists_const, List.toList_toArray, partB_true, partB_false, RK_i64, RK_u64, RK_u8, LoopEnd, List.getElem?_cons_zero, List.getElem?_cons_succ, List.getElem?_nil, Nat.sub_zero, Nat.le_refl, Int.toNat_natCast, List.set_cons_zero, List.set_cons_succ, List.getD_cons_zero, List.getD_cons_succ, Nat.sub_self, Option.map_some, Option.map_none, List.length_append, Nat.reduceLT]; (repeat' (first | refine fork_intro (fun hb => ?_) (fun hb => ?_) | refine partB_intro (fun hb => ?_) (fun hb => ?_) | refine And.intro ?_ ?_)); all_goals first | exact True.intro | omega | with_reducible rfl | exact congrArg (AV.int _) (by omega) | (first | rw [hz (fun h => by have h1 := h.1; have h2 := h.2; omega)])) | (first | rw [hz (fun h => by have h1 := h.1; have h2 := h.2; omega)])
    · rw [treeP_all (fun j hj => ht j (by omega))]
def t_treeS : Table := [(68, pureC g_treeS)]
theorem t_treeS_ok : TabOK Try.prog t_treeS := .cons Try.func68 (by kernel_rfl) (.pure (by intro args hp; unfold g_treeS at hp ⊢; split at hp <;> first | exact hp.elim | exact treeS_ok _ hp)) (.nil _)
attribute [go_sem] g_treeS_eq t_treeS
def g_treeI : List AV → Prop × AV
  | [.ints ps] => (ps.length ≤ 1048576000, .bool (tree ps))
  | _ => (False, .undef)
theorem g_treeI_eq (ps : List Int) : g_treeI [.ints ps] = (ps.length ≤ 1048576000, .bool (tree ps)) := (rfl)
theorem treeI_ok (ps : List Int) (hp : ps.length ≤ 1048576000) : SpecOK Try.prog 71 [.ints ps] (.bool (tree ps)) [] := by
  refine fun_ok (C := t_between) (hint := hintX [] [] 0 [] [] [] []) (t_between_ok) mixed Try.func71 rfl (by kernel_rfl) rfl ?_
  show codeA _ _ _ _ _ _ _ _
  simp only [go_sem, cond_true, cond_false, ↓reduceIte, Nat.reduceEqDiff, Nat.reduceBEq, List.map_cons, List.map_nil, List.append_nil, List.cons_append, List.nil_append, true_and, and_true, Nat.reduceAdd, Nat.reduceSub, Nat.zero_add, Nat.add_zero, List.drop_zero, List.drop_succ_cons, List.take_succ_cons, List.take_zero, List.all_cons, List.all_nil, Bool.and_true, Bool.true_and, Bool.and_false, Bool.false_and, Bool.or_true, Bool.true_or, Bool.or_false, Bool.false_or, Bool.not_false, Bool.not_true, Option.getD_some, List.length_cons, List.length_nil, Nat.reduceLeDiff, Option.isSome_none, Option.isSome_some, Nat.reduceMul, eq_self, exists_const, List.toList_toArray, partB_true, partB_false, RK_i64, RK_u64, RK_u8, LoopEnd, List.getElem?_cons_zero, List.getElem?_cons_succ, List.getElem?_nil, Nat.sub_zero, Nat.le_refl, Int.toNat_natCast, List.set_cons_zero, List.set_cons_succ, List.getD_cons_zero, List.getD_cons_succ, Nat.sub_self, Option.map_some, Option.map_none, List.length_append, Nat.reduceLT, Try.results71]
  refine fork_intro (fun h1 => ⟨by omega, fork_intro (fun h2 => ⟨by omega, ?_⟩) (fun h2 => ?_)⟩) (fun h1 => ?_)
  · have hcl : (cutL ps 1 ps.length).length = ps.length - 1 := by simp [cutL]
    refine loop_intro (fun k : Nat => [(18, .int .i64 k), (17, .int .i64 ((cutL ps 1 ps.length).length)), (16, .ints (cutL ps 1 ps.length))]) (fun _ => []) 0 (fun k => k + 1 ≤ ps.length ∧ ∀ j : Nat, j < k + 1 → treeP ps j) (fun k => ps.length - k) 0 ⟨by omega, fun j h => ?_⟩ (Nat.zero_le _) ?_ ?_
    · have : j = 0 := by omega
      subst this; exact ⟨fun _ => h2, fun h => by omega⟩
    · simp only [go_sem, cond_true, cond_false, ↓reduceIte, Nat.reduceEqDiff, Nat.reduceBEq, List.map_cons, List.map_nil, List.append_nil, List.cons_append, List.nil_append, true_and, and_true, Nat.reduceAdd, Nat.reduceSub, Nat.zero_add, Nat.add_zero, List.drop_zero, List.drop_succ_cons, List.take_succ_cons, List.take_zero, List.all_cons, List.all_nil, Bool.and_true, Bool.true_and, Bool.and_false, Bool.false_and, Bool.or_true, Bool.true_or, Bool.or_false, Bool.false_or, Bool.not_false, Bool.not_true, Option.getD_some, List.length_cons, List.length_nil, Nat.reduceLeDiff, Option.isSome_none, Option.isSome_some, Nat.reduceMul, eq_self, exists_const, List.toList_toArray, partB_true, partB_false, RK_i64, RK_u64, RK_u8, LoopEnd, List.getElem?_cons_zero, List.getElem?_cons_succ, List.getElem?_nil, Nat.sub_zero, Nat.le_refl, Int.toNat_natCast, List.set_cons_zero, List.set_cons_succ, List.getD_cons_zero, List.getD_cons_succ, Nat.sub_self, Option.map_some, Option.map_none, List.length_append, Nat.reduceLT]
      repeat' (first | refine fork_intro (fun hb => ?_) (fun hb => ?_) | refine partB_intro (fun hb => ?_) (fun hb => ?_) | refine And.intro ?_ ?_)
      all_goals first | exact True.intro | omega | with_reducible rfl | exact congrArg (AV.int _) (by omega)
    · rintro k ⟨hk, ht⟩
      simp only [go_sem, cond_true, cond_false, ↓reduceIte, Nat.reduceEqDiff, Nat.reduceBEq, List.map_cons, List.map_nil, List.append_nil, List.cons_append, List.nil_append, true_and, and_true, Nat.reduceAdd, Nat.reduceSub, Nat.zero_add, Nat.add_zero, List.drop_zero, List.drop_succ_cons, List.take_succ_cons, List.take_zero, List.all_cons, List.all_nil, Bool.and_true, Bool.true_and, Bool.and_false, Bool.false_and, Bool.or_true, Bool.true_or, Bool.or_false, Bool.false_or, Bool.not_false, Bool.not_true, Option.getD_some, List.length_cons, List.length_nil, Nat.reduceLeDiff, Option.isSome_none, Option.isSome_some, Nat.reduceMul, eq_self, exists_const, List.toList_toArray, partB_true, partB_false, RK_i64, RK_u64, RK_u8, LoopEnd, List.getElem?_cons_zero, List.getElem?_cons_succ, List.getElem?_nil, Nat.sub_zero, Nat.le_refl, Int.toNat_natCast, List.set_cons_zero, List.set_cons_succ, List.getD_cons_zero, List.getD_cons_succ, Nat.sub_self, Option.map_some, Option.map_none, List.length_append, Nat.reduceLT]
      refine fork_intro (fun hb => ?_) (fun hb => ?_)
      · have hz := treeP_no (ps := ps) (k := k + 1) (by omega)
        have hs := treeP_next (ps := ps) (k := k + 1) ht
        have hx : ix (cutL ps 1 ps.length) (k : Int) = ix ps ((k + 1 : Nat) : Int) := by
          simp [cutL, ix]
        rw [hx]
        repeat' (first | refine fork_intro (fun hb => ?_) (fun hb => ?_) | refine partB_intro (fun hb => ?_) (fun hb => ?_) | refine And.intro ?_ ?_)
        all_goals first | exact True.intro | omega | with_reducible rfl | exact congrArg (AV.int _) (by omega) | (refine LoopEnd.intro (k + 1) (by first | omega | (first | exact ⟨by omega, hs ⟨fun _ => by omega, fun _ => by omega⟩⟩)) (by first | omega | (dsimp only; omega)) (by omega) ?_; simp only [go_sem, cond_true, cond_false, ↓reduceIte, Nat.reduceEqDiff, Nat.reduceBEq, List.map_cons, List.map_nil, List.append_nil, List.cons_append, List.nil_append, true_and, and_true, Nat.reduceAdd, Nat.reduceSub, Nat.zero_add, Nat.add_zero, List.drop_zero, List.drop_succ_cons, List.take_succ_cons, List.take_zero, List.all_cons, List.all_nil, Bool.and_true, Bool.true_and, Bool.and_false, Bool.false_and, Bool.or_true, Bool.true_or, Bool.or_false, Bool.false_or, Bool.not_false, Bool.not_true, Option.getD_some, List.length_cons, List.length_nil, Nat.reduceLeDiff, Option.isSome_none, Option.isSome_some, Nat.reduceMul, eq_self, exists_const, List.toList_toArray, partB_true, partB_false, RK_i64, RK_u64, RK_u8, LoopEnd, List.getElem?_cons_zero, List.getElem?_cons_succ, List.getElem?_nil, Nat.sub_zero, Nat.le_refl, Int.toNat_natCast, List.set_cons_zero, List.set_cons_succ, List.getD_cons_zero, List.getD_cons_succ, Nat.sub_self, Option.map_some, Option.map_none, List.length_append, Nat.reduceLT]; (repeat' (first | refine fork_intro (fun hb => ?_) (fun hb => ?_) | refine partB_intro (fun hb => ?_) (fun hb => ?_) | refine And.intro ?_ ?_)); all_goals first | exact True.intro | omega | with_reducible rfl | exact congrArg (AV.int _) (by omega) | (first | rw [hz (fun h => by have h1 := h.1; have h2 := h.2; omega)])) | (first | rw [hz (fun h => by have h1 := h.1; have h2 := h.2; omega)])
      · rw [treeP_all (fun j hj => ht j (by omega)), decide_eq_true (by omega)]
  · have hz := treeP_no (ps := ps) (k := 0) (by omega) (fun h => h2 (h.1 rfl))
    rw [hz]
  · rw [show tree ps = false from by
      cases ht : tree ps with
      | false => rfl
      | true => have h0 := tree_iff.1 ht; have := h0.n1; have := h0.n7; omega]
def t_treeI : Table := [(71, pureC g_treeI)]
theorem t_treeI_ok : TabOK Try.prog t_treeI := .cons Try.func71 (by kernel_rfl) (.pure (by intro args hp; unfold g_treeI at hp ⊢; split at hp <;> first | exact hp.elim | exact treeI_ok _ hp)) (.nil _)
attribute [go_sem] g_treeI_eq t_treeI
def g_most2 : List AV → Prop × AV
  | [.int .i64 a, .int .i64 b] => (True, .int .i64 (max a b))
  | _ => (False, .undef)
theorem g_most2_eq (a b : Int) : g_most2 [.int .i64 a, .int .i64 b] = (True, .int .i64 (max a b)) := (rfl)
theorem most2_ok (a b : Int) (hp : True) : SpecOK Try.prog 93 [.int .i64 a, .int .i64 b] (.int .i64 (max a b)) [] := by
  refine fun_ok (C := []) (hint := hintX [] [] 0 [] [] [] []) (TabOK.nil _) mixed Try.func93 rfl (by kernel_rfl) rfl ?_
  show codeA _ _ _ _ _ _ _ _
  simp only [go_sem, cond_true, cond_false, ↓reduceIte, Nat.reduceEqDiff, Nat.reduceBEq, List.map_cons, List.map_nil, List.append_nil, List.cons_append, List.nil_append, true_and, and_true, Nat.reduceAdd, Nat.reduceSub, Nat.zero_add, Nat.add_zero, List.drop_zero, List.drop_succ_cons, List.take_succ_cons, List.take_zero, List.all_cons, List.all_nil, Bool.and_true, Bool.true_and, Bool.and_false, Bool.false_and, Bool.or_true, Bool.true_or, Bool.or_false, Bool.false_or, Bool.not_false, Bool.not_true, Option.getD_some, List.length_cons, List.length_nil, Nat.reduceLeDiff, Option.isSome_none, Option.isSome_some, Nat.reduceMul, eq_self, exists_const, List.toList_toArray, partB_true, partB_false, RK_i64, RK_u64, RK_u8, LoopEnd, List.getElem?_cons_zero, List.getElem?_cons_succ, List.getElem?_nil, Nat.sub_zero, Nat.le_refl, Int.toNat_natCast, List.set_cons_zero, List.set_cons_succ, List.getD_cons_zero, List.getD_cons_succ, Nat.sub_self, Option.map_some, Option.map_none, List.length_append, Nat.reduceLT, Try.results93]
  repeat' (first | refine fork_intro (fun hb => ?_) (fun hb => ?_) | refine partB_intro (fun hb => ?_) (fun hb => ?_) | refine And.intro ?_ ?_)
  all_goals first | exact True.intro | omega | with_reducible rfl | exact congrArg (AV.int _) (by omega) | (first | congr 1; omega)
def t_most2 : Table := [(93, pureC g_most2)]
theorem t_most2_ok : TabOK Try.prog t_most2 := .cons Try.func93 (by kernel_rfl) (.pure (by intro args hp; unfold g_most2 at hp ⊢; split at hp <;> first | exact hp.elim | exact most2_ok _ _ hp)) (.nil _)
attribute [go_sem] g_most2_eq t_most2
def g_cloneI : List AV → Prop × AV × Heap
  | [.ints xs] => (xs.length ≤ 1048576000, .sl 0, [(0, .arr (.ints xs))])
  | _ => (False, .undef, [])
theorem g_cloneI_eq (xs : List Int) : g_cloneI [.ints xs] = (xs.length ≤ 1048576000, .sl 0, [(0, .arr (.ints xs))]) := (rfl)
theorem cloneI_ok (xs : List Int) (hp : xs.length ≤ 1048576000) : SpecOK Try.prog 88 [.ints xs] (.sl 0) [(0, .arr (.ints xs))] := by
  refine fun_ok (C := []) (hint := hintX [5, 7] [(2, [.post, .up 2 (.arr (.ints []))])] 0 [] [] [] []) (TabOK.nil _) mixed Try.func88 rfl (by kernel_rfl) rfl ?_
  show codeA _ _ _ _ _ _ _ _
  simp only [go_sem, cond_true, cond_false, ↓reduceIte, Nat.reduceEqDiff, Nat.reduceBEq, List.map_cons, List.map_nil, List.append_nil, List.cons_append, List.nil_append, true_and, and_true, Nat.reduceAdd, Nat.reduceSub, Nat.zero_add, Nat.add_zero, List.drop_zero, List.drop_succ_cons, List.take_succ_cons, List.take_zero, List.all_cons, List.all_nil, Bool.and_true, Bool.true_and, Bool.and_false, Bool.false_and, Bool.or_true, Bool.true_or, Bool.or_false, Bool.false_or, Bool.not_false, Bool.not_true, Option.getD_some, List.length_cons, List.length_nil, Nat.reduceLeDiff, Option.isSome_none, Option.isSome_some, Nat.reduceMul, eq_self, exists_const, List.toList_toArray, partB_true, partB_false, RK_i64, RK_u64, RK_u8, LoopEnd, List.getElem?_cons_zero, List.getElem?_cons_succ, List.getElem?_nil, Nat.sub_zero, Nat.le_refl, Int.toNat_natCast, List.set_cons_zero, List.set_cons_succ, List.getD_cons_zero, List.getD_cons_succ, Nat.sub_self, Option.map_some, Option.map_none, List.length_append, Nat.reduceLT, Try.results88]
  intro b hb
  exact partB_intro (fun h => by rw [hb h]) (fun h => by omega)
def t_cloneI : Table := [(88, ownC g_cloneI)]
theorem t_cloneI_ok : TabOK Try.prog t_cloneI := .cons Try.func88 (by kernel_rfl) (.own (by intro args hp; unfold g_cloneI at hp ⊢; split at hp <;> first | exact hp.elim | exact ⟨cloneI_ok _ hp, rfl⟩)) (.nil _)
attribute [go_sem] g_cloneI_eq t_cloneI

def wtF (ps ws : List Int) (x y : Nat) : Int := if up ps x y = x then ix ws (y : Int) else 0
theorem wtF_bd {ps ws : List Int} (hw : ∀ k : Nat, k < ps.length → 0 ≤ ix ws (k : Int) ∧ ix ws (k : Int) ≤ 99) (x : Nat) {y : Nat} (hy : y ≤ ps.length) : 0 ≤ sumN (wtF ps ws x) y ∧ sumN (wtF ps ws x) y ≤ 99 * y := by
  have := sumN_bd (f := wtF ps ws x) (lo := 0) (hi := 99) (n := y) (fun i hi => by
    have := hw i (by omega)
    unfold wtF
    split <;> omega)
  omega
end Go.Proofs.Ytpkmpmlgkhlgoaa
