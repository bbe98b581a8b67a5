/- Price gaps, medians by swaps and by closing: both packages say the same. -/
import Derived.Test.YtibomnplkclkmaaA19
import Derived.Test.YtibomnplkclkmaaPlE
import Derived.Test.YtibomnplkclkmaaA13
namespace Go.Proofs.Ytibomnplkclkmaa
open Go.Vc
set_option maxRecDepth 100000
set_option linter.unusedSimpArgs false
set_option linter.unusedVariables false

def g_gapS : List AV → Prop × AV
  | [.agg [.ints o, .rows d], .ints ps, .ints set] => ((o.length ≤ 1048576000 ∧ d.length ≤ 1048576000 ∧ ∀ x ∈ d, x.length ≤ 1048576000) ∧ ps.length ≤ 1048576000 ∧ set.length ≤ 1048576000, .tup [.int .i64 (bif fairOK o d ps && opened o d set then total o d set - ps.sum else 0), .bool (fairOK o d ps && opened o d set)])
  | _ => (False, .undef)
theorem g_gapS_eq (o : List Int) (d : List (List Int)) (ps set : List Int) : g_gapS [.agg [.ints o, .rows d], .ints ps, .ints set] = ((o.length ≤ 1048576000 ∧ d.length ≤ 1048576000 ∧ ∀ x ∈ d, x.length ≤ 1048576000) ∧ ps.length ≤ 1048576000 ∧ set.length ≤ 1048576000, .tup [.int .i64 (bif fairOK o d ps && opened o d set then total o d set - ps.sum else 0), .bool (fairOK o d ps && opened o d set)]) := (rfl)
theorem gapS_ok (o : List Int) (d : List (List Int)) (ps set : List Int) (hp : (o.length ≤ 1048576000 ∧ d.length ≤ 1048576000 ∧ ∀ x ∈ d, x.length ≤ 1048576000) ∧ ps.length ≤ 1048576000 ∧ set.length ≤ 1048576000) : SpecOK Try.prog 24 [.agg [.ints o, .rows d], .ints ps, .ints set] (.tup [.int .i64 (bif fairOK o d ps && opened o d set then total o d set - ps.sum else 0), .bool (fairOK o d ps && opened o d set)]) [] := by
  refine fun_ok (C := t_bothS ++ t_totalS ++ t_sumS) (hint := hintX [] [] 0 [] [] [] []) (((t_bothS_ok).append t_totalS_ok).append t_sumS_ok) mixed Try.func24 rfl (by kernel_rfl) rfl ?_
  show codeA _ _ _ _ _ _ _ _
  simp only [go_sem, cond_true, cond_false, ↓reduceIte, Nat.reduceEqDiff, Nat.reduceBEq, List.map_cons, List.map_nil, List.append_nil, List.cons_append, List.nil_append, true_and, and_true, Nat.reduceAdd, Nat.reduceSub, Nat.zero_add, Nat.add_zero, List.drop_zero, List.drop_succ_cons, List.take_succ_cons, List.take_zero, List.all_cons, List.all_nil, Bool.and_true, Bool.true_and, Bool.and_false, Bool.false_and, Bool.or_true, Bool.true_or, Bool.or_false, Bool.false_or, Bool.not_false, Bool.not_true, Option.getD_some, List.length_cons, List.length_nil, Nat.reduceLeDiff, Option.isSome_none, Option.isSome_some, Nat.reduceMul, eq_self, exists_const, List.toList_toArray, partB_true, partB_false, RK_i64, RK_u64, RK_u8, LoopEnd, List.getElem?_cons_zero, List.getElem?_cons_succ, List.getElem?_nil, Nat.sub_zero, Nat.le_refl, Int.toNat_natCast, List.set_cons_zero, List.set_cons_succ, List.getD_cons_zero, List.getD_cons_succ, Nat.sub_self, Option.map_some, Option.map_none, List.length_append, Nat.reduceLT, Try.results24]
  refine ⟨hp, partB_intro (fun hg => ?_) (fun hg => ?_)⟩
  · rw [hg]
    simp only [Bool.and_eq_true] at hg
    have hf := fairOK_iff hg.1
    have h := opened_iff hp.2.2 hg.2
    obtain ⟨hs1, hs2⟩ := prices_sum hf
    have b1 := h.svc_bd
    have b2 := h.pay.bd (Nat.le_refl _)
    rw [List.take_length] at b2
    have e : total o d set = pay o set + svc d set := rfl
    repeat' (first | refine fork_intro (fun hb => ?_) (fun hb => ?_) | refine partB_intro (fun hb => ?_) (fun hb => ?_) | refine And.intro ?_ ?_)
    all_goals first | exact True.intro | omega | with_reducible rfl | exact congrArg (AV.int _) (by omega) | (first | exact h | exact hs1.2 | rfl)
  · rw [hg]
    repeat' (first | refine fork_intro (fun hb => ?_) (fun hb => ?_) | refine partB_intro (fun hb => ?_) (fun hb => ?_) | refine And.intro ?_ ?_)
    all_goals first | exact True.intro | omega | with_reducible rfl | exact congrArg (AV.int _) (by omega) | (first | rfl)
def t_gapS : Table := [(24, pureC g_gapS)]
theorem t_gapS_ok : TabOK Try.prog t_gapS := .cons Try.func24 (by kernel_rfl) (.pure (by intro args hp; unfold g_gapS at hp ⊢; split at hp <;> first | exact hp.elim | exact gapS_ok _ _ _ _ hp)) (.nil _)
attribute [go_sem] g_gapS_eq t_gapS
def g_gapI : List AV → Prop × AV
  | [.agg [.ints o, .rows d], .ints ps, .ints set] => ((o.length ≤ 1048576000 ∧ d.length ≤ 1048576000 ∧ ∀ x ∈ d, x.length ≤ 1048576000) ∧ ps.length ≤ 1048576000 ∧ set.length ≤ 1048576000, .tup [.int .i64 (bif fairOK o d ps && opened o d set then total o d set - ps.sum else 0), .bool (fairOK o d ps && opened o d set)])
  | _ => (False, .undef)
theorem g_gapI_eq (o : List Int) (d : List (List Int)) (ps set : List Int) : g_gapI [.agg [.ints o, .rows d], .ints ps, .ints set] = ((o.length ≤ 1048576000 ∧ d.length ≤ 1048576000 ∧ ∀ x ∈ d, x.length ≤ 1048576000) ∧ ps.length ≤ 1048576000 ∧ set.length ≤ 1048576000, .tup [.int .i64 (bif fairOK o d ps && opened o d set then total o d set - ps.sum else 0), .bool (fairOK o d ps && opened o d set)]) := (rfl)
theorem gapI_ok (o : List Int) (d : List (List Int)) (ps set : List Int) (hp : (o.length ≤ 1048576000 ∧ d.length ≤ 1048576000 ∧ ∀ x ∈ d, x.length ≤ 1048576000) ∧ ps.length ≤ 1048576000 ∧ set.length ≤ 1048576000) : SpecOK Try.prog 26 [.agg [.ints o, .rows d], .ints ps, .ints set] (.tup [.int .i64 (bif fairOK o d ps && opened o d set then total o d set - ps.sum else 0), .bool (fairOK o d ps && opened o d set)]) [] := by
  refine fun_ok (C := t_isFairI ++ t_isSetI ++ t_totalI ++ t_sumI) (hint := hintX [] [] 0 [] [] [] []) ((((t_isFairI_ok).append t_isSetI_ok).append t_totalI_ok).append t_sumI_ok) mixed Try.func26 rfl (by kernel_rfl) rfl ?_
  show codeA _ _ _ _ _ _ _ _
  simp only [go_sem, cond_true, cond_false, ↓reduceIte, Nat.reduceEqDiff, Nat.reduceBEq, List.map_cons, List.map_nil, List.append_nil, List.cons_append, List.nil_append, true_and, and_true, Nat.reduceAdd, Nat.reduceSub, Nat.zero_add, Nat.add_zero, List.drop_zero, List.drop_succ_cons, List.take_succ_cons, List.take_zero, List.all_cons, List.all_nil, Bool.and_true, Bool.true_and, Bool.and_false, Bool.false_and, Bool.or_true, Bool.true_or, Bool.or_false, Bool.false_or, Bool.not_false, Bool.not_true, Option.getD_some, List.length_cons, List.length_nil, Nat.reduceLeDiff, Option.isSome_none, Option.isSome_some, Nat.reduceMul, eq_self, exists_const, List.toList_toArray, partB_true, partB_false, RK_i64, RK_u64, RK_u8, LoopEnd, List.getElem?_cons_zero, List.getElem?_cons_succ, List.getElem?_nil, Nat.sub_zero, Nat.le_refl, Int.toNat_natCast, List.set_cons_zero, List.set_cons_succ, List.getD_cons_zero, List.getD_cons_succ, Nat.sub_self, Option.map_some, Option.map_none, List.length_append, Nat.reduceLT, Try.results26]
  refine ⟨⟨hp.1, hp.2.1⟩, partB_intro (fun hg => ⟨by omega, partB_intro (fun hr => ?_) (fun hr => ?_)⟩) (fun hg => ?_)⟩
  · have hf := fairOK_iff hg
    have ho : opened o d set = true := by rw [opened, good_iff.2 hf.f, hr]; rfl
    rw [hg, ho]
    have h := opened_iff hp.2.2 ho
    obtain ⟨hs1, hs2⟩ := prices_sum hf
    have b1 := h.svc_bd
    have b2 := h.pay.bd (Nat.le_refl _)
    rw [List.take_length] at b2
    have e : total o d set = pay o set + svc d set := rfl
    have hx : ps.length ≤ 1000000 ∧ ∀ x ∈ ps, -1000000000 ≤ x ∧ x ≤ 1000000000 := hs1
    simp only [Bool.and_true, cond_true]
    repeat' (first | refine fork_intro (fun hb => ?_) (fun hb => ?_) | refine partB_intro (fun hb => ?_) (fun hb => ?_) | refine And.intro ?_ ?_)
    all_goals first | exact True.intro | omega | with_reducible rfl | exact congrArg (AV.int _) (by omega) | (first | exact h | exact hs1 | exact hs1.2 | rfl)
  · have ho : opened o d set = false := by rw [opened, hr, Bool.and_false]
    rw [hg, ho]
    repeat' (first | refine fork_intro (fun hb => ?_) (fun hb => ?_) | refine partB_intro (fun hb => ?_) (fun hb => ?_) | refine And.intro ?_ ?_)
    all_goals first | exact True.intro | omega | with_reducible rfl | exact congrArg (AV.int _) (by omega) | (first | rfl)
  · rw [hg]
    repeat' (first | refine fork_intro (fun hb => ?_) (fun hb => ?_) | refine partB_intro (fun hb => ?_) (fun hb => ?_) | refine And.intro ?_ ?_)
    all_goals first | exact True.intro | omega | with_reducible rfl | exact congrArg (AV.int _) (by omega) | (first | rfl)
def t_gapI : Table := [(26, pureC g_gapI)]
theorem t_gapI_ok : TabOK Try.prog t_gapI := .cons Try.func26 (by kernel_rfl) (.pure (by intro args hp; unfold g_gapI at hp ⊢; split at hp <;> first | exact hp.elim | exact gapI_ok _ _ _ _ hp)) (.nil _)
attribute [go_sem] g_gapI_eq t_gapI
def g_medianS : List AV → Prop × AV
  | [.agg [.ints o, .rows d], .ints set] => ((o.length ≤ 1048576000 ∧ d.length ≤ 1048576000 ∧ ∀ x ∈ d, x.length ≤ 1048576000) ∧ set.length ≤ 1048576, .tup [.ints (bif opened o d set then (medIter o d 700 set 0).1 else []), .int .i64 (bif opened o d set then ((medIter o d 700 set 0).2 : Int) else 0), .bool (opened o d set)])
  | _ => (False, .undef)
theorem g_medianS_eq (o : List Int) (d : List (List Int)) (set : List Int) : g_medianS [.agg [.ints o, .rows d], .ints set] = ((o.length ≤ 1048576000 ∧ d.length ≤ 1048576000 ∧ ∀ x ∈ d, x.length ≤ 1048576000) ∧ set.length ≤ 1048576, .tup [.ints (bif opened o d set then (medIter o d 700 set 0).1 else []), .int .i64 (bif opened o d set then ((medIter o d 700 set 0).2 : Int) else 0), .bool (opened o d set)]) := (rfl)
theorem medianS_ok (o : List Int) (d : List (List Int)) (set : List Int) (hp : (o.length ≤ 1048576000 ∧ d.length ≤ 1048576000 ∧ ∀ x ∈ d, x.length ≤ 1048576000) ∧ set.length ≤ 1048576) : SpecOK Try.prog 27 [.agg [.ints o, .rows d], .ints set] (.tup [.ints (bif opened o d set then (medIter o d 700 set 0).1 else []), .int .i64 (bif opened o d set then ((medIter o d 700 set 0).2 : Int) else 0), .bool (opened o d set)]) [] := by
  refine fun_ok (C := t_twoS ++ t_ownI ++ t_findS ++ t_swapS) (hint := hintX [] [] 0 [] [] [] []) ((((t_twoS_ok).append t_ownI_ok).append t_findS_ok).append t_swapS_ok) mixed Try.func27 rfl (by kernel_rfl) rfl ?_
  show codeA _ _ _ _ _ _ _ _
  simp only [go_sem, cond_true, cond_false, ↓reduceIte, Nat.reduceEqDiff, Nat.reduceBEq, List.map_cons, List.map_nil, List.append_nil, List.cons_append, List.nil_append, true_and, and_true, Nat.reduceAdd, Nat.reduceSub, Nat.zero_add, Nat.add_zero, List.drop_zero, List.drop_succ_cons, List.take_succ_cons, List.take_zero, List.all_cons, List.all_nil, Bool.and_true, Bool.true_and, Bool.and_false, Bool.false_and, Bool.or_true, Bool.true_or, Bool.or_false, Bool.false_or, Bool.not_false, Bool.not_true, Option.getD_some, List.length_cons, List.length_nil, Nat.reduceLeDiff, Option.isSome_none, Option.isSome_some, Nat.reduceMul, eq_self, exists_const, List.toList_toArray, partB_true, partB_false, RK_i64, RK_u64, RK_u8, LoopEnd, List.getElem?_cons_zero, List.getElem?_cons_succ, List.getElem?_nil, Nat.sub_zero, Nat.le_refl, Int.toNat_natCast, List.set_cons_zero, List.set_cons_succ, List.getD_cons_zero, List.getD_cons_succ, Nat.sub_self, Option.map_some, Option.map_none, List.length_append, Nat.reduceLT, Try.results27]
  refine ⟨⟨hp.1, by omega⟩, partB_intro (fun hg => ?_) (fun hg => ?_)⟩
  · have h := opened_iff (by omega) hg
    have hu := opened_up hg
    rw [hg]
    refine ⟨by omega, ?_⟩
    refine loop_intro (fun g : List Int × Nat => [(7, .ints g.1), (8, .int .i64 g.2), (2, .iptr [.ints o, .rows d])]) (fun _ => []) 0 (fun g => MedAt o d set g.1 g.2) (fun g => (svc d g.1).toNat) (set, 0) (MedAt.start h hu) (by omega) ?_ ?_
    · simp only [go_sem, cond_true, cond_false, ↓reduceIte, Nat.reduceEqDiff, Nat.reduceBEq, List.map_cons, List.map_nil, List.append_nil, List.cons_append, List.nil_append, true_and, and_true, Nat.reduceAdd, Nat.reduceSub, Nat.zero_add, Nat.add_zero, List.drop_zero, List.drop_succ_cons, List.take_succ_cons, List.take_zero, List.all_cons, List.all_nil, Bool.and_true, Bool.true_and, Bool.and_false, Bool.false_and, Bool.or_true, Bool.true_or, Bool.or_false, Bool.false_or, Bool.not_false, Bool.not_true, Option.getD_some, List.length_cons, List.length_nil, Nat.reduceLeDiff, Option.isSome_none, Option.isSome_some, Nat.reduceMul, eq_self, exists_const, List.toList_toArray, partB_true, partB_false, RK_i64, RK_u64, RK_u8, LoopEnd, List.getElem?_cons_zero, List.getElem?_cons_succ, List.getElem?_nil, Nat.sub_zero, Nat.le_refl, Int.toNat_natCast, List.set_cons_zero, List.set_cons_succ, List.getD_cons_zero, List.getD_cons_succ, Nat.sub_self, Option.map_some, Option.map_none, List.length_append, Nat.reduceLT]
      repeat' (first | refine fork_intro (fun hb => ?_) (fun hb => ?_) | refine partB_intro (fun hb => ?_) (fun hb => ?_) | refine And.intro ?_ ?_)
      all_goals first | exact True.intro | omega | with_reducible rfl | exact congrArg (AV.int _) (by omega) | (first | rfl)
    · rintro ⟨s, c⟩ hM
      simp only at hM
      have hb := hM.ok.svc_bd
      have hc := hM.c_le
      have hlen := up_len hM.up (fun x hx => hM.ok.mem hx)
      have hn := h.f.n7
      simp only [go_sem, cond_true, cond_false, ↓reduceIte, Nat.reduceEqDiff, Nat.reduceBEq, List.map_cons, List.map_nil, List.append_nil, List.cons_append, List.nil_append, true_and, and_true, Nat.reduceAdd, Nat.reduceSub, Nat.zero_add, Nat.add_zero, List.drop_zero, List.drop_succ_cons, List.take_succ_cons, List.take_zero, List.all_cons, List.all_nil, Bool.and_true, Bool.true_and, Bool.and_false, Bool.false_and, Bool.or_true, Bool.true_or, Bool.or_false, Bool.false_or, Bool.not_false, Bool.not_true, Option.getD_some, List.length_cons, List.length_nil, Nat.reduceLeDiff, Option.isSome_none, Option.isSome_some, Nat.reduceMul, eq_self, exists_const, List.toList_toArray, partB_true, partB_false, RK_i64, RK_u64, RK_u8, LoopEnd, List.getElem?_cons_zero, List.getElem?_cons_succ, List.getElem?_nil, Nat.sub_zero, Nat.le_refl, Int.toNat_natCast, List.set_cons_zero, List.set_cons_succ, List.getD_cons_zero, List.getD_cons_succ, Nat.sub_self, Option.map_some, Option.map_none, List.length_append, Nat.reduceLT]
      refine ⟨⟨hM.ok, hM.up⟩, fork_intro (fun he => ?_) (fun he => ?_)⟩
      · have e := hM.end he
        simp only [e]
        repeat' (first | refine fork_intro (fun hb => ?_) (fun hb => ?_) | refine partB_intro (fun hb => ?_) (fun hb => ?_) | refine And.intro ?_ ?_)
        all_goals first | exact True.intro | omega | with_reducible rfl | exact congrArg (AV.int _) (by omega) | (first | rfl)
      · obtain ⟨m1, m2⟩ := hM.step he
        have hb2 := m1.ok.svc_bd
        repeat' (first | refine fork_intro (fun hb => ?_) (fun hb => ?_) | refine partB_intro (fun hb => ?_) (fun hb => ?_) | refine And.intro ?_ ?_)
        all_goals first | exact True.intro | omega | with_reducible rfl | exact congrArg (AV.int _) (by omega) | (refine LoopEnd.intro ((swapL s (findG o d s s.length).1 (findG o d s s.length).2.1, c + 1)) (by first | omega | (first | exact m1 | (dsimp only; omega))) (by first | omega | (dsimp only; omega)) (by omega) ?_; simp only [go_sem, cond_true, cond_false, ↓reduceIte, Nat.reduceEqDiff, Nat.reduceBEq, List.map_cons, List.map_nil, List.append_nil, List.cons_append, List.nil_append, true_and, and_true, Nat.reduceAdd, Nat.reduceSub, Nat.zero_add, Nat.add_zero, List.drop_zero, List.drop_succ_cons, List.take_succ_cons, List.take_zero, List.all_cons, List.all_nil, Bool.and_true, Bool.true_and, Bool.and_false, Bool.false_and, Bool.or_true, Bool.true_or, Bool.or_false, Bool.false_or, Bool.not_false, Bool.not_true, Option.getD_some, List.length_cons, List.length_nil, Nat.reduceLeDiff, Option.isSome_none, Option.isSome_some, Nat.reduceMul, eq_self, exists_const, List.toList_toArray, partB_true, partB_false, RK_i64, RK_u64, RK_u8, LoopEnd, List.getElem?_cons_zero, List.getElem?_cons_succ, List.getElem?_nil, Nat.sub_zero, Nat.le_refl, Int.toNat_natCast, List.set_cons_zero, List.set_cons_succ, List.getD_cons_zero, List.getD_cons_succ, Nat.sub_self, Option.map_some, Option.map_none, List.length_append, Nat.reduceLT]; (repeat' (first | refine fork_intro (fun hb => ?_) (fun hb => ?_) | refine partB_intro (fun hb => ?_) (fun hb => ?_) | refine And.intro ?_ ?_)); all_goals first | exact True.intro | omega | with_reducible rfl | exact congrArg (AV.int _) (by omega) | (first | rfl)) | (first | rfl)
  · rw [hg]
    repeat' (first | refine fork_intro (fun hb => ?_) (fun hb => ?_) | refine partB_intro (fun hb => ?_) (fun hb => ?_) | refine And.intro ?_ ?_)
    all_goals first | exact True.intro | omega | with_reducible rfl | exact congrArg (AV.int _) (by omega) | (first | rfl)
def t_medianS : Table := [(27, pureC g_medianS)]
theorem t_medianS_ok : TabOK Try.prog t_medianS := .cons Try.func27 (by kernel_rfl) (.pure (by intro args hp; unfold g_medianS at hp ⊢; split at hp <;> first | exact hp.elim | exact medianS_ok _ _ _ hp)) (.nil _)
attribute [go_sem] g_medianS_eq t_medianS
def g_medianI : List AV → Prop × AV × Heap
  | [.agg [.ints o, .rows d], .ints set] => ((o.length ≤ 1048576000 ∧ d.length ≤ 1048576000 ∧ ∀ x ∈ d, x.length ≤ 1048576000) ∧ set.length ≤ 1048576, .tup [.sl 0, .int .i64 (bif opened o d set then ((medIter o d 700 set 0).2 : Int) else 0), .bool (opened o d set)], [(0, .arr (.ints (bif opened o d set then (medIter o d 700 set 0).1 else [])))])
  | _ => (False, .undef, [])
theorem g_medianI_eq (o : List Int) (d : List (List Int)) (set : List Int) : g_medianI [.agg [.ints o, .rows d], .ints set] = ((o.length ≤ 1048576000 ∧ d.length ≤ 1048576000 ∧ ∀ x ∈ d, x.length ≤ 1048576000) ∧ set.length ≤ 1048576, .tup [.sl 0, .int .i64 (bif opened o d set then ((medIter o d 700 set 0).2 : Int) else 0), .bool (opened o d set)], [(0, .arr (.ints (bif opened o d set then (medIter o d 700 set 0).1 else [])))]) := (rfl)
theorem medianI_ok (o : List Int) (d : List (List Int)) (set : List Int) (hp : (o.length ≤ 1048576000 ∧ d.length ≤ 1048576000 ∧ ∀ x ∈ d, x.length ≤ 1048576000) ∧ set.length ≤ 1048576) : SpecOK Try.prog 28 [.agg [.ints o, .rows d], .ints set] (.tup [.sl 0, .int .i64 (bif opened o d set then ((medIter o d 700 set 0).2 : Int) else 0), .bool (opened o d set)]) [(0, .arr (.ints (bif opened o d set then (medIter o d 700 set 0).1 else [])))] := by
  refine fun_ok (C := t_openI ++ t_cloneI ++ t_bestSwapI ++ t_swappedI) (hint := hintX [17, 34] [(2, [.post, .up 4 (.arr (.ints []))]), (9, [.post, .ren 7 0, .drop [] 1])] 0 [] [] [] []) ((((t_openI_ok).append t_cloneI_ok).append t_bestSwapI_ok).append t_swappedI_ok) mixed Try.func28 rfl (by kernel_rfl) rfl ?_
  show codeA _ _ _ _ _ _ _ _
  simp only [go_sem, cond_true, cond_false, ↓reduceIte, Nat.reduceEqDiff, Nat.reduceBEq, List.map_cons, List.map_nil, List.append_nil, List.cons_append, List.nil_append, true_and, and_true, Nat.reduceAdd, Nat.reduceSub, Nat.zero_add, Nat.add_zero, List.drop_zero, List.drop_succ_cons, List.take_succ_cons, List.take_zero, List.all_cons, List.all_nil, Bool.and_true, Bool.true_and, Bool.and_false, Bool.false_and, Bool.or_true, Bool.true_or, Bool.or_false, Bool.false_or, Bool.not_false, Bool.not_true, Option.getD_some, List.length_cons, List.length_nil, Nat.reduceLeDiff, Option.isSome_none, Option.isSome_some, Nat.reduceMul, eq_self, exists_const, List.toList_toArray, partB_true, partB_false, RK_i64, RK_u64, RK_u8, LoopEnd, List.getElem?_cons_zero, List.getElem?_cons_succ, List.getElem?_nil, Nat.sub_zero, Nat.le_refl, Int.toNat_natCast, List.set_cons_zero, List.set_cons_succ, List.getD_cons_zero, List.getD_cons_succ, Nat.sub_self, Option.map_some, Option.map_none, List.length_append, Nat.reduceLT, Try.results28]
  refine ⟨⟨hp.1, by omega⟩, partB_intro (fun hg => ?_) (fun hg => ?_)⟩
  · have h := opened_iff (by omega) hg
    have hu := opened_up hg
    have hn := h.f.n7
    rw [hg]
    refine ⟨by omega, ?_⟩
    refine loop_intro (fun g : List Int × Nat => [(7, .sl 0), (8, .int .i64 g.2), (2, .iptr [.ints o, .rows d])]) (fun g => [(0, .arr (.ints g.1))]) 1 (fun g => MedAt o d set g.1 g.2) (fun g => (svc d g.1).toNat) (set, 0) (MedAt.start h hu) (by omega) ?_ ?_
    · simp only [go_sem, cond_true, cond_false, ↓reduceIte, Nat.reduceEqDiff, Nat.reduceBEq, List.map_cons, List.map_nil, List.append_nil, List.cons_append, List.nil_append, true_and, and_true, Nat.reduceAdd, Nat.reduceSub, Nat.zero_add, Nat.add_zero, List.drop_zero, List.drop_succ_cons, List.take_succ_cons, List.take_zero, List.all_cons, List.all_nil, Bool.and_true, Bool.true_and, Bool.and_false, Bool.false_and, Bool.or_true, Bool.true_or, Bool.or_false, Bool.false_or, Bool.not_false, Bool.not_true, Option.getD_some, List.length_cons, List.length_nil, Nat.reduceLeDiff, Option.isSome_none, Option.isSome_some, Nat.reduceMul, eq_self, exists_const, List.toList_toArray, partB_true, partB_false, RK_i64, RK_u64, RK_u8, LoopEnd, List.getElem?_cons_zero, List.getElem?_cons_succ, List.getElem?_nil, Nat.sub_zero, Nat.le_refl, Int.toNat_natCast, List.set_cons_zero, List.set_cons_succ, List.getD_cons_zero, List.getD_cons_succ, Nat.sub_self, Option.map_some, Option.map_none, List.length_append, Nat.reduceLT]
      repeat' (first | refine fork_intro (fun hb => ?_) (fun hb => ?_) | refine partB_intro (fun hb => ?_) (fun hb => ?_) | refine And.intro ?_ ?_)
      all_goals first | exact True.intro | omega | with_reducible rfl | exact congrArg (AV.int _) (by omega) | (first | rfl)
    · rintro ⟨s, c⟩ hM
      simp only at hM
      have hb := hM.ok.svc_bd
      have hc := hM.c_le
      have hlen := up_len hM.up (fun x hx => hM.ok.mem hx)
      have h7 := hM.ok.seven
      have hfd := findG_found (o := o) (d := d) (set := s) s.length (Nat.le_refl _)
      simp only [go_sem, cond_true, cond_false, ↓reduceIte, Nat.reduceEqDiff, Nat.reduceBEq, List.map_cons, List.map_nil, List.append_nil, List.cons_append, List.nil_append, true_and, and_true, Nat.reduceAdd, Nat.reduceSub, Nat.zero_add, Nat.add_zero, List.drop_zero, List.drop_succ_cons, List.take_succ_cons, List.take_zero, List.all_cons, List.all_nil, Bool.and_true, Bool.true_and, Bool.and_false, Bool.false_and, Bool.or_true, Bool.true_or, Bool.or_false, Bool.false_or, Bool.not_false, Bool.not_true, Option.getD_some, List.length_cons, List.length_nil, Nat.reduceLeDiff, Option.isSome_none, Option.isSome_some, Nat.reduceMul, eq_self, exists_const, List.toList_toArray, partB_true, partB_false, RK_i64, RK_u64, RK_u8, LoopEnd, List.getElem?_cons_zero, List.getElem?_cons_succ, List.getElem?_nil, Nat.sub_zero, Nat.le_refl, Int.toNat_natCast, List.set_cons_zero, List.set_cons_succ, List.getD_cons_zero, List.getD_cons_succ, Nat.sub_self, Option.map_some, Option.map_none, List.length_append, Nat.reduceLT]
      refine ⟨⟨hM.ok, hM.up⟩, fork_intro (fun he => ?_) (fun he => ?_)⟩
      · have he' : ¬ (findG o d s s.length).2.2 = 0 := by omega
        obtain ⟨m1, m2⟩ := hM.step he'
        have hb2 := m1.ok.svc_bd
        have hpr : s.length ≤ 1048576000 ∧ Up s ∧ (∀ x ∈ s, 0 ≤ x ∧ x < 7) ∧ (0 ≤ (findG o d s s.length).1 ∧ (findG o d s s.length).1 < 7) ∧ 0 ≤ (findG o d s s.length).2.1 ∧ (findG o d s s.length).2.1 < 7 := by
          rcases hfd.1 with h1 | ⟨h1, h2, _⟩
          · exact (he' h1).elim
          · exact ⟨by omega, hM.up, h7, h7 _ h1, by omega, by omega⟩
        refine ⟨hpr, ?_⟩
        repeat' (first | refine fork_intro (fun hb => ?_) (fun hb => ?_) | refine partB_intro (fun hb => ?_) (fun hb => ?_) | refine And.intro ?_ ?_)
        all_goals first | exact True.intro | omega | with_reducible rfl | exact congrArg (AV.int _) (by omega) | (refine LoopEnd.intro ((swapL s (findG o d s s.length).1 (findG o d s s.length).2.1, c + 1)) (by first | omega | (first | exact m1 | (dsimp only; omega))) (by first | omega | (dsimp only; omega)) (by omega) ?_; simp only [go_sem, cond_true, cond_false, ↓reduceIte, Nat.reduceEqDiff, Nat.reduceBEq, List.map_cons, List.map_nil, List.append_nil, List.cons_append, List.nil_append, true_and, and_true, Nat.reduceAdd, Nat.reduceSub, Nat.zero_add, Nat.add_zero, List.drop_zero, List.drop_succ_cons, List.take_succ_cons, List.take_zero, List.all_cons, List.all_nil, Bool.and_true, Bool.true_and, Bool.and_false, Bool.false_and, Bool.or_true, Bool.true_or, Bool.or_false, Bool.false_or, Bool.not_false, Bool.not_true, Option.getD_some, List.length_cons, List.length_nil, Nat.reduceLeDiff, Option.isSome_none, Option.isSome_some, Nat.reduceMul, eq_self, exists_const, List.toList_toArray, partB_true, partB_false, RK_i64, RK_u64, RK_u8, LoopEnd, List.getElem?_cons_zero, List.getElem?_cons_succ, List.getElem?_nil, Nat.sub_zero, Nat.le_refl, Int.toNat_natCast, List.set_cons_zero, List.set_cons_succ, List.getD_cons_zero, List.getD_cons_succ, Nat.sub_self, Option.map_some, Option.map_none, List.length_append, Nat.reduceLT]; (repeat' (first | refine fork_intro (fun hb => ?_) (fun hb => ?_) | refine partB_intro (fun hb => ?_) (fun hb => ?_) | refine And.intro ?_ ?_)); all_goals first | exact True.intro | omega | with_reducible rfl | exact congrArg (AV.int _) (by omega) | (first | rfl)) | (first | rfl)
      · have e := hM.end (by omega)
        simp only [e]
        repeat' (first | refine fork_intro (fun hb => ?_) (fun hb => ?_) | refine partB_intro (fun hb => ?_) (fun hb => ?_) | refine And.intro ?_ ?_)
        all_goals first | exact True.intro | omega | with_reducible rfl | exact congrArg (AV.int _) (by omega) | (first | rfl)
  · rw [hg]
    repeat' (first | refine fork_intro (fun hb => ?_) (fun hb => ?_) | refine partB_intro (fun hb => ?_) (fun hb => ?_) | refine And.intro ?_ ?_)
    all_goals first | exact True.intro | omega | with_reducible rfl | exact congrArg (AV.int _) (by omega) | (first | rfl)
def t_medianI : Table := [(28, ownC g_medianI)]
theorem t_medianI_ok : TabOK Try.prog t_medianI := .cons Try.func28 (by kernel_rfl) (.own (by intro args hp; unfold g_medianI at hp ⊢; split at hp <;> first | exact hp.elim | exact ⟨medianI_ok _ _ _ hp, rfl⟩)) (.nil _)
attribute [go_sem] g_medianI_eq t_medianI
def g_bitsS : List AV → Prop × AV
  | [.int .i64 n, .int .i64 b] => ((0 ≤ n ∧ n ≤ 7) ∧ 0 ≤ b ∧ b < 128, .ints (sel b.toNat.testBit n.toNat))
  | _ => (False, .undef)
theorem g_bitsS_eq (n b : Int) : g_bitsS [.int .i64 n, .int .i64 b] = ((0 ≤ n ∧ n ≤ 7) ∧ 0 ≤ b ∧ b < 128, .ints (sel b.toNat.testBit n.toNat)) := (rfl)
theorem bitsS_ok (n b : Int) (hp : (0 ≤ n ∧ n ≤ 7) ∧ 0 ≤ b ∧ b < 128) : SpecOK Try.prog 53 [.int .i64 n, .int .i64 b] (.ints (sel b.toNat.testBit n.toNat)) [] := by
  refine fun_ok (C := []) (hint := hintX [7] [] 0 [] [] [] []) (TabOK.nil _) mixed Try.func53 rfl (by kernel_rfl) rfl ?_
  show codeA _ _ _ _ _ _ _ _
  simp only [go_sem, cond_true, cond_false, ↓reduceIte, Nat.reduceEqDiff, Nat.reduceBEq, List.map_cons, List.map_nil, List.append_nil, List.cons_append, List.nil_append, true_and, and_true, Nat.reduceAdd, Nat.reduceSub, Nat.zero_add, Nat.add_zero, List.drop_zero, List.drop_succ_cons, List.take_succ_cons, List.take_zero, List.all_cons, List.all_nil, Bool.and_true, Bool.true_and, Bool.and_false, Bool.false_and, Bool.or_true, Bool.true_or, Bool.or_false, Bool.false_or, Bool.not_false, Bool.not_true, Option.getD_some, List.length_cons, List.length_nil, Nat.reduceLeDiff, Option.isSome_none, Option.isSome_some, Nat.reduceMul, eq_self, exists_const, List.toList_toArray, partB_true, partB_false, RK_i64, RK_u64, RK_u8, LoopEnd, List.getElem?_cons_zero, List.getElem?_cons_succ, List.getElem?_nil, Nat.sub_zero, Nat.le_refl, Int.toNat_natCast, List.set_cons_zero, List.set_cons_succ, List.getD_cons_zero, List.getD_cons_succ, Nat.sub_self, Option.map_some, Option.map_none, List.length_append, Nat.reduceLT, Try.results53]
  obtain ⟨⟨h0, h1⟩, h2, h3⟩ := hp
  obtain ⟨b, rfl⟩ : ∃ k : Nat, b = k := ⟨b.toNat, by omega⟩
  obtain ⟨n, rfl⟩ : ∃ k : Nat, n = k := ⟨n.toNat, by omega⟩
  simp only [Int.toNat_natCast]
  refine loop_intro (fun x : Nat => [(5, .sl 0), (6, .int .i64 x), (0, .int .i64 n), (1, .int .i64 b)]) (fun x => [(0, .arr (.ints (sel b.testBit x)))]) 1 (fun x => x ≤ n) (fun x => n - x) 0 (by omega) (by omega) ?_ ?_
  · simp only [go_sem, cond_true, cond_false, ↓reduceIte, Nat.reduceEqDiff, Nat.reduceBEq, List.map_cons, List.map_nil, List.append_nil, List.cons_append, List.nil_append, true_and, and_true, Nat.reduceAdd, Nat.reduceSub, Nat.zero_add, Nat.add_zero, List.drop_zero, List.drop_succ_cons, List.take_succ_cons, List.take_zero, List.all_cons, List.all_nil, Bool.and_true, Bool.true_and, Bool.and_false, Bool.false_and, Bool.or_true, Bool.true_or, Bool.or_false, Bool.false_or, Bool.not_false, Bool.not_true, Option.getD_some, List.length_cons, List.length_nil, Nat.reduceLeDiff, Option.isSome_none, Option.isSome_some, Nat.reduceMul, eq_self, exists_const, List.toList_toArray, partB_true, partB_false, RK_i64, RK_u64, RK_u8, LoopEnd, List.getElem?_cons_zero, List.getElem?_cons_succ, List.getElem?_nil, Nat.sub_zero, Nat.le_refl, Int.toNat_natCast, List.set_cons_zero, List.set_cons_succ, List.getD_cons_zero, List.getD_cons_succ, Nat.sub_self, Option.map_some, Option.map_none, List.length_append, Nat.reduceLT]
    repeat' (first | refine fork_intro (fun hb => ?_) (fun hb => ?_) | refine partB_intro (fun hb => ?_) (fun hb => ?_) | refine And.intro ?_ ?_)
    all_goals first | exact True.intro | omega | with_reducible rfl | exact congrArg (AV.int _) (by omega) | (first | rfl)
  · intro x hx
    have hs := shr_le b x
    have hsl := sel_len b.testBit x
    have hb1 := bit_one b x
    simp only [go_sem, cond_true, cond_false, ↓reduceIte, Nat.reduceEqDiff, Nat.reduceBEq, List.map_cons, List.map_nil, List.append_nil, List.cons_append, List.nil_append, true_and, and_true, Nat.reduceAdd, Nat.reduceSub, Nat.zero_add, Nat.add_zero, List.drop_zero, List.drop_succ_cons, List.take_succ_cons, List.take_zero, List.all_cons, List.all_nil, Bool.and_true, Bool.true_and, Bool.and_false, Bool.false_and, Bool.or_true, Bool.true_or, Bool.or_false, Bool.false_or, Bool.not_false, Bool.not_true, Option.getD_some, List.length_cons, List.length_nil, Nat.reduceLeDiff, Option.isSome_none, Option.isSome_some, Nat.reduceMul, eq_self, exists_const, List.toList_toArray, partB_true, partB_false, RK_i64, RK_u64, RK_u8, LoopEnd, List.getElem?_cons_zero, List.getElem?_cons_succ, List.getElem?_nil, Nat.sub_zero, Nat.le_refl, Int.toNat_natCast, List.set_cons_zero, List.set_cons_succ, List.getD_cons_zero, List.getD_cons_succ, Nat.sub_self, Option.map_some, Option.map_none, List.length_append, Nat.reduceLT]
    refine fork_intro (fun hc => ?_) (fun hc => ?_)
    · simp only [shr_nat, bitN_and, show Int.toNat 1 = 1 from rfl]
      refine ⟨by omega, ⟨by omega, by omega⟩, fork_intro (fun hd => ?_) (fun hd => ?_)⟩
      · rw [decide_eq_true hd] at hb1
        have e := sel_t (p := b.testBit) (n := x) hb1.symm
        repeat' (first | refine fork_intro (fun hb => ?_) (fun hb => ?_) | refine partB_intro (fun hb => ?_) (fun hb => ?_) | refine And.intro ?_ ?_)
        all_goals first | exact True.intro | omega | with_reducible rfl | exact congrArg (AV.int _) (by omega) | (refine LoopEnd.intro (x + 1) (by first | omega) (by first | omega | (dsimp only; omega)) (by omega) ?_; simp only [go_sem, cond_true, cond_false, ↓reduceIte, Nat.reduceEqDiff, Nat.reduceBEq, List.map_cons, List.map_nil, List.append_nil, List.cons_append, List.nil_append, true_and, and_true, Nat.reduceAdd, Nat.reduceSub, Nat.zero_add, Nat.add_zero, List.drop_zero, List.drop_succ_cons, List.take_succ_cons, List.take_zero, List.all_cons, List.all_nil, Bool.and_true, Bool.true_and, Bool.and_false, Bool.false_and, Bool.or_true, Bool.true_or, Bool.or_false, Bool.false_or, Bool.not_false, Bool.not_true, Option.getD_some, List.length_cons, List.length_nil, Nat.reduceLeDiff, Option.isSome_none, Option.isSome_some, Nat.reduceMul, eq_self, exists_const, List.toList_toArray, partB_true, partB_false, RK_i64, RK_u64, RK_u8, LoopEnd, List.getElem?_cons_zero, List.getElem?_cons_succ, List.getElem?_nil, Nat.sub_zero, Nat.le_refl, Int.toNat_natCast, List.set_cons_zero, List.set_cons_succ, List.getD_cons_zero, List.getD_cons_succ, Nat.sub_self, Option.map_some, Option.map_none, List.length_append, Nat.reduceLT]; (repeat' (first | refine fork_intro (fun hb => ?_) (fun hb => ?_) | refine partB_intro (fun hb => ?_) (fun hb => ?_) | refine And.intro ?_ ?_)); all_goals first | exact True.intro | omega | with_reducible rfl | exact congrArg (AV.int _) (by omega) | (first | rw [e])) | (first | rw [e])
      · rw [decide_eq_false hd] at hb1
        have e := sel_f (p := b.testBit) (n := x) hb1.symm
        repeat' (first | refine fork_intro (fun hb => ?_) (fun hb => ?_) | refine partB_intro (fun hb => ?_) (fun hb => ?_) | refine And.intro ?_ ?_)
        all_goals first | exact True.intro | omega | with_reducible rfl | exact congrArg (AV.int _) (by omega) | (refine LoopEnd.intro (x + 1) (by first | omega) (by first | omega | (dsimp only; omega)) (by omega) ?_; simp only [go_sem, cond_true, cond_false, ↓reduceIte, Nat.reduceEqDiff, Nat.reduceBEq, List.map_cons, List.map_nil, List.append_nil, List.cons_append, List.nil_append, true_and, and_true, Nat.reduceAdd, Nat.reduceSub, Nat.zero_add, Nat.add_zero, List.drop_zero, List.drop_succ_cons, List.take_succ_cons, List.take_zero, List.all_cons, List.all_nil, Bool.and_true, Bool.true_and, Bool.and_false, Bool.false_and, Bool.or_true, Bool.true_or, Bool.or_false, Bool.false_or, Bool.not_false, Bool.not_true, Option.getD_some, List.length_cons, List.length_nil, Nat.reduceLeDiff, Option.isSome_none, Option.isSome_some, Nat.reduceMul, eq_self, exists_const, List.toList_toArray, partB_true, partB_false, RK_i64, RK_u64, RK_u8, LoopEnd, List.getElem?_cons_zero, List.getElem?_cons_succ, List.getElem?_nil, Nat.sub_zero, Nat.le_refl, Int.toNat_natCast, List.set_cons_zero, List.set_cons_succ, List.getD_cons_zero, List.getD_cons_succ, Nat.sub_self, Option.map_some, Option.map_none, List.length_append, Nat.reduceLT]; (repeat' (first | refine fork_intro (fun hb => ?_) (fun hb => ?_) | refine partB_intro (fun hb => ?_) (fun hb => ?_) | refine And.intro ?_ ?_)); all_goals first | exact True.intro | omega | with_reducible rfl | exact congrArg (AV.int _) (by omega) | (first | rw [e])) | (first | rw [e])
    · rw [show x = n by omega]
      repeat' (first | refine fork_intro (fun hb => ?_) (fun hb => ?_) | refine partB_intro (fun hb => ?_) (fun hb => ?_) | refine And.intro ?_ ?_)
      all_goals first | exact True.intro | omega | with_reducible rfl | exact congrArg (AV.int _) (by omega) | (first | rfl)
def t_bitsS : Table := [(53, pureC g_bitsS)]
theorem t_bitsS_ok : TabOK Try.prog t_bitsS := .cons Try.func53 (by kernel_rfl) (.pure (by intro args hp; unfold g_bitsS at hp ⊢; split at hp <;> first | exact hp.elim | exact bitsS_ok _ _ hp)) (.nil _)
attribute [go_sem] g_bitsS_eq t_bitsS
end Go.Proofs.Ytibomnplkclkmaa
