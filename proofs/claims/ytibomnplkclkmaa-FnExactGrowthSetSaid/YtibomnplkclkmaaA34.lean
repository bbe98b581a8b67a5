/- Conflicts: both packages say the same. -/
import Derived.Test.YtibomnplkclkmaaA32
import Derived.Test.YtibomnplkclkmaaA33
import Derived.Test.YtibomnplkclkmaaPlR
namespace Go.Proofs.Ytibomnplkclkmaa
open Go.Vc
set_option maxRecDepth 100000
set_option maxHeartbeats 1600000
set_option linter.unusedSimpArgs false
set_option linter.unusedVariables false

def g_conflictS : List AV → Prop × AV
  | [.agg [.ints o, .rows d], .agg [.int .i64 now, .ints p, .bools bs, .ints wt, .ints t], .int .i64 a, .int .i64 b] => ((FieldOK o d ∧ p.length = d.length ∧ t.length = o.length) ∧ (0 ≤ a ∧ a < o.length) ∧ 0 ≤ b ∧ b < o.length, .bool (cnfB d p t a b))
  | _ => (False, .undef)
theorem g_conflictS_eq (o : List Int) (d : List (List Int)) (now : Int) (p : List Int) (bs : List Bool) (wt t : List Int) (a b : Int) : g_conflictS [.agg [.ints o, .rows d], .agg [.int .i64 now, .ints p, .bools bs, .ints wt, .ints t], .int .i64 a, .int .i64 b] = ((FieldOK o d ∧ p.length = d.length ∧ t.length = o.length) ∧ (0 ≤ a ∧ a < o.length) ∧ 0 ≤ b ∧ b < o.length, .bool (cnfB d p t a b)) := (rfl)
theorem conflictS_ok (o : List Int) (d : List (List Int)) (now : Int) (p : List Int) (bs : List Bool) (wt t : List Int) (a b : Int) (hp : (FieldOK o d ∧ p.length = d.length ∧ t.length = o.length) ∧ (0 ≤ a ∧ a < o.length) ∧ 0 ≤ b ∧ b < o.length) : SpecOK Try.prog 82 [.agg [.ints o, .rows d], .agg [.int .i64 now, .ints p, .bools bs, .ints wt, .ints t], .int .i64 a, .int .i64 b] (.bool (cnfB d p t a b)) [] := by
  refine fun_ok (C := []) (hint := hintX [] [] 0 [] [] [] []) (TabOK.nil _) mixed Try.func82 rfl (by kernel_rfl) rfl ?_
  show codeA _ _ _ _ _ _ _ _
  simp only [go_sem, ↓reduceIte, Nat.reduceEqDiff, Nat.reduceBEq, Nat.reduceAdd, Nat.reduceSub, Nat.reduceLeDiff, Nat.reduceMul, Nat.reduceLT, Try.results82]
  obtain ⟨⟨hf, lp, lt⟩, ⟨ha0, ha1⟩, hb0, hb1⟩ := hp
  have hm := hf.m7
  refine loop_intro (fun j : Nat => [(9, .int .i64 j), (2, .int .i64 a), (3, .int .i64 b), (4, .iptr [.ints o, .rows d]), (5, .iptr [.int .i64 now, .ints p, .bools bs, .ints wt, .ints t])]) (fun _ => []) 0 (fun j => j ≤ d.length ∧ ∀ k : Nat, k < j → ¬ (2520 * ix (ix d (k : Int)) a < ix p (k : Int) ∧ 2520 * ix (ix d (k : Int)) b < ix p (k : Int))) (fun j => d.length - j) 0 ⟨Nat.zero_le _, fun k hk => by omega⟩ (by omega) ?_ ?_
  · simp only [go_sem, ↓reduceIte, Nat.reduceEqDiff, Nat.reduceBEq, Nat.reduceAdd, Nat.reduceSub, Nat.reduceLeDiff, Nat.reduceMul, Nat.reduceLT]
    repeat' (first | refine fork_intro (fun hb => ?_) (fun hb => ?_) | refine partB_intro (fun hb => ?_) (fun hb => ?_) | refine And.intro ?_ ?_)
    all_goals first | exact True.intro | omega | with_reducible rfl | exact congrArg (AV.int _) (by omega) | (first | rfl)
  · rintro j ⟨hj, hn⟩
    simp only [go_sem, ↓reduceIte, Nat.reduceEqDiff, Nat.reduceBEq, Nat.reduceAdd, Nat.reduceSub, Nat.reduceLeDiff, Nat.reduceMul, Nat.reduceLT]
    refine fork_intro (fun hc => ?_) (fun hc => ?_)
    · have hjd : j < d.length := by omega
      have hr := ix_mem d hjd
      have hl := hf.len _ hr
      have e1 := hf.d99 _ hr _ (ix_memI (ix d (j : Int)) ha0 (by omega))
      have e2 := hf.d99 _ hr _ (ix_memI (ix d (j : Int)) hb0 (by omega))
      have hnext : ¬ (2520 * ix (ix d (j : Int)) a < ix p (j : Int) ∧ 2520 * ix (ix d (j : Int)) b < ix p (j : Int)) → ∀ k : Nat, k < j + 1 → ¬ (2520 * ix (ix d (k : Int)) a < ix p (k : Int) ∧ 2520 * ix (ix d (k : Int)) b < ix p (k : Int)) := fun h k hk => by
        by_cases e : k = j
        · subst e; exact h
        · exact hn k (by omega)
      have hyes : 2520 * ix (ix d (j : Int)) a < ix p (j : Int) ∧ 2520 * ix (ix d (j : Int)) b < ix p (j : Int) → cnfX d p a b = true := fun h => decide_eq_true ⟨j, hjd, h⟩
      refine ⟨by omega, by omega, by omega, by omega, fork_intro (fun h1 => ⟨by omega, by omega, by omega, by omega, fork_intro (fun h2 => ?_) (fun h2 => ?_)⟩) (fun h1 => ?_)⟩
      · have hy := hyes ⟨h1, h2⟩
        have hcb : cnfB d p t a b = (decide (0 ≤ ix t a) && decide (0 ≤ ix t b)) := by unfold cnfB; rw [hy, Bool.and_true]
        refine ⟨by omega, fork_intro (fun h3 => ⟨by omega, ?_⟩) (fun h3 => ?_)⟩
        · rw [hcb, decide_eq_true h3, Bool.true_and]
        · rw [hcb, decide_eq_false h3, Bool.false_and]
      · have hz := hnext (fun hh => h2 hh.2)
        repeat' (first | refine fork_intro (fun hb => ?_) (fun hb => ?_) | refine partB_intro (fun hb => ?_) (fun hb => ?_) | refine And.intro ?_ ?_)
        all_goals first | exact True.intro | omega | with_reducible rfl | exact congrArg (AV.int _) (by omega) | (refine LoopEnd.intro (j + 1) (by first | omega | (first | exact ⟨by omega, hz⟩)) (by first | omega | (dsimp only; omega)) (by omega) ?_; simp only [go_sem, ↓reduceIte, Nat.reduceEqDiff, Nat.reduceBEq, Nat.reduceAdd, Nat.reduceSub, Nat.reduceLeDiff, Nat.reduceMul, Nat.reduceLT]; (repeat' (first | refine fork_intro (fun hb => ?_) (fun hb => ?_) | refine partB_intro (fun hb => ?_) (fun hb => ?_) | refine And.intro ?_ ?_)); all_goals first | exact True.intro | omega | with_reducible rfl | exact congrArg (AV.int _) (by omega) | (first | rfl)) | (first | rfl)
      · have hz := hnext (fun hh => h1 hh.1)
        repeat' (first | refine fork_intro (fun hb => ?_) (fun hb => ?_) | refine partB_intro (fun hb => ?_) (fun hb => ?_) | refine And.intro ?_ ?_)
        all_goals first | exact True.intro | omega | with_reducible rfl | exact congrArg (AV.int _) (by omega) | (refine LoopEnd.intro (j + 1) (by first | omega | (first | exact ⟨by omega, hz⟩)) (by first | omega | (dsimp only; omega)) (by omega) ?_; simp only [go_sem, ↓reduceIte, Nat.reduceEqDiff, Nat.reduceBEq, Nat.reduceAdd, Nat.reduceSub, Nat.reduceLeDiff, Nat.reduceMul, Nat.reduceLT]; (repeat' (first | refine fork_intro (fun hb => ?_) (fun hb => ?_) | refine partB_intro (fun hb => ?_) (fun hb => ?_) | refine And.intro ?_ ?_)); all_goals first | exact True.intro | omega | with_reducible rfl | exact congrArg (AV.int _) (by omega) | (first | rfl)) | (first | rfl)
    · have ej : j = d.length := by omega
      subst ej
      have e : cnfX d p a b = false := decide_eq_false (fun ⟨k, h1, h2⟩ => hn k h1 h2)
      unfold cnfB
      rw [e, Bool.and_false]
def t_conflictS : Table := [(82, pureC g_conflictS)]
theorem t_conflictS_ok : TabOK Try.prog t_conflictS := .cons Try.func82 (by kernel_rfl) (.pure (by intro args hp; unfold g_conflictS at hp ⊢; split at hp <;> first | exact hp.elim | exact conflictS_ok _ _ _ _ _ _ _ _ _ hp)) (.nil _)
attribute [go_sem] g_conflictS_eq t_conflictS
def g_conflictI : List AV → Prop × AV
  | [.agg [.ints o, .rows d], .agg [.ints p, .ints t, .ints w], .int .i64 a, .int .i64 b] => ((FieldOK o d ∧ p.length = d.length) ∧ (0 ≤ a ∧ a < o.length) ∧ 0 ≤ b ∧ b < o.length, .bool (cnfX d p a b))
  | _ => (False, .undef)
theorem g_conflictI_eq (o : List Int) (d : List (List Int)) (p t w : List Int) (a b : Int) : g_conflictI [.agg [.ints o, .rows d], .agg [.ints p, .ints t, .ints w], .int .i64 a, .int .i64 b] = ((FieldOK o d ∧ p.length = d.length) ∧ (0 ≤ a ∧ a < o.length) ∧ 0 ≤ b ∧ b < o.length, .bool (cnfX d p a b)) := (rfl)
theorem conflictI_ok (o : List Int) (d : List (List Int)) (p t w : List Int) (a b : Int) (hp : (FieldOK o d ∧ p.length = d.length) ∧ (0 ≤ a ∧ a < o.length) ∧ 0 ≤ b ∧ b < o.length) : SpecOK Try.prog 83 [.agg [.ints o, .rows d], .agg [.ints p, .ints t, .ints w], .int .i64 a, .int .i64 b] (.bool (cnfX d p a b)) [] := by
  refine fun_ok (C := []) (hint := hintX [] [] 0 [] [] [] []) (TabOK.nil _) mixed Try.func83 rfl (by kernel_rfl) rfl ?_
  show codeA _ _ _ _ _ _ _ _
  simp only [go_sem, ↓reduceIte, Nat.reduceEqDiff, Nat.reduceBEq, Nat.reduceAdd, Nat.reduceSub, Nat.reduceLeDiff, Nat.reduceMul, Nat.reduceLT, Try.results83]
  obtain ⟨⟨hf, lp⟩, ⟨ha0, ha1⟩, hb0, hb1⟩ := hp
  have hm := hf.m7
  refine loop_intro (fun j : Nat => [(14, .int .i64 j), (13, .int .i64 d.length), (12, .rows d), (2, .int .i64 a), (3, .int .i64 b), (4, .iptr [.ints o, .rows d]), (5, .iptr [.ints p, .ints t, .ints w])]) (fun _ => []) 0 (fun j => j ≤ d.length ∧ ∀ k : Nat, k < j → ¬ (2520 * ix (ix d (k : Int)) a < ix p (k : Int) ∧ 2520 * ix (ix d (k : Int)) b < ix p (k : Int))) (fun j => d.length - j) 0 ⟨Nat.zero_le _, fun k hk => by omega⟩ (by omega) ?_ ?_
  · simp only [go_sem, ↓reduceIte, Nat.reduceEqDiff, Nat.reduceBEq, Nat.reduceAdd, Nat.reduceSub, Nat.reduceLeDiff, Nat.reduceMul, Nat.reduceLT]
    repeat' (first | refine fork_intro (fun hb => ?_) (fun hb => ?_) | refine partB_intro (fun hb => ?_) (fun hb => ?_) | refine And.intro ?_ ?_)
    all_goals first | exact True.intro | omega | with_reducible rfl | exact congrArg (AV.int _) (by omega) | (first | rfl)
  · rintro j ⟨hj, hn⟩
    simp only [go_sem, ↓reduceIte, Nat.reduceEqDiff, Nat.reduceBEq, Nat.reduceAdd, Nat.reduceSub, Nat.reduceLeDiff, Nat.reduceMul, Nat.reduceLT]
    refine fork_intro (fun hc => ?_) (fun hc => ?_)
    · have hjd : j < d.length := by omega
      have hr := ix_mem d hjd
      have hl := hf.len _ hr
      have e1 := hf.d99 _ hr _ (ix_memI (ix d (j : Int)) ha0 (by omega))
      have e2 := hf.d99 _ hr _ (ix_memI (ix d (j : Int)) hb0 (by omega))
      have hnext : ¬ (2520 * ix (ix d (j : Int)) a < ix p (j : Int) ∧ 2520 * ix (ix d (j : Int)) b < ix p (j : Int)) → ∀ k : Nat, k < j + 1 → ¬ (2520 * ix (ix d (k : Int)) a < ix p (k : Int) ∧ 2520 * ix (ix d (k : Int)) b < ix p (k : Int)) := fun h k hk => by
        by_cases e : k = j
        · subst e; exact h
        · exact hn k (by omega)
      have hyes : 2520 * ix (ix d (j : Int)) a < ix p (j : Int) ∧ 2520 * ix (ix d (j : Int)) b < ix p (j : Int) → cnfX d p a b = true := fun h => decide_eq_true ⟨j, hjd, h⟩
      simp only [Int.mul_comm (ix (ix d (j : Int)) a) 2520, Int.mul_comm (ix (ix d (j : Int)) b) 2520]
      refine ⟨by omega, by omega, by omega, by omega, fork_intro (fun h1 => ⟨by omega, by omega, by omega, fork_intro (fun h2 => ?_) (fun h2 => ?_)⟩) (fun h1 => ?_)⟩
      · rw [hyes ⟨h1, h2⟩]
      · have hz := hnext (fun hh => h2 hh.2)
        repeat' (first | refine fork_intro (fun hb => ?_) (fun hb => ?_) | refine partB_intro (fun hb => ?_) (fun hb => ?_) | refine And.intro ?_ ?_)
        all_goals first | exact True.intro | omega | with_reducible rfl | exact congrArg (AV.int _) (by omega) | (refine LoopEnd.intro (j + 1) (by first | omega | (first | exact ⟨by omega, hz⟩)) (by first | omega | (dsimp only; omega)) (by omega) ?_; simp only [go_sem, ↓reduceIte, Nat.reduceEqDiff, Nat.reduceBEq, Nat.reduceAdd, Nat.reduceSub, Nat.reduceLeDiff, Nat.reduceMul, Nat.reduceLT]; (repeat' (first | refine fork_intro (fun hb => ?_) (fun hb => ?_) | refine partB_intro (fun hb => ?_) (fun hb => ?_) | refine And.intro ?_ ?_)); all_goals first | exact True.intro | omega | with_reducible rfl | exact congrArg (AV.int _) (by omega) | (first | rfl)) | (first | rfl)
      · have hz := hnext (fun hh => h1 hh.1)
        repeat' (first | refine fork_intro (fun hb => ?_) (fun hb => ?_) | refine partB_intro (fun hb => ?_) (fun hb => ?_) | refine And.intro ?_ ?_)
        all_goals first | exact True.intro | omega | with_reducible rfl | exact congrArg (AV.int _) (by omega) | (refine LoopEnd.intro (j + 1) (by first | omega | (first | exact ⟨by omega, hz⟩)) (by first | omega | (dsimp only; omega)) (by omega) ?_; simp only [go_sem, ↓reduceIte, Nat.reduceEqDiff, Nat.reduceBEq, Nat.reduceAdd, Nat.reduceSub, Nat.reduceLeDiff, Nat.reduceMul, Nat.reduceLT]; (repeat' (first | refine fork_intro (fun hb => ?_) (fun hb => ?_) | refine partB_intro (fun hb => ?_) (fun hb => ?_) | refine And.intro ?_ ?_)); all_goals first | exact True.intro | omega | with_reducible rfl | exact congrArg (AV.int _) (by omega) | (first | rfl)) | (first | rfl)
    · have ej : j = d.length := by omega
      subst ej
      have e : cnfX d p a b = false := decide_eq_false (fun ⟨k, h1, h2⟩ => hn k h1 h2)
      rw [e]
def t_conflictI : Table := [(83, pureC g_conflictI)]
theorem t_conflictI_ok : TabOK Try.prog t_conflictI := .cons Try.func83 (by kernel_rfl) (.pure (by intro args hp; unfold g_conflictI at hp ⊢; split at hp <;> first | exact hp.elim | exact conflictI_ok _ _ _ _ _ _ _ hp)) (.nil _)
attribute [go_sem] g_conflictI_eq t_conflictI
def g_conflictsOfS : List AV → Prop × AV
  | [.agg [.ints o, .rows d]] => (o.length ≤ 1048576000 ∧ d.length ≤ 1048576000 ∧ ∀ x ∈ d, x.length ≤ 1048576000, .tup [.pairs (bif good o d then confL o d else []), .bool (good o d)])
  | _ => (False, .undef)
theorem g_conflictsOfS_eq (o : List Int) (d : List (List Int)) : g_conflictsOfS [.agg [.ints o, .rows d]] = (o.length ≤ 1048576000 ∧ d.length ≤ 1048576000 ∧ ∀ x ∈ d, x.length ≤ 1048576000, .tup [.pairs (bif good o d then confL o d else []), .bool (good o d)]) := (rfl)
theorem conflictsOfS_ok (o : List Int) (d : List (List Int)) (hp : o.length ≤ 1048576000 ∧ d.length ≤ 1048576000 ∧ ∀ x ∈ d, x.length ≤ 1048576000) : SpecOK Try.prog 35 [.agg [.ints o, .rows d]] (.tup [.pairs (bif good o d then confL o d else []), .bool (good o d)]) [] := by
  refine fun_ok (C := t_l2Good ++ t_growS ++ t_conflictS) (hint := hintX [5, 8] [] 0 [] [] [] []) (((t_l2Good_ok).append t_growS_ok).append t_conflictS_ok) mixed Try.func35 rfl (by kernel_rfl) rfl ?_
  show codeA _ _ _ _ _ _ _ _
  simp only [go_sem, ↓reduceIte, Nat.reduceEqDiff, Nat.reduceBEq, Nat.reduceAdd, Nat.reduceSub, Nat.reduceLeDiff, Nat.reduceMul, Nat.reduceLT, Try.results35]
  refine ⟨hp, partB_intro (fun hg => ?_) (fun hg => ?_)⟩
  · rw [hg]
    have hf := good_iff.1 hg
    have hn := hf.n7
    obtain ⟨l1, l2, l3⟩ := grown_lens o d
    have hk := fun {a : Nat} (ha : a ≤ o.length) => conf7 hn (cnfQ d (grown o d)) ha
    refine ⟨hf, ?_⟩
    refine loop_intro (fun a : Nat => [(6, .int .i64 a), (5, .bx 1 0), (4, .sl 0), (1, .iptr [.ints o, .rows d])]) (fun a => [(0, .arr (.pairs (confA (cnfQ d (grown o d)) o.length a))), (1, .box [.int .i64 (grown o d).now, .ints (grown o d).p, .bools (stB (grown o d).w), .ints (stW (grown o d).w), .ints (grown o d).t])]) 2 (fun a => a ≤ o.length) (fun a => o.length - a) 0 (Nat.zero_le _) (by omega) ?_ ?_
    · simp only [go_sem, ↓reduceIte, Nat.reduceEqDiff, Nat.reduceBEq, Nat.reduceAdd, Nat.reduceSub, Nat.reduceLeDiff, Nat.reduceMul, Nat.reduceLT]
      repeat' (first | refine fork_intro (fun hb => ?_) (fun hb => ?_) | refine partB_intro (fun hb => ?_) (fun hb => ?_) | refine And.intro ?_ ?_)
      all_goals first | exact True.intro | omega | with_reducible rfl | exact congrArg (AV.int _) (by omega) | (first | rfl)
    · intro a ha
      have hka := hk ha
      simp only [go_sem, ↓reduceIte, Nat.reduceEqDiff, Nat.reduceBEq, Nat.reduceAdd, Nat.reduceSub, Nat.reduceLeDiff, Nat.reduceMul, Nat.reduceLT]
      refine fork_intro (fun hc => ?_) (fun hc => ?_)
      · refine ⟨by omega, ?_⟩
        refine loop_intro (fun b : Nat => [(7, .int .i64 b), (6, .int .i64 a), (5, .bx 1 0), (4, .sl 0), (1, .iptr [.ints o, .rows d])]) (fun b => [(0, .arr (.pairs (confA (cnfQ d (grown o d)) o.length a ++ confR (cnfQ d (grown o d)) a b))), (1, .box [.int .i64 (grown o d).now, .ints (grown o d).p, .bools (stB (grown o d).w), .ints (stW (grown o d).w), .ints (grown o d).t])]) 2 (fun b => a < b ∧ b ≤ o.length) (fun b => o.length - b) (a + 1) ⟨by omega, by omega⟩ (by omega) ?_ ?_
        · have e0 := confR_none (cnfQ d (grown o d)) a (a + 1) (Nat.le_refl _)
          simp only [go_sem, ↓reduceIte, Nat.reduceEqDiff, Nat.reduceBEq, Nat.reduceAdd, Nat.reduceSub, Nat.reduceLeDiff, Nat.reduceMul, Nat.reduceLT]
          repeat' (first | refine fork_intro (fun hb => ?_) (fun hb => ?_) | refine partB_intro (fun hb => ?_) (fun hb => ?_) | refine And.intro ?_ ?_)
          all_goals first | exact True.intro | omega | with_reducible rfl | exact congrArg (AV.int _) (by omega) | (first | rfl | rw [e0, List.append_nil])
        · rintro b ⟨hab, hb⟩
          have hR := confR_len (cnfQ d (grown o d)) a b
          have hl : (confA (cnfQ d (grown o d)) o.length a ++ confR (cnfQ d (grown o d)) a b).length ≤ 56 := by rw [List.length_append]; omega
          simp only [go_sem, ↓reduceIte, Nat.reduceEqDiff, Nat.reduceBEq, Nat.reduceAdd, Nat.reduceSub, Nat.reduceLeDiff, Nat.reduceMul, Nat.reduceLT]
          refine fork_intro (fun hd => ?_) (fun hd => ?_)
          · refine ⟨⟨⟨hf, l1, l2⟩, by omega, by omega⟩, partB_intro (fun hq => ?_) (fun hq => ?_)⟩
            · have e := confR_t (q := cnfQ d (grown o d)) (a := a) (k := b) hab hq
              repeat' (first | refine fork_intro (fun hb => ?_) (fun hb => ?_) | refine partB_intro (fun hb => ?_) (fun hb => ?_) | refine And.intro ?_ ?_)
              all_goals first | exact True.intro | omega | with_reducible rfl | exact congrArg (AV.int _) (by omega) | (refine LoopEnd.intro (b + 1) (by first | omega | (first | exact ⟨by omega, by omega⟩)) (by first | omega | (dsimp only; omega)) (by omega) ?_; simp only [go_sem, ↓reduceIte, Nat.reduceEqDiff, Nat.reduceBEq, Nat.reduceAdd, Nat.reduceSub, Nat.reduceLeDiff, Nat.reduceMul, Nat.reduceLT]; (repeat' (first | refine fork_intro (fun hb => ?_) (fun hb => ?_) | refine partB_intro (fun hb => ?_) (fun hb => ?_) | refine And.intro ?_ ?_)); all_goals first | exact True.intro | omega | with_reducible rfl | exact congrArg (AV.int _) (by omega) | (first | rfl | (rw [List.append_assoc, e]))) | (first | rfl | (rw [List.append_assoc, e]))
            · have e := confR_f (q := cnfQ d (grown o d)) (a := a) (k := b) hq
              repeat' (first | refine fork_intro (fun hb => ?_) (fun hb => ?_) | refine partB_intro (fun hb => ?_) (fun hb => ?_) | refine And.intro ?_ ?_)
              all_goals first | exact True.intro | omega | with_reducible rfl | exact congrArg (AV.int _) (by omega) | (refine LoopEnd.intro (b + 1) (by first | omega | (first | exact ⟨by omega, by omega⟩)) (by first | omega | (dsimp only; omega)) (by omega) ?_; simp only [go_sem, ↓reduceIte, Nat.reduceEqDiff, Nat.reduceBEq, Nat.reduceAdd, Nat.reduceSub, Nat.reduceLeDiff, Nat.reduceMul, Nat.reduceLT]; (repeat' (first | refine fork_intro (fun hb => ?_) (fun hb => ?_) | refine partB_intro (fun hb => ?_) (fun hb => ?_) | refine And.intro ?_ ?_)); all_goals first | exact True.intro | omega | with_reducible rfl | exact congrArg (AV.int _) (by omega) | (first | rfl | rw [e])) | (first | rfl | rw [e])
          · have eb : b = o.length := by omega
            subst eb
            repeat' (first | refine fork_intro (fun hb => ?_) (fun hb => ?_) | refine partB_intro (fun hb => ?_) (fun hb => ?_) | refine And.intro ?_ ?_)
            all_goals first | exact True.intro | omega | with_reducible rfl | exact congrArg (AV.int _) (by omega) | (refine LoopEnd.intro (a + 1) (by first | omega) (by first | omega | (dsimp only; omega)) (by omega) ?_; simp only [go_sem, ↓reduceIte, Nat.reduceEqDiff, Nat.reduceBEq, Nat.reduceAdd, Nat.reduceSub, Nat.reduceLeDiff, Nat.reduceMul, Nat.reduceLT]; (repeat' (first | refine fork_intro (fun hb => ?_) (fun hb => ?_) | refine partB_intro (fun hb => ?_) (fun hb => ?_) | refine And.intro ?_ ?_)); all_goals first | exact True.intro | omega | with_reducible rfl | exact congrArg (AV.int _) (by omega) | (first | rfl)) | (first | rfl)
      · have ea : a = o.length := by omega
        subst ea
        repeat' (first | refine fork_intro (fun hb => ?_) (fun hb => ?_) | refine partB_intro (fun hb => ?_) (fun hb => ?_) | refine And.intro ?_ ?_)
        all_goals first | exact True.intro | omega | with_reducible rfl | exact congrArg (AV.int _) (by omega) | (first | rfl)
  · rw [hg]
    repeat' (first | refine fork_intro (fun hb => ?_) (fun hb => ?_) | refine partB_intro (fun hb => ?_) (fun hb => ?_) | refine And.intro ?_ ?_)
    all_goals first | exact True.intro | omega | with_reducible rfl | exact congrArg (AV.int _) (by omega) | (first | rfl)
def t_conflictsOfS : Table := [(35, pureC g_conflictsOfS)]
theorem t_conflictsOfS_ok : TabOK Try.prog t_conflictsOfS := .cons Try.func35 (by kernel_rfl) (.pure (by intro args hp; unfold g_conflictsOfS at hp ⊢; split at hp <;> first | exact hp.elim | exact conflictsOfS_ok _ _ hp)) (.nil _)
attribute [go_sem] g_conflictsOfS_eq t_conflictsOfS
def g_conflictsOfI : List AV → Prop × AV × Heap
  | [.agg [.ints o, .rows d]] => (o.length ≤ 1048576000 ∧ d.length ≤ 1048576000 ∧ ∀ x ∈ d, x.length ≤ 1048576000, .tup [.sl 0, .bool (good o d)], [(0, .arr (.pairs (bif good o d then confL o d else [])))])
  | _ => (False, .undef, [])
theorem g_conflictsOfI_eq (o : List Int) (d : List (List Int)) : g_conflictsOfI [.agg [.ints o, .rows d]] = (o.length ≤ 1048576000 ∧ d.length ≤ 1048576000 ∧ ∀ x ∈ d, x.length ≤ 1048576000, .tup [.sl 0, .bool (good o d)], [(0, .arr (.pairs (bif good o d then confL o d else [])))]) := (rfl)
theorem conflictsOfI_ok (o : List Int) (d : List (List Int)) (hp : o.length ≤ 1048576000 ∧ d.length ≤ 1048576000 ∧ ∀ x ∈ d, x.length ≤ 1048576000) : SpecOK Try.prog 36 [.agg [.ints o, .rows d]] (.tup [.sl 0, .bool (good o d)]) [(0, .arr (.pairs (bif good o d then confL o d else [])))] := by
  refine fun_ok (C := t_isF ++ t_growI ++ t_conflictI) (hint := hintX [4, 12, 13] [(2, [.post, .up 2 (.arr (.pairs []))]), (13, [.post, .ren 2 0])] 0 [] [] [] []) (((t_isF_ok).append t_growI_ok).append t_conflictI_ok) mixed Try.func36 rfl (by kernel_rfl) rfl ?_
  show codeA _ _ _ _ _ _ _ _
  simp only [go_sem, ↓reduceIte, Nat.reduceEqDiff, Nat.reduceBEq, Nat.reduceAdd, Nat.reduceSub, Nat.reduceLeDiff, Nat.reduceMul, Nat.reduceLT, Try.results36]
  refine ⟨hp, partB_intro (fun hg => ?_) (fun hg => ?_)⟩
  · rw [hg]
    have hf := good_iff.1 hg
    have hn := hf.n7
    obtain ⟨l1, l2, l3⟩ := grown_lens o d
    have hk := fun {a : Nat} (ha : a ≤ o.length) => conf7 hn (cnfQ d (grown o d)) ha
    refine ⟨hf, ?_⟩
    refine loop_intro (fun a : Nat => [(17, .int .i64 a), (16, .int .i64 o.length), (5, .sl 4), (4, .bx 5 0), (1, .iptr [.ints o, .rows d])]) (fun a => [(1, .arr (.ints (grown o d).p)), (2, .arr (.ints (grown o d).t)), (3, .arr (.ints (grown o d).w)), (4, .arr (.pairs (confA (cnfQ d (grown o d)) o.length a))), (5, .box [.sl 1, .sl 2, .sl 3])]) 6 (fun a => a ≤ o.length) (fun a => o.length - a) 0 (Nat.zero_le _) (by omega) ?_ ?_
    · simp only [go_sem, ↓reduceIte, Nat.reduceEqDiff, Nat.reduceBEq, Nat.reduceAdd, Nat.reduceSub, Nat.reduceLeDiff, Nat.reduceMul, Nat.reduceLT]
      repeat' (first | refine fork_intro (fun hb => ?_) (fun hb => ?_) | refine partB_intro (fun hb => ?_) (fun hb => ?_) | refine And.intro ?_ ?_)
      all_goals first | exact True.intro | omega | with_reducible rfl | exact congrArg (AV.int _) (by omega) | (first | rfl)
    · intro a ha
      have hka := hk ha
      simp only [go_sem, ↓reduceIte, Nat.reduceEqDiff, Nat.reduceBEq, Nat.reduceAdd, Nat.reduceSub, Nat.reduceLeDiff, Nat.reduceMul, Nat.reduceLT]
      refine fork_intro (fun hc => ?_) (fun hc => ?_)
      · refine ⟨by omega, ?_⟩
        refine loop_intro (fun b : Nat => [(7, .int .i64 b), (6, .int .i64 a), (17, .int .i64 a), (16, .int .i64 o.length), (5, .sl 4), (4, .bx 5 0), (1, .iptr [.ints o, .rows d])]) (fun b => [(1, .arr (.ints (grown o d).p)), (2, .arr (.ints (grown o d).t)), (3, .arr (.ints (grown o d).w)), (4, .arr (.pairs (confA (cnfQ d (grown o d)) o.length a ++ confR (cnfQ d (grown o d)) a b))), (5, .box [.sl 1, .sl 2, .sl 3])]) 6 (fun b => a < b ∧ b ≤ o.length) (fun b => o.length - b) (a + 1) ⟨by omega, by omega⟩ (by omega) ?_ ?_
        · have e0 := confR_none (cnfQ d (grown o d)) a (a + 1) (Nat.le_refl _)
          simp only [go_sem, ↓reduceIte, Nat.reduceEqDiff, Nat.reduceBEq, Nat.reduceAdd, Nat.reduceSub, Nat.reduceLeDiff, Nat.reduceMul, Nat.reduceLT]
          repeat' (first | refine fork_intro (fun hb => ?_) (fun hb => ?_) | refine partB_intro (fun hb => ?_) (fun hb => ?_) | refine And.intro ?_ ?_)
          all_goals first | exact True.intro | omega | with_reducible rfl | exact congrArg (AV.int _) (by omega) | (first | rfl | rw [e0, List.append_nil])
        · rintro b ⟨hab, hb⟩
          have hR := confR_len (cnfQ d (grown o d)) a b
          have hl : (confA (cnfQ d (grown o d)) o.length a ++ confR (cnfQ d (grown o d)) a b).length ≤ 56 := by rw [List.length_append]; omega
          have eq : (cnfQ d (grown o d)) a b = (decide (0 ≤ ix (grown o d).t (a : Int)) && decide (0 ≤ ix (grown o d).t (b : Int)) && cnfX d (grown o d).p (a : Int) (b : Int)) := rfl
          simp only [go_sem, ↓reduceIte, Nat.reduceEqDiff, Nat.reduceBEq, Nat.reduceAdd, Nat.reduceSub, Nat.reduceLeDiff, Nat.reduceMul, Nat.reduceLT]
          refine fork_intro (fun hd => ?_) (fun hd => ?_)
          · refine ⟨by omega, fork_intro (fun h1 => ⟨by omega, fork_intro (fun h2 => ⟨⟨⟨hf, l1⟩, by omega, by omega⟩, partB_intro (fun hq => ?_) (fun hq => ?_)⟩) (fun h2 => ?_)⟩) (fun h1 => ?_)⟩
            · rw [decide_eq_true h1, decide_eq_true h2, hq] at eq
              have e := confR_t (q := cnfQ d (grown o d)) (a := a) (k := b) hab eq
              repeat' (first | refine fork_intro (fun hb => ?_) (fun hb => ?_) | refine partB_intro (fun hb => ?_) (fun hb => ?_) | refine And.intro ?_ ?_)
              all_goals first | exact True.intro | omega | with_reducible rfl | exact congrArg (AV.int _) (by omega) | (refine LoopEnd.intro (b + 1) (by first | omega | (first | exact ⟨by omega, by omega⟩)) (by first | omega | (dsimp only; omega)) (by omega) ?_; simp only [go_sem, ↓reduceIte, Nat.reduceEqDiff, Nat.reduceBEq, Nat.reduceAdd, Nat.reduceSub, Nat.reduceLeDiff, Nat.reduceMul, Nat.reduceLT]; (repeat' (first | refine fork_intro (fun hb => ?_) (fun hb => ?_) | refine partB_intro (fun hb => ?_) (fun hb => ?_) | refine And.intro ?_ ?_)); all_goals first | exact True.intro | omega | with_reducible rfl | exact congrArg (AV.int _) (by omega) | (first | rfl | (rw [List.append_assoc, e]))) | (first | rfl | (rw [List.append_assoc, e]))
            · rw [hq, Bool.and_false] at eq
              have e := confR_f (q := cnfQ d (grown o d)) (a := a) (k := b) eq
              repeat' (first | refine fork_intro (fun hb => ?_) (fun hb => ?_) | refine partB_intro (fun hb => ?_) (fun hb => ?_) | refine And.intro ?_ ?_)
              all_goals first | exact True.intro | omega | with_reducible rfl | exact congrArg (AV.int _) (by omega) | (refine LoopEnd.intro (b + 1) (by first | omega | (first | exact ⟨by omega, by omega⟩)) (by first | omega | (dsimp only; omega)) (by omega) ?_; simp only [go_sem, ↓reduceIte, Nat.reduceEqDiff, Nat.reduceBEq, Nat.reduceAdd, Nat.reduceSub, Nat.reduceLeDiff, Nat.reduceMul, Nat.reduceLT]; (repeat' (first | refine fork_intro (fun hb => ?_) (fun hb => ?_) | refine partB_intro (fun hb => ?_) (fun hb => ?_) | refine And.intro ?_ ?_)); all_goals first | exact True.intro | omega | with_reducible rfl | exact congrArg (AV.int _) (by omega) | (first | rfl | rw [e])) | (first | rfl | rw [e])
            · rw [decide_eq_false h2, Bool.and_false, Bool.false_and] at eq
              have e := confR_f (q := cnfQ d (grown o d)) (a := a) (k := b) eq
              repeat' (first | refine fork_intro (fun hb => ?_) (fun hb => ?_) | refine partB_intro (fun hb => ?_) (fun hb => ?_) | refine And.intro ?_ ?_)
              all_goals first | exact True.intro | omega | with_reducible rfl | exact congrArg (AV.int _) (by omega) | (refine LoopEnd.intro (b + 1) (by first | omega | (first | exact ⟨by omega, by omega⟩)) (by first | omega | (dsimp only; omega)) (by omega) ?_; simp only [go_sem, ↓reduceIte, Nat.reduceEqDiff, Nat.reduceBEq, Nat.reduceAdd, Nat.reduceSub, Nat.reduceLeDiff, Nat.reduceMul, Nat.reduceLT]; (repeat' (first | refine fork_intro (fun hb => ?_) (fun hb => ?_) | refine partB_intro (fun hb => ?_) (fun hb => ?_) | refine And.intro ?_ ?_)); all_goals first | exact True.intro | omega | with_reducible rfl | exact congrArg (AV.int _) (by omega) | (first | rfl | rw [e])) | (first | rfl | rw [e])
            · rw [decide_eq_false h1, Bool.false_and, Bool.false_and] at eq
              have e := confR_f (q := cnfQ d (grown o d)) (a := a) (k := b) eq
              repeat' (first | refine fork_intro (fun hb => ?_) (fun hb => ?_) | refine partB_intro (fun hb => ?_) (fun hb => ?_) | refine And.intro ?_ ?_)
              all_goals first | exact True.intro | omega | with_reducible rfl | exact congrArg (AV.int _) (by omega) | (refine LoopEnd.intro (b + 1) (by first | omega | (first | exact ⟨by omega, by omega⟩)) (by first | omega | (dsimp only; omega)) (by omega) ?_; simp only [go_sem, ↓reduceIte, Nat.reduceEqDiff, Nat.reduceBEq, Nat.reduceAdd, Nat.reduceSub, Nat.reduceLeDiff, Nat.reduceMul, Nat.reduceLT]; (repeat' (first | refine fork_intro (fun hb => ?_) (fun hb => ?_) | refine partB_intro (fun hb => ?_) (fun hb => ?_) | refine And.intro ?_ ?_)); all_goals first | exact True.intro | omega | with_reducible rfl | exact congrArg (AV.int _) (by omega) | (first | rfl | rw [e])) | (first | rfl | rw [e])
          · have eb : b = o.length := by omega
            subst eb
            repeat' (first | refine fork_intro (fun hb => ?_) (fun hb => ?_) | refine partB_intro (fun hb => ?_) (fun hb => ?_) | refine And.intro ?_ ?_)
            all_goals first | exact True.intro | omega | with_reducible rfl | exact congrArg (AV.int _) (by omega) | (refine LoopEnd.intro (a + 1) (by first | omega) (by first | omega | (dsimp only; omega)) (by omega) ?_; simp only [go_sem, ↓reduceIte, Nat.reduceEqDiff, Nat.reduceBEq, Nat.reduceAdd, Nat.reduceSub, Nat.reduceLeDiff, Nat.reduceMul, Nat.reduceLT]; (repeat' (first | refine fork_intro (fun hb => ?_) (fun hb => ?_) | refine partB_intro (fun hb => ?_) (fun hb => ?_) | refine And.intro ?_ ?_)); all_goals first | exact True.intro | omega | with_reducible rfl | exact congrArg (AV.int _) (by omega) | (first | rfl)) | (first | rfl)
      · have ea : a = o.length := by omega
        subst ea
        repeat' (first | refine fork_intro (fun hb => ?_) (fun hb => ?_) | refine partB_intro (fun hb => ?_) (fun hb => ?_) | refine And.intro ?_ ?_)
        all_goals first | exact True.intro | omega | with_reducible rfl | exact congrArg (AV.int _) (by omega) | (first | rfl)
  · rw [hg]
    repeat' (first | refine fork_intro (fun hb => ?_) (fun hb => ?_) | refine partB_intro (fun hb => ?_) (fun hb => ?_) | refine And.intro ?_ ?_)
    all_goals first | exact True.intro | omega | with_reducible rfl | exact congrArg (AV.int _) (by omega) | (first | rfl)
def t_conflictsOfI : Table := [(36, ownC g_conflictsOfI)]
theorem t_conflictsOfI_ok : TabOK Try.prog t_conflictsOfI := .cons Try.func36 (by kernel_rfl) (.own (by intro args hp; unfold g_conflictsOfI at hp ⊢; split at hp <;> first | exact hp.elim | exact ⟨conflictsOfI_ok _ _ hp, rfl⟩)) (.nil _)
attribute [go_sem] g_conflictsOfI_eq t_conflictsOfI
end Go.Proofs.Ytibomnplkclkmaa
