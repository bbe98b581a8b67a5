/- Pairs of numbers in the laws: what is held, what is equal. -/
import Derived.Test.YtibomnplkclkmaaXP
import Derived.Test.YtibomnplkclkmaaA2
namespace Go.Proofs.Ytibomnplkclkmaa
open Go.Vc
set_option maxRecDepth 100000
set_option linter.unusedSimpArgs false
set_option linter.unusedVariables false

def g_eqPr : List AV → Prop × AV
  | [.agg [.int .i64 a, .int .i64 b], .agg [.int .i64 c, .int .i64 e]] => (True, .bool (decide (a = c ∧ b = e)))
  | _ => (False, .undef)
theorem g_eqPr_eq (a b c e : Int) : g_eqPr [.agg [.int .i64 a, .int .i64 b], .agg [.int .i64 c, .int .i64 e]] = (True, .bool (decide (a = c ∧ b = e))) := (rfl)
theorem eqPr_ok (a b c e : Int) (hp : True) : SpecOK Try.prog 84 [.agg [.int .i64 a, .int .i64 b], .agg [.int .i64 c, .int .i64 e]] (.bool (decide (a = c ∧ b = e))) [] := by
  refine fun_ok (C := []) (hint := hintX [] [] 0 [] [] [] []) (TabOK.nil _) mixed Try.func84 rfl (by kernel_rfl) rfl ?_
  show codeA _ _ _ _ _ _ _ _
  simp only [go_sem, ↓reduceIte, Nat.reduceEqDiff, Nat.reduceBEq, Nat.reduceAdd, Nat.reduceSub, Nat.reduceLeDiff, Nat.reduceMul, Nat.reduceLT, Try.results84]
  refine loop_intro (fun i : Nat => [(5, .int .i64 i), (2, .iptr [.int .i64 a, .int .i64 b]), (3, .iptr [.int .i64 c, .int .i64 e])]) (fun _ => []) 0 (fun i => i ≤ 2 ∧ (1 ≤ i → a = c) ∧ (2 ≤ i → b = e)) (fun i => 2 - i) 0 ⟨by omega, by omega, by omega⟩ (by omega) ?_ ?_
  · simp only [go_sem, ↓reduceIte, Nat.reduceEqDiff, Nat.reduceBEq, Nat.reduceAdd, Nat.reduceSub, Nat.reduceLeDiff, Nat.reduceMul, Nat.reduceLT]
    repeat' (first | refine fork_intro (fun hb => ?_) (fun hb => ?_) | refine partB_intro (fun hb => ?_) (fun hb => ?_) | refine And.intro ?_ ?_)
    all_goals first | exact True.intro | omega | with_reducible rfl | exact congrArg (AV.int _) (by omega) | (first | rfl)
  · rintro i ⟨hi, h1, h2⟩
    rcases (by omega : i = 0 ∨ i = 1 ∨ i = 2) with rfl | rfl | rfl
    · simp only [go_sem, ↓reduceIte, Nat.reduceEqDiff, Nat.reduceBEq, Nat.reduceAdd, Nat.reduceSub, Nat.reduceLeDiff, Nat.reduceMul, Nat.reduceLT]
      refine fork_intro (fun _ => ⟨by omega, by omega, fork_intro (fun h => ?_) (fun h => ?_)⟩) (fun h => by omega)
      · repeat' (first | refine fork_intro (fun hb => ?_) (fun hb => ?_) | refine partB_intro (fun hb => ?_) (fun hb => ?_) | refine And.intro ?_ ?_)
        all_goals first | exact True.intro | omega | with_reducible rfl | exact congrArg (AV.int _) (by omega) | (refine LoopEnd.intro (1) (by first | omega | (first | exact ⟨by omega, fun _ => h, by omega⟩)) (by first | omega | (dsimp only; omega)) (by omega) ?_; simp only [go_sem, ↓reduceIte, Nat.reduceEqDiff, Nat.reduceBEq, Nat.reduceAdd, Nat.reduceSub, Nat.reduceLeDiff, Nat.reduceMul, Nat.reduceLT]; (repeat' (first | refine fork_intro (fun hb => ?_) (fun hb => ?_) | refine partB_intro (fun hb => ?_) (fun hb => ?_) | refine And.intro ?_ ?_)); all_goals first | exact True.intro | omega | with_reducible rfl | exact congrArg (AV.int _) (by omega) | (first | rfl)) | (first | rfl)
      · rw [decide_eq_false (fun hh => h hh.1)]
    · simp only [go_sem, ↓reduceIte, Nat.reduceEqDiff, Nat.reduceBEq, Nat.reduceAdd, Nat.reduceSub, Nat.reduceLeDiff, Nat.reduceMul, Nat.reduceLT]
      refine fork_intro (fun _ => ⟨by omega, by omega, fork_intro (fun h => ?_) (fun h => ?_)⟩) (fun h => by omega)
      · repeat' (first | refine fork_intro (fun hb => ?_) (fun hb => ?_) | refine partB_intro (fun hb => ?_) (fun hb => ?_) | refine And.intro ?_ ?_)
        all_goals first | exact True.intro | omega | with_reducible rfl | exact congrArg (AV.int _) (by omega) | (refine LoopEnd.intro (2) (by first | omega | (first | exact ⟨by omega, fun _ => h1 (by omega), fun _ => h⟩)) (by first | omega | (dsimp only; omega)) (by omega) ?_; simp only [go_sem, ↓reduceIte, Nat.reduceEqDiff, Nat.reduceBEq, Nat.reduceAdd, Nat.reduceSub, Nat.reduceLeDiff, Nat.reduceMul, Nat.reduceLT]; (repeat' (first | refine fork_intro (fun hb => ?_) (fun hb => ?_) | refine partB_intro (fun hb => ?_) (fun hb => ?_) | refine And.intro ?_ ?_)); all_goals first | exact True.intro | omega | with_reducible rfl | exact congrArg (AV.int _) (by omega) | (first | rfl)) | (first | rfl)
      · rw [decide_eq_false (fun hh => h hh.2)]
    · simp only [go_sem, ↓reduceIte, Nat.reduceEqDiff, Nat.reduceBEq, Nat.reduceAdd, Nat.reduceSub, Nat.reduceLeDiff, Nat.reduceMul, Nat.reduceLT]
      refine fork_intro (fun h => by omega) (fun _ => ?_)
      rw [decide_eq_true ⟨h1 (by omega), h2 (by omega)⟩]
def t_eqPr : Table := [(84, pureC g_eqPr)]
theorem t_eqPr_ok : TabOK Try.prog t_eqPr := .cons Try.func84 (by kernel_rfl) (.pure (by intro args hp; unfold g_eqPr at hp ⊢; split at hp <;> first | exact hp.elim | exact eqPr_ok _ _ _ _ hp)) (.nil _)
attribute [go_sem] g_eqPr_eq t_eqPr
def g_eqPS : List AV → Prop × AV
  | [.pairs xs, .pairs ys] => (xs.length ≤ 1048576000, .bool (decide (xs = ys)))
  | _ => (False, .undef)
theorem g_eqPS_eq (xs ys : List (Int × Int)) : g_eqPS [.pairs xs, .pairs ys] = (xs.length ≤ 1048576000, .bool (decide (xs = ys))) := (rfl)
theorem eqPS_ok (xs ys : List (Int × Int)) (hp : xs.length ≤ 1048576000) : SpecOK Try.prog 37 [.pairs xs, .pairs ys] (.bool (decide (xs = ys))) [] := by
  refine fun_ok (C := t_eqPr) (hint := hintX [] [] 0 [] [] [] []) (t_eqPr_ok) mixed Try.func37 rfl (by kernel_rfl) rfl ?_
  show codeA _ _ _ _ _ _ _ _
  simp only [go_sem, ↓reduceIte, Nat.reduceEqDiff, Nat.reduceBEq, Nat.reduceAdd, Nat.reduceSub, Nat.reduceLeDiff, Nat.reduceMul, Nat.reduceLT, Try.results37]
  refine fork_intro (fun hb => ?_) (fun hb => ?_)
  · have hlen : xs.length = ys.length := by omega
    refine loop_intro (fun k : Nat => [(5, .int .i64 k), (0, .pairs xs), (1, .pairs ys)]) (fun _ => []) 0 (fun k => k ≤ xs.length ∧ xs.take k = ys.take k) (fun k => xs.length - k) 0 ⟨Nat.zero_le _, rfl⟩ (Nat.zero_le _) ?_ ?_
    · simp only [go_sem, ↓reduceIte, Nat.reduceEqDiff, Nat.reduceBEq, Nat.reduceAdd, Nat.reduceSub, Nat.reduceLeDiff, Nat.reduceMul, Nat.reduceLT]
      repeat' (first | refine fork_intro (fun hb => ?_) (fun hb => ?_) | refine partB_intro (fun hb => ?_) (fun hb => ?_) | refine And.intro ?_ ?_)
      all_goals first | exact True.intro | omega | with_reducible rfl | exact congrArg (AV.int _) (by omega) | (first | rfl)
    · rintro k ⟨hk, ht⟩
      simp only [go_sem, ↓reduceIte, Nat.reduceEqDiff, Nat.reduceBEq, Nat.reduceAdd, Nat.reduceSub, Nat.reduceLeDiff, Nat.reduceMul, Nat.reduceLT]
      refine fork_intro (fun hb => ?_) (fun hb => ?_)
      · have e := take_eq ht (ix_some xs (by omega)) (ix_some ys (show k < ys.length by omega))
        refine ⟨by omega, by omega, fork_intro (fun hc => ?_) (fun hc => ?_)⟩
        · have hz := e.2 (Prod.ext hc.1 hc.2)
          repeat' (first | refine fork_intro (fun hb => ?_) (fun hb => ?_) | refine partB_intro (fun hb => ?_) (fun hb => ?_) | refine And.intro ?_ ?_)
          all_goals first | exact True.intro | omega | with_reducible rfl | exact congrArg (AV.int _) (by omega) | (refine LoopEnd.intro (k + 1) (by first | omega | (first | exact ⟨by omega, hz⟩)) (by first | omega | (dsimp only; omega)) (by omega) ?_; simp only [go_sem, ↓reduceIte, Nat.reduceEqDiff, Nat.reduceBEq, Nat.reduceAdd, Nat.reduceSub, Nat.reduceLeDiff, Nat.reduceMul, Nat.reduceLT]; (repeat' (first | refine fork_intro (fun hb => ?_) (fun hb => ?_) | refine partB_intro (fun hb => ?_) (fun hb => ?_) | refine And.intro ?_ ?_)); all_goals first | exact True.intro | omega | with_reducible rfl | exact congrArg (AV.int _) (by omega) | (first | rfl)) | (first | rfl)
        · rw [decide_eq_false]
          rintro rfl
          exact hc ⟨rfl, rfl⟩
      · rw [decide_eq_true]
        rw [show k = xs.length by omega] at ht
        rw [List.take_length, hlen, List.take_length] at ht
        exact ht
  · rw [decide_eq_false]
    rintro rfl
    exact hb rfl
def t_eqPS : Table := [(37, pureC g_eqPS)]
theorem t_eqPS_ok : TabOK Try.prog t_eqPS := .cons Try.func37 (by kernel_rfl) (.pure (by intro args hp; unfold g_eqPS at hp ⊢; split at hp <;> first | exact hp.elim | exact eqPS_ok _ _ hp)) (.nil _)
attribute [go_sem] g_eqPS_eq t_eqPS
def g_heldP : List AV → Prop × AV
  | [.pairs xs, .int .i64 k] => (xs.length ≤ 1000000 ∧ 0 ≤ k ∧ k ≤ 1000000, .int .i64 (if xs = upP k xs.length then k + 2 * xs.length else -1))
  | _ => (False, .undef)
theorem g_heldP_eq (xs : List (Int × Int)) (k : Int) : g_heldP [.pairs xs, .int .i64 k] = (xs.length ≤ 1000000 ∧ 0 ≤ k ∧ k ≤ 1000000, .int .i64 (if xs = upP k xs.length then k + 2 * xs.length else -1)) := (rfl)
theorem heldP_ok (xs : List (Int × Int)) (k : Int) (hp : xs.length ≤ 1000000 ∧ 0 ≤ k ∧ k ≤ 1000000) : SpecOK Try.prog 39 [.pairs xs, .int .i64 k] (.int .i64 (if xs = upP k xs.length then k + 2 * xs.length else -1)) [] := by
  refine fun_ok (C := []) (hint := hintX [] [] 0 [] [] [] []) (TabOK.nil _) mixed Try.func39 rfl (by kernel_rfl) rfl ?_
  show codeA _ _ _ _ _ _ _ _
  simp only [go_sem, ↓reduceIte, Nat.reduceEqDiff, Nat.reduceBEq, Nat.reduceAdd, Nat.reduceSub, Nat.reduceLeDiff, Nat.reduceMul, Nat.reduceLT, Try.results39]
  obtain ⟨hx, hk0, hk1⟩ := hp
  have hl := upP_len k xs.length
  refine loop_intro (fun i : Nat => [(1, .int .i64 (k + 2 * i)), (5, .int .i64 i), (0, .pairs xs)]) (fun _ => []) 0 (fun i => i ≤ xs.length ∧ xs.take i = (upP k xs.length).take i) (fun i => xs.length - i) 0 ⟨Nat.zero_le _, rfl⟩ (by omega) ?_ ?_
  · simp only [go_sem, ↓reduceIte, Nat.reduceEqDiff, Nat.reduceBEq, Nat.reduceAdd, Nat.reduceSub, Nat.reduceLeDiff, Nat.reduceMul, Nat.reduceLT]
    repeat' (first | refine fork_intro (fun hb => ?_) (fun hb => ?_) | refine partB_intro (fun hb => ?_) (fun hb => ?_) | refine And.intro ?_ ?_)
    all_goals first | exact True.intro | omega | with_reducible rfl | exact congrArg (AV.int _) (by omega) | (first | rfl)
  · rintro i ⟨hi, ht⟩
    simp only [go_sem, ↓reduceIte, Nat.reduceEqDiff, Nat.reduceBEq, Nat.reduceAdd, Nat.reduceSub, Nat.reduceLeDiff, Nat.reduceMul, Nat.reduceLT]
    refine fork_intro (fun hb => ?_) (fun hb => ?_)
    · have hix : i < xs.length := by omega
      have eu : ix (upP k xs.length) (i : Int) = (k + 2 * i, k + 2 * i + 1) := tab_ix hix
      have e := take_eq ht (ix_some xs hix) (ix_some (upP k xs.length) (show i < (upP k xs.length).length by omega))
      rw [eu] at e
      have hne : ¬ (ix xs (i : Int) = (k + 2 * i, k + 2 * i + 1)) → ¬ xs = upP k xs.length := fun h1 h2 => h1 (by rw [h2]; simpa [upP_len] using eu)
      refine loop_intro (fun j : Nat => [(1, .int .i64 (k + 2 * i + j)), (6, .int .i64 j), (5, .int .i64 i), (0, .pairs xs)]) (fun _ => []) 0 (fun j => j ≤ 2 ∧ (1 ≤ j → (ix xs (i : Int)).1 = k + 2 * i) ∧ (2 ≤ j → (ix xs (i : Int)).2 = k + 2 * i + 1)) (fun j => 2 - j) 0 ⟨by omega, by omega, by omega⟩ (by omega) ?_ ?_
      · simp only [go_sem, ↓reduceIte, Nat.reduceEqDiff, Nat.reduceBEq, Nat.reduceAdd, Nat.reduceSub, Nat.reduceLeDiff, Nat.reduceMul, Nat.reduceLT]
        repeat' (first | refine fork_intro (fun hb => ?_) (fun hb => ?_) | refine partB_intro (fun hb => ?_) (fun hb => ?_) | refine And.intro ?_ ?_)
        all_goals first | exact True.intro | omega | with_reducible rfl | exact congrArg (AV.int _) (by omega) | (first | rfl)
      · rintro j ⟨hj, h1, h2⟩
        rcases (by omega : j = 0 ∨ j = 1 ∨ j = 2) with rfl | rfl | rfl
        · simp only [go_sem, ↓reduceIte, Nat.reduceEqDiff, Nat.reduceBEq, Nat.reduceAdd, Nat.reduceSub, Nat.reduceLeDiff, Nat.reduceMul, Nat.reduceLT]
          refine fork_intro (fun _ => ⟨by omega, by omega, fork_intro (fun h => ?_) (fun h => ?_)⟩) (fun h => by omega)
          · repeat' (first | refine fork_intro (fun hb => ?_) (fun hb => ?_) | refine partB_intro (fun hb => ?_) (fun hb => ?_) | refine And.intro ?_ ?_)
            all_goals first | exact True.intro | omega | with_reducible rfl | exact congrArg (AV.int _) (by omega) | (refine LoopEnd.intro (1) (by first | omega | (first | exact ⟨by omega, fun _ => by omega, by omega⟩)) (by first | omega | (dsimp only; omega)) (by omega) ?_; simp only [go_sem, ↓reduceIte, Nat.reduceEqDiff, Nat.reduceBEq, Nat.reduceAdd, Nat.reduceSub, Nat.reduceLeDiff, Nat.reduceMul, Nat.reduceLT]; (repeat' (first | refine fork_intro (fun hb => ?_) (fun hb => ?_) | refine partB_intro (fun hb => ?_) (fun hb => ?_) | refine And.intro ?_ ?_)); all_goals first | exact True.intro | omega | with_reducible rfl | exact congrArg (AV.int _) (by omega) | (first | rfl)) | (first | rfl)
          · rw [if_neg (hne (fun hh => h (by rw [hh]; simp)))]
        · simp only [go_sem, ↓reduceIte, Nat.reduceEqDiff, Nat.reduceBEq, Nat.reduceAdd, Nat.reduceSub, Nat.reduceLeDiff, Nat.reduceMul, Nat.reduceLT]
          refine fork_intro (fun _ => ⟨by omega, by omega, fork_intro (fun h => ?_) (fun h => ?_)⟩) (fun h => by omega)
          · repeat' (first | refine fork_intro (fun hb => ?_) (fun hb => ?_) | refine partB_intro (fun hb => ?_) (fun hb => ?_) | refine And.intro ?_ ?_)
            all_goals first | exact True.intro | omega | with_reducible rfl | exact congrArg (AV.int _) (by omega) | (refine LoopEnd.intro (2) (by first | omega | (first | exact ⟨by omega, fun _ => h1 (by omega), fun _ => by omega⟩)) (by first | omega | (dsimp only; omega)) (by omega) ?_; simp only [go_sem, ↓reduceIte, Nat.reduceEqDiff, Nat.reduceBEq, Nat.reduceAdd, Nat.reduceSub, Nat.reduceLeDiff, Nat.reduceMul, Nat.reduceLT]; (repeat' (first | refine fork_intro (fun hb => ?_) (fun hb => ?_) | refine partB_intro (fun hb => ?_) (fun hb => ?_) | refine And.intro ?_ ?_)); all_goals first | exact True.intro | omega | with_reducible rfl | exact congrArg (AV.int _) (by omega) | (first | rfl)) | (first | rfl)
          · rw [if_neg (hne (fun hh => h (by rw [hh]; simp)))]
        · simp only [go_sem, ↓reduceIte, Nat.reduceEqDiff, Nat.reduceBEq, Nat.reduceAdd, Nat.reduceSub, Nat.reduceLeDiff, Nat.reduceMul, Nat.reduceLT]
          refine fork_intro (fun h => by omega) (fun _ => ?_)
          have hz := e.2 (Prod.ext (h1 (by omega)) (h2 (by omega)))
          repeat' (first | refine fork_intro (fun hb => ?_) (fun hb => ?_) | refine partB_intro (fun hb => ?_) (fun hb => ?_) | refine And.intro ?_ ?_)
          all_goals first | exact True.intro | omega | with_reducible rfl | exact congrArg (AV.int _) (by omega) | (refine LoopEnd.intro (i + 1) (by first | omega | (first | exact ⟨by omega, hz⟩)) (by first | omega | (dsimp only; omega)) (by omega) ?_; simp only [go_sem, ↓reduceIte, Nat.reduceEqDiff, Nat.reduceBEq, Nat.reduceAdd, Nat.reduceSub, Nat.reduceLeDiff, Nat.reduceMul, Nat.reduceLT]; (repeat' (first | refine fork_intro (fun hb => ?_) (fun hb => ?_) | refine partB_intro (fun hb => ?_) (fun hb => ?_) | refine And.intro ?_ ?_)); all_goals first | exact True.intro | omega | with_reducible rfl | exact congrArg (AV.int _) (by omega) | (first | rfl)) | (first | rfl)
    · rw [show i = xs.length by omega, List.take_length] at ht
      have h2 : xs = upP k xs.length := ht.trans (by rw [List.take_of_length_le (by omega)])
      rw [if_pos h2, show i = xs.length by omega]
def t_heldP : Table := [(39, pureC g_heldP)]
theorem t_heldP_ok : TabOK Try.prog t_heldP := .cons Try.func39 (by kernel_rfl) (.pure (by intro args hp; unfold g_heldP at hp ⊢; split at hp <;> first | exact hp.elim | exact heldP_ok _ _ hp)) (.nil _)
attribute [go_sem] g_heldP_eq t_heldP
end Go.Proofs.Ytibomnplkclkmaa
