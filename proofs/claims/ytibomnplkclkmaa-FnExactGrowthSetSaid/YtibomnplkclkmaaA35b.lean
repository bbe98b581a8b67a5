/- Small contracts: a copy, a number put into a list, the place of a number. -/
import Derived.Test.YtibomnplkclkmaaA7
import Derived.Test.YtibomnplkclkmaaPlD
import Derived.Test.YtibomnplkclkmaaPlE
namespace Go.Proofs.Ytibomnplkclkmaa
open Go.Vc
set_option maxRecDepth 100000
set_option linter.unusedSimpArgs false
set_option linter.unusedVariables false

def g_ownI : List AV → Prop × AV × Heap
  | [.ints xs] => (xs.length ≤ 1048576000, .sl 0, [(0, .arr (.ints xs))])
  | _ => (False, .undef, [])
theorem g_ownI_eq (xs : List Int) : g_ownI [.ints xs] = (xs.length ≤ 1048576000, .sl 0, [(0, .arr (.ints xs))]) := (rfl)
theorem ownI_ok (xs : List Int) (hp : xs.length ≤ 1048576000) : SpecOK Try.prog 71 [.ints xs] (.sl 0) [(0, .arr (.ints xs))] := by
  refine fun_ok (C := []) (hint := hintX [3, 5] [] 0 [] [] [] []) (TabOK.nil _) mixed Try.func71 rfl (by kernel_rfl) rfl ?_
  show codeA _ _ _ _ _ _ _ _
  simp only [go_sem, ↓reduceIte, Nat.reduceEqDiff, Nat.reduceBEq, Nat.reduceAdd, Nat.reduceSub, Nat.reduceLeDiff, Nat.reduceMul, Nat.reduceLT, Try.results71]
  repeat' (first | refine fork_intro (fun hb => ?_) (fun hb => ?_) | refine partB_intro (fun hb => ?_) (fun hb => ?_) | refine And.intro ?_ ?_)
  all_goals first | exact True.intro | omega | with_reducible rfl | exact congrArg (AV.int _) (by omega)
def t_ownI : Table := [(71, ownC g_ownI)]
theorem t_ownI_ok : TabOK Try.prog t_ownI := .cons Try.func71 (by kernel_rfl) (.own (by intro args hp; unfold g_ownI at hp ⊢; split at hp <;> first | exact hp.elim | exact ⟨ownI_ok _ hp, rfl⟩)) (.nil _)
attribute [go_sem] g_ownI_eq t_ownI
def g_indexI : List AV → Prop × AV
  | [.ints xs, .int .i64 n] => (xs.length ≤ 1048576000, .int .i64 (idxG (fun x => decide (x = n)) xs 0))
  | _ => (False, .undef)
theorem g_indexI_eq (xs : List Int) (n : Int) : g_indexI [.ints xs, .int .i64 n] = (xs.length ≤ 1048576000, .int .i64 (idxG (fun x => decide (x = n)) xs 0)) := (rfl)
theorem indexI_ok (xs : List Int) (n : Int) (hp : xs.length ≤ 1048576000) : SpecOK Try.prog 136 [.ints xs, .int .i64 n] (.int .i64 (idxG (fun x => decide (x = n)) xs 0)) [] := by
  refine fun_ok (C := []) (hint := hintX [] [] 0 [] [] [] []) (TabOK.nil _) mixed Try.func136 rfl (by kernel_rfl) rfl ?_
  show codeA _ _ _ _ _ _ _ _
  simp only [go_sem, ↓reduceIte, Nat.reduceEqDiff, Nat.reduceBEq, Nat.reduceAdd, Nat.reduceSub, Nat.reduceLeDiff, Nat.reduceMul, Nat.reduceLT, Try.results136]
  refine loop_intro (fun k : Nat => [(0, .ints xs), (1, .int .i64 n), (7, .int .i64 xs.length), (8, .int .i64 k)]) (fun _ => []) 0 (fun k => k ≤ xs.length ∧ idxG (fun x => decide (x = n)) (xs.drop k) k = idxG (fun x => decide (x = n)) xs 0) (fun k => xs.length - k) 0 ⟨Nat.zero_le _, rfl⟩ (by omega) ?_ ?_
  · simp only [go_sem, ↓reduceIte, Nat.reduceEqDiff, Nat.reduceBEq, Nat.reduceAdd, Nat.reduceSub, Nat.reduceLeDiff, Nat.reduceMul, Nat.reduceLT]
    repeat' (first | refine fork_intro (fun hb => ?_) (fun hb => ?_) | refine partB_intro (fun hb => ?_) (fun hb => ?_) | refine And.intro ?_ ?_)
    all_goals first | exact True.intro | omega | with_reducible rfl | exact congrArg (AV.int _) (by omega) | (first | rfl)
  · rintro k ⟨hk, ht⟩
    simp only [go_sem, ↓reduceIte, Nat.reduceEqDiff, Nat.reduceBEq, Nat.reduceAdd, Nat.reduceSub, Nat.reduceLeDiff, Nat.reduceMul, Nat.reduceLT]
    refine fork_intro (fun hb => ?_) (fun hb => ?_)
    · rw [drop_ix xs (show k < xs.length by omega), idxG] at ht
      refine ⟨by omega, fork_intro (fun hc => ?_) (fun hc => ?_)⟩
      · rw [if_pos (decide_eq_true hc.symm)] at ht
        rw [← ht]
      · rw [if_neg (by rw [decide_eq_true_eq]; exact fun e => hc e.symm)] at ht
        repeat' (first | refine fork_intro (fun hb => ?_) (fun hb => ?_) | refine partB_intro (fun hb => ?_) (fun hb => ?_) | refine And.intro ?_ ?_)
        all_goals first | exact True.intro | omega | with_reducible rfl | exact congrArg (AV.int _) (by omega) | (refine LoopEnd.intro (k + 1) (by first | omega | (first | exact ⟨by omega, ht⟩)) (by first | omega | (dsimp only; omega)) (by omega) ?_; simp only [go_sem, ↓reduceIte, Nat.reduceEqDiff, Nat.reduceBEq, Nat.reduceAdd, Nat.reduceSub, Nat.reduceLeDiff, Nat.reduceMul, Nat.reduceLT]; (repeat' (first | refine fork_intro (fun hb => ?_) (fun hb => ?_) | refine partB_intro (fun hb => ?_) (fun hb => ?_) | refine And.intro ?_ ?_)); all_goals first | exact True.intro | omega | with_reducible rfl | exact congrArg (AV.int _) (by omega))
    · rw [show k = xs.length by omega, List.drop_length] at ht
      rw [← ht]; rfl
def t_indexI : Table := [(136, pureC g_indexI)]
theorem t_indexI_ok : TabOK Try.prog t_indexI := .cons Try.func136 (by kernel_rfl) (.pure (by intro args hp; unfold g_indexI at hp ⊢; split at hp <;> first | exact hp.elim | exact indexI_ok _ _ hp)) (.nil _)
attribute [go_sem] g_indexI_eq t_indexI
def g_putS : List AV → Prop × AV
  | [.ints xs, .int .i64 n] => (xs.length ≤ 1048576, .ints (putF xs n))
  | _ => (False, .undef)
theorem g_putS_eq (xs : List Int) (n : Int) : g_putS [.ints xs, .int .i64 n] = (xs.length ≤ 1048576, .ints (putF xs n)) := (rfl)
theorem putS_ok (xs : List Int) (n : Int) (hp : xs.length ≤ 1048576) : SpecOK Try.prog 88 [.ints xs, .int .i64 n] (.ints (putF xs n)) [] := by
  refine fun_ok (C := []) (hint := hintX [33] [] 0 [] [] [(6, [0, 1, 2, 3, 5, 6, 8, 9, 10, 4, 7, 11, 12])] [(6, [4, 9])]) (TabOK.nil _) mixed Try.func88 rfl (by kernel_rfl) rfl ?_
  show codeA _ _ _ _ _ _ _ _
  simp only [go_sem, ↓reduceIte, Nat.reduceEqDiff, Nat.reduceBEq, Nat.reduceAdd, Nat.reduceSub, Nat.reduceLeDiff, Nat.reduceMul, Nat.reduceLT, Try.results88]
  refine loop_intro (fun k : Nat => [(0, .ints xs), (1, .int .i64 n), (4, .nils), (5, .int .i64 k)]) (fun _ => []) 0 (fun k => k ≤ xs.length ∧ ∀ j : Nat, j < k → ix xs (j : Int) < n) (fun k => xs.length - k) 0 ⟨Nat.zero_le _, fun j h => absurd h (Nat.not_lt_zero _)⟩ (by omega) ?_ ?_
  · simp only [go_sem, ↓reduceIte, Nat.reduceEqDiff, Nat.reduceBEq, Nat.reduceAdd, Nat.reduceSub, Nat.reduceLeDiff, Nat.reduceMul, Nat.reduceLT]
    repeat' (first | refine fork_intro (fun hb => ?_) (fun hb => ?_) | refine partB_intro (fun hb => ?_) (fun hb => ?_) | refine And.intro ?_ ?_)
    all_goals first | exact True.intro | omega | with_reducible rfl | exact congrArg (AV.int _) (by omega) | (first | rfl)
  · rintro k ⟨hk, ht⟩
    have e1 := cutL_pre xs k
    have e2 := cutL_suf xs k
    have e3 := fun h2 => putF_at (n := n) (xs := xs) (k := k) hk ht h2
    have hsu := fun h => below_succ (q := fun j : Nat => ix xs (j : Int) < n) (k := k) ht h
    have hl1 : (xs.take k).length = k := by simp; omega
    have hl2 : (xs.drop k).length = xs.length - k := by simp
    simp only [go_sem, ↓reduceIte, Nat.reduceEqDiff, Nat.reduceBEq, Nat.reduceAdd, Nat.reduceSub, Nat.reduceLeDiff, Nat.reduceMul, Nat.reduceLT]
    simp only [e1, e2]
    refine fork_intro (fun hc => ⟨by omega, fork_intro (fun hd => ?_) (fun hd => ?_)⟩) (fun hc => ?_)
    · repeat' (first | refine fork_intro (fun hb => ?_) (fun hb => ?_) | refine partB_intro (fun hb => ?_) (fun hb => ?_) | refine And.intro ?_ ?_)
      all_goals first | exact True.intro | omega | with_reducible rfl | exact congrArg (AV.int _) (by omega) | (refine LoopEnd.intro (k + 1) (by first | omega | (first | exact ⟨by omega, hsu hd⟩)) (by first | omega | (dsimp only; omega)) (by omega) ?_; simp only [go_sem, ↓reduceIte, Nat.reduceEqDiff, Nat.reduceBEq, Nat.reduceAdd, Nat.reduceSub, Nat.reduceLeDiff, Nat.reduceMul, Nat.reduceLT]; (repeat' (first | refine fork_intro (fun hb => ?_) (fun hb => ?_) | refine partB_intro (fun hb => ?_) (fun hb => ?_) | refine And.intro ?_ ?_)); all_goals first | exact True.intro | omega | with_reducible rfl | exact congrArg (AV.int _) (by omega))
    · have e4 := e3 (fun _ => by omega)
      repeat' (first | refine fork_intro (fun hb => ?_) (fun hb => ?_) | refine partB_intro (fun hb => ?_) (fun hb => ?_) | refine And.intro ?_ ?_)
      all_goals first | exact True.intro | omega | with_reducible rfl | exact congrArg (AV.int _) (by omega) | (first | (rw [e4, if_pos (by omega)]; done) | (rw [e4, if_neg (by omega), List.append_assoc]; rfl))
    · have e4 := e3 (fun h => by omega)
      repeat' (first | refine fork_intro (fun hb => ?_) (fun hb => ?_) | refine partB_intro (fun hb => ?_) (fun hb => ?_) | refine And.intro ?_ ?_)
      all_goals first | exact True.intro | omega | with_reducible rfl | exact congrArg (AV.int _) (by omega) | (first | (rw [e4, if_pos (by omega)]; done) | (rw [e4, if_neg (by omega), List.append_assoc]; rfl))
def t_putS : Table := [(88, pureC g_putS)]
theorem t_putS_ok : TabOK Try.prog t_putS := .cons Try.func88 (by kernel_rfl) (.pure (by intro args hp; unfold g_putS at hp ⊢; split at hp <;> first | exact hp.elim | exact putS_ok _ _ hp)) (.nil _)
attribute [go_sem] g_putS_eq t_putS
end Go.Proofs.Ytibomnplkclkmaa
