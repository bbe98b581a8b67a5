/- Swaps of sites: both packages say the same. -/
import Derived.Test.YteefjdbdknkcjaaA16
import Derived.Test.YteefjdbdknkcjaaPlD
namespace Go.Proofs.Yteefjdbdknkcjaa
open Go.Vc
set_option maxRecDepth 100000
set_option linter.unusedSimpArgs false
set_option linter.unusedVariables false

def g_indexI : List AV → Prop × AV
  | [.ints xs, .int .i64 n] => (xs.length ≤ 1048576000, .int .i64 (idxG (fun x => decide (x = n)) xs 0))
  | _ => (False, .undef)
theorem g_indexI_eq (xs : List Int) (n : Int) : g_indexI [.ints xs, .int .i64 n] = (xs.length ≤ 1048576000, .int .i64 (idxG (fun x => decide (x = n)) xs 0)) := (rfl)
theorem indexI_ok (xs : List Int) (n : Int) (hp : xs.length ≤ 1048576000) : SpecOK Try.prog 59 [.ints xs, .int .i64 n] (.int .i64 (idxG (fun x => decide (x = n)) xs 0)) [] := by
  refine fun_ok (C := []) (hint := hintX [] [] 0 [] [] [] []) (TabOK.nil _) mixed Try.func59 rfl (by kernel_rfl) rfl ?_
  show codeA _ _ _ _ _ _ _ _
  simp only [go_sem, ↓reduceIte, Nat.reduceEqDiff, Nat.reduceBEq, Nat.reduceAdd, Nat.reduceSub, Nat.reduceLeDiff, Nat.reduceMul, Nat.reduceLT, Try.results59]
  refine loop_intro (fun k : Nat => [(0, .ints xs), (1, .int .i64 n), (7, .int .i64 xs.length), (8, .int .i64 k)]) (fun _ => []) 0 (fun k => k ≤ xs.length ∧ idxG (fun x => decide (x = n)) (xs.drop k) k = idxG (fun x => decide (x = n)) xs 0) (fun k => xs.length - k) 0 ⟨Nat.zero_le _, rfl⟩ (by omega) ?_ ?_
  · simp only [go_sem, ↓reduceIte, Nat.reduceEqDiff, Nat.reduceBEq, Nat.reduceAdd, Nat.reduceSub, Nat.reduceLeDiff, Nat.reduceMul, Nat.reduceLT]
    repeat' (first | refine fork_intro (fun hb => ?_) (fun hb => ?_) | refine partB_intro (fun hb => ?_) (fun hb => ?_) | refine And.intro ?_ ?_)
    all_goals first | exact True.intro | omega | with_reducible rfl | exact congrArg (AV.int _) (by omega) | (first | rfl)
  · rintro k ⟨hk, ht⟩
    simp only [go_sem, ↓reduceIte, Nat.reduceEqDiff, Nat.reduceBEq, Nat.reduceAdd, Nat.reduceSub, Nat.reduceLeDiff, Nat.reduceMul, Nat.reduceLT]
    refine fork_intro (fun hb => ?_) (fun hb => ?_)
    · rw [drop_ix xs (show k < xs.length by omega), idxG] at ht
      refine ⟨by omega, fork_intro (fun hc => ?_) (fun hc => ?_)⟩
      · rw [if_pos (decide_eq_true hc.symm)] at ht
        rw [← ht]
      · rw [if_neg (by rw [decide_eq_true_eq]; exact fun e => hc e.symm)] at ht
        repeat' (first | refine fork_intro (fun hb => ?_) (fun hb => ?_) | refine partB_intro (fun hb => ?_) (fun hb => ?_) | refine And.intro ?_ ?_)
        all_goals first | exact True.intro | omega | with_reducible rfl | exact congrArg (AV.int _) (by omega) | (refine LoopEnd.intro (k + 1) (by first | omega | (first | exact ⟨by omega, ht⟩)) (by first | omega | (dsimp only; omega)) (by omega) ?_; simp only [go_sem, ↓reduceIte, Nat.reduceEqDiff, Nat.reduceBEq, Nat.reduceAdd, Nat.reduceSub, Nat.reduceLeDiff, Nat.reduceMul, Nat.reduceLT]; (repeat' (first | refine fork_intro (fun hb => ?_) (fun hb => ?_) | refine partB_intro (fun hb => ?_) (fun hb => ?_) | refine And.intro ?_ ?_)); all_goals first | exact True.intro | omega | with_reducible rfl | exact congrArg (AV.int _) (by omega))
    · rw [show k = xs.length by omega, List.drop_length] at ht
      rw [← ht]; rfl
def t_indexI : Table := [(59, pureC g_indexI)]
theorem t_indexI_ok : TabOK Try.prog t_indexI := .cons Try.func59 (by kernel_rfl) (.pure (by intro args hp; unfold g_indexI at hp ⊢; split at hp <;> first | exact hp.elim | exact indexI_ok _ _ hp)) (.nil _)
attribute [go_sem] g_indexI_eq t_indexI
end Go.Proofs.Yteefjdbdknkcjaa
