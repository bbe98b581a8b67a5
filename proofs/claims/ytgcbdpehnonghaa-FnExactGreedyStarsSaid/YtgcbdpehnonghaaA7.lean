/- Claims, fair prices, tight sites: both packages say the same. -/
import Derived.Test.YtgcbdpehnonghaaA6
import Derived.Test.YtgcbdpehnonghaaPlF
namespace Go.Proofs.Ytgcbdpehnonghaa
open Go.Vc
set_option maxRecDepth 100000
set_option linter.unusedSimpArgs false
set_option linter.unusedVariables false

def g_minI : List AV -> Prop × AV
  | [.ints xs] => (0 < xs.length /\ xs.length <= 1048576000, .int .i64 (minL xs))
  | _ => (False, .undef)
theorem g_minI_eq (xs : List Int) : g_minI [.ints xs] = (0 < xs.length /\ xs.length <= 1048576000, .int .i64 (minL xs)) := (rfl)
theorem minI_ok (xs : List Int) (hp : 0 < xs.length /\ xs.length <= 1048576000) : SpecOK Try.prog 57 [.ints xs] (.int .i64 (minL xs)) [] := by
  refine fun_ok (C := []) (hint := hintX [] [] 0 [] [] [] []) (TabOK.nil _) mixed Try.func57 rfl (by kernel_rfl) rfl ?_
  show codeA _ _ _ _ _ _ _ _
  simp only [go_sem, Try.results57]
  refine fork_intro (fun h => by omega) (fun h => ?_)
  refine ⟨by omega, ?_⟩
  refine loop_intro (fun k : Nat => [(3, .int .i64 (minF ((xs.drop 1).take k) (ix xs 0))), (4, .int .i64 ((k : Int) + 1)), (0, .ints xs)]) (fun _ => []) 0 (fun k => k + 1 <= xs.length) (fun k => xs.length - k) 0 (by omega) (by omega) ?_ ?_
  · simp only [go_sem]
    repeat' (first | refine fork_intro (fun hb => ?_) (fun hb => ?_) | refine partB_intro (fun hb => ?_) (fun hb => ?_) | refine And.intro ?_ ?_)
    all_goals first | exact True.intro | omega | with_reducible rfl | exact congrArg (AV.int _) (by omega) | (first | rfl)
  · intro k hk
    simp only [go_sem]
    refine fork_intro (fun hc => ?_) (fun hc => ?_)
    · have hd : (xs.drop 1).length = xs.length - 1 := by simp
      have e := minF_take (xs.drop 1) (ix xs 0) (k := k) (by omega)
      rw [show ix (xs.drop 1) (k : Int) = ix xs ((k : Int) + 1) by simp [ix, Nat.add_comm]] at e
      repeat' (first | refine fork_intro (fun hb => ?_) (fun hb => ?_) | refine partB_intro (fun hb => ?_) (fun hb => ?_) | refine And.intro ?_ ?_)
      all_goals first | exact True.intro | omega | with_reducible rfl | exact congrArg (AV.int _) (by omega) | (refine LoopEnd.intro (k + 1) (by first | omega) (by first | omega | (dsimp only; omega)) (by omega) ?_; simp only [go_sem]; (repeat' (first | refine fork_intro (fun hb => ?_) (fun hb => ?_) | refine partB_intro (fun hb => ?_) (fun hb => ?_) | refine And.intro ?_ ?_)); all_goals first | exact True.intro | omega | with_reducible rfl | exact congrArg (AV.int _) (by omega))
    · rw [minL, List.take_of_length_le (by simp; omega)]
def t_minI : Table := [(57, pureC g_minI)]
theorem t_minI_ok : TabOK Try.prog t_minI := .cons Try.func57 (by kernel_rfl) (.pure (by intro args hp; unfold g_minI at hp ⊢; split at hp <;> first | exact hp.elim | exact minI_ok _ hp)) (.nil _)
attribute [go_sem] g_minI_eq t_minI
end Go.Proofs.Ytgcbdpehnonghaa
