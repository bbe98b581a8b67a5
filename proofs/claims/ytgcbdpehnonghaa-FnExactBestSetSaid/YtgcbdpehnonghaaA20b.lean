/- The sites of a number, listed. -/
import Derived.Test.YtgcbdpehnonghaaA16
import Derived.Test.YtgcbdpehnonghaaPlE
namespace Go.Proofs.Ytgcbdpehnonghaa
open Go.Vc
set_option maxRecDepth 100000
set_option linter.unusedSimpArgs false
set_option linter.unusedVariables false

def g_bitsS : List AV -> Prop × AV
  | [.int .i64 n, .int .i64 b] => ((0 <= n /\ n <= 7) /\ 0 <= b /\ b < 128, .ints (sel b.toNat.testBit n.toNat))
  | _ => (False, .undef)
theorem g_bitsS_eq (n b : Int) : g_bitsS [.int .i64 n, .int .i64 b] = ((0 <= n /\ n <= 7) /\ 0 <= b /\ b < 128, .ints (sel b.toNat.testBit n.toNat)) := (rfl)
theorem bitsS_ok (n b : Int) (hp : (0 <= n /\ n <= 7) /\ 0 <= b /\ b < 128) : SpecOK Try.prog 73 [.int .i64 n, .int .i64 b] (.ints (sel b.toNat.testBit n.toNat)) [] := by
  refine fun_ok (C := []) (hint := hintX [7] [] 0 [] [] [] []) (TabOK.nil _) mixed Try.func73 rfl (by kernel_rfl) rfl ?_
  show codeA _ _ _ _ _ _ _ _
  simp only [go_sem, Try.results73]
  obtain ⟨⟨h0, h1⟩, h2, h3⟩ := hp
  obtain ⟨b, rfl⟩ : ∃ k : Nat, b = k := ⟨b.toNat, by omega⟩
  obtain ⟨n, rfl⟩ : ∃ k : Nat, n = k := ⟨n.toNat, by omega⟩
  simp only [Int.toNat_natCast]
  refine loop_intro (fun x : Nat => [(5, .sl 0), (6, .int .i64 x), (0, .int .i64 n), (1, .int .i64 b)]) (fun x => [(0, .arr (.ints (sel b.testBit x)))]) 1 (fun x => x <= n) (fun x => n - x) 0 (by omega) (by omega) ?_ ?_
  · simp only [go_sem]
    repeat' (first | refine fork_intro (fun hb => ?_) (fun hb => ?_) | refine partB_intro (fun hb => ?_) (fun hb => ?_) | refine And.intro ?_ ?_)
    all_goals first | exact True.intro | omega | with_reducible rfl | exact congrArg (AV.int _) (by omega) | (first | rfl)
  · intro x hx
    have hs := shr_le b x
    have hsl := sel_len b.testBit x
    have hb1 := bit_one b x
    simp only [go_sem]
    refine fork_intro (fun hc => ?_) (fun hc => ?_)
    · simp only [shr_nat, bitN_and, show Int.toNat 1 = 1 from rfl]
      refine ⟨by omega, ⟨by omega, by omega⟩, fork_intro (fun hd => ?_) (fun hd => ?_)⟩
      · rw [decide_eq_true hd] at hb1
        have e := sel_t (p := b.testBit) (n := x) hb1.symm
        repeat' (first | refine fork_intro (fun hb => ?_) (fun hb => ?_) | refine partB_intro (fun hb => ?_) (fun hb => ?_) | refine And.intro ?_ ?_)
        all_goals first | exact True.intro | omega | with_reducible rfl | exact congrArg (AV.int _) (by omega) | (refine LoopEnd.intro (x + 1) (by first | omega) (by first | omega | (dsimp only; omega)) (by omega) ?_; simp only [go_sem]; (repeat' (first | refine fork_intro (fun hb => ?_) (fun hb => ?_) | refine partB_intro (fun hb => ?_) (fun hb => ?_) | refine And.intro ?_ ?_)); all_goals first | exact True.intro | omega | with_reducible rfl | exact congrArg (AV.int _) (by omega) | (first | rw [e])) | (first | rw [e])
      · rw [decide_eq_false hd] at hb1
        have e := sel_f (p := b.testBit) (n := x) hb1.symm
        repeat' (first | refine fork_intro (fun hb => ?_) (fun hb => ?_) | refine partB_intro (fun hb => ?_) (fun hb => ?_) | refine And.intro ?_ ?_)
        all_goals first | exact True.intro | omega | with_reducible rfl | exact congrArg (AV.int _) (by omega) | (refine LoopEnd.intro (x + 1) (by first | omega) (by first | omega | (dsimp only; omega)) (by omega) ?_; simp only [go_sem]; (repeat' (first | refine fork_intro (fun hb => ?_) (fun hb => ?_) | refine partB_intro (fun hb => ?_) (fun hb => ?_) | refine And.intro ?_ ?_)); all_goals first | exact True.intro | omega | with_reducible rfl | exact congrArg (AV.int _) (by omega) | (first | rw [e])) | (first | rw [e])
    · rw [show x = n by omega]
      repeat' (first | refine fork_intro (fun hb => ?_) (fun hb => ?_) | refine partB_intro (fun hb => ?_) (fun hb => ?_) | refine And.intro ?_ ?_)
      all_goals first | exact True.intro | omega | with_reducible rfl | exact congrArg (AV.int _) (by omega) | (first | rfl)
def t_bitsS : Table := [(73, pureC g_bitsS)]
theorem t_bitsS_ok : TabOK Try.prog t_bitsS := .cons Try.func73 (by kernel_rfl) (.pure (by intro args hp; unfold g_bitsS at hp ⊢; split at hp <;> first | exact hp.elim | exact bitsS_ok _ _ hp)) (.nil _)
attribute [go_sem] g_bitsS_eq t_bitsS
end Go.Proofs.Ytgcbdpehnonghaa
