/- Sets as lists and as bits, idle sites, prices that meet a set: both packages say the same. -/
import Derived.Test.YtgcbdpehnonghaaA14
import Derived.Test.YtgcbdpehnonghaaA8
import Derived.Test.YtgcbdpehnonghaaPlB
namespace Go.Proofs.Ytgcbdpehnonghaa
open Go.Vc
set_option maxRecDepth 100000
set_option linter.unusedSimpArgs false
set_option linter.unusedVariables false

def g_hasI : List AV -> Prop × AV
  | [.int .u64 b, .int .i64 x] => ((0 <= b /\ b < 128) /\ 0 <= x /\ x <= 63, .bool (b.toNat.testBit x.toNat))
  | _ => (False, .undef)
theorem g_hasI_eq (b x : Int) : g_hasI [.int .u64 b, .int .i64 x] = ((0 <= b /\ b < 128) /\ 0 <= x /\ x <= 63, .bool (b.toNat.testBit x.toNat)) := (rfl)
theorem hasI_ok (b x : Int) (hp : (0 <= b /\ b < 128) /\ 0 <= x /\ x <= 63) : SpecOK Try.prog 31 [.int .u64 b, .int .i64 x] (.bool (b.toNat.testBit x.toNat)) [] := by
  refine fun_ok (C := []) (hint := hintX [] [] 0 [] [] [] []) (TabOK.nil _) mixed Try.func31 rfl (by kernel_rfl) rfl ?_
  show codeA _ _ _ _ _ _ _ _
  simp only [go_sem, Try.results31]
  obtain ⟨⟨h0, h1⟩, h2, h3⟩ := hp
  obtain ⟨b, rfl⟩ : ∃ n : Nat, b = n := ⟨b.toNat, by omega⟩
  obtain ⟨x, rfl⟩ : ∃ n : Nat, x = n := ⟨x.toNat, by omega⟩
  have hs := shr_le b x
  simp only [Int.toNat_natCast, shr_nat, bitN_and]
  have hb := bit_one b x
  repeat' (first | refine fork_intro (fun hb => ?_) (fun hb => ?_) | refine partB_intro (fun hb => ?_) (fun hb => ?_) | refine And.intro ?_ ?_)
  all_goals first | exact True.intro | omega | with_reducible rfl | exact congrArg (AV.int _) (by omega) | (first | (rw [<- hb]; rfl) | (show _ <= _; decide) | decide)
def t_hasI : Table := [(31, pureC g_hasI)]
theorem t_hasI_ok : TabOK Try.prog t_hasI := .cons Try.func31 (by kernel_rfl) (.pure (by intro args hp; unfold g_hasI at hp ⊢; split at hp <;> first | exact hp.elim | exact hasI_ok _ _ hp)) (.nil _)
attribute [go_sem] g_hasI_eq t_hasI
def g_listI : List AV -> Prop × AV × Heap
  | [.int .u64 b] => (0 <= b /\ b < 128, .sl 0, [(0, .arr (.ints (bagL b.toNat)))])
  | _ => (False, .undef, [])
theorem g_listI_eq (b : Int) : g_listI [.int .u64 b] = (0 <= b /\ b < 128, .sl 0, [(0, .arr (.ints (bagL b.toNat)))]) := (rfl)
theorem listI_ok (b : Int) (hp : 0 <= b /\ b < 128) : SpecOK Try.prog 36 [.int .u64 b] (.sl 0) [(0, .arr (.ints (bagL b.toNat)))] := by
  refine fun_ok (C := t_hasI) (hint := hintX [5] [] 0 [] [] [] []) (t_hasI_ok) mixed Try.func36 rfl (by kernel_rfl) rfl ?_
  show codeA _ _ _ _ _ _ _ _
  simp only [go_sem, Try.results36]
  obtain ⟨h0, h1⟩ := hp
  obtain ⟨b, rfl⟩ : ∃ n : Nat, b = n := ⟨b.toNat, by omega⟩
  simp only [Int.toNat_natCast]
  refine loop_intro (fun x : Nat => [(3, .sl 0), (4, .int .i64 x), (0, .int .u64 b)]) (fun x => [(0, .arr (.ints (sel b.testBit x)))]) 1 (fun x => x <= 7) (fun x => 7 - x) 0 (by omega) (by omega) ?_ ?_
  · simp only [go_sem]
    repeat' (first | refine fork_intro (fun hb => ?_) (fun hb => ?_) | refine partB_intro (fun hb => ?_) (fun hb => ?_) | refine And.intro ?_ ?_)
    all_goals first | exact True.intro | omega | with_reducible rfl | exact congrArg (AV.int _) (by omega) | (first | rfl)
  · intro x hx
    have hs := shr_le b x
    have hsl := sel_len b.testBit x
    have hpos := shr_pos b x
    simp only [go_sem]
    refine ⟨by omega, fork_intro (fun hc => ?_) (fun hc => ?_)⟩
    · have hx7 := lt_pow7 (show b < 128 by omega) (hpos.1 hc)
      refine ⟨⟨by omega, by omega⟩, partB_intro (fun hd => ?_) (fun hd => ?_)⟩
      · have e := sel_t (p := b.testBit) (n := x) hd
        repeat' (first | refine fork_intro (fun hb => ?_) (fun hb => ?_) | refine partB_intro (fun hb => ?_) (fun hb => ?_) | refine And.intro ?_ ?_)
        all_goals first | exact True.intro | omega | with_reducible rfl | exact congrArg (AV.int _) (by omega) | (refine LoopEnd.intro (x + 1) (by first | omega) (by first | omega | (dsimp only; omega)) (by omega) ?_; simp only [go_sem]; (repeat' (first | refine fork_intro (fun hb => ?_) (fun hb => ?_) | refine partB_intro (fun hb => ?_) (fun hb => ?_) | refine And.intro ?_ ?_)); all_goals first | exact True.intro | omega | with_reducible rfl | exact congrArg (AV.int _) (by omega) | (first | rw [e])) | (first | rw [e])
      · have e := sel_f (p := b.testBit) (n := x) hd
        repeat' (first | refine fork_intro (fun hb => ?_) (fun hb => ?_) | refine partB_intro (fun hb => ?_) (fun hb => ?_) | refine And.intro ?_ ?_)
        all_goals first | exact True.intro | omega | with_reducible rfl | exact congrArg (AV.int _) (by omega) | (refine LoopEnd.intro (x + 1) (by first | omega) (by first | omega | (dsimp only; omega)) (by omega) ?_; simp only [go_sem]; (repeat' (first | refine fork_intro (fun hb => ?_) (fun hb => ?_) | refine partB_intro (fun hb => ?_) (fun hb => ?_) | refine And.intro ?_ ?_)); all_goals first | exact True.intro | omega | with_reducible rfl | exact congrArg (AV.int _) (by omega) | (first | rw [e])) | (first | rw [e])
    · have hlt : b < 2 ^ x := Nat.lt_of_not_le (fun h => hc (hpos.2 h))
      rw [bagL_eq hlt (by omega)]
      repeat' (first | refine fork_intro (fun hb => ?_) (fun hb => ?_) | refine partB_intro (fun hb => ?_) (fun hb => ?_) | refine And.intro ?_ ?_)
      all_goals first | exact True.intro | omega | with_reducible rfl | exact congrArg (AV.int _) (by omega) | (first | rfl)
def t_listI : Table := [(36, ownC g_listI)]
theorem t_listI_ok : TabOK Try.prog t_listI := .cons Try.func36 (by kernel_rfl) (.own (by intro args hp; unfold g_listI at hp ⊢; split at hp <;> first | exact hp.elim | exact ⟨listI_ok _ hp, rfl⟩)) (.nil _)
attribute [go_sem] g_listI_eq t_listI
end Go.Proofs.Ytgcbdpehnonghaa
