/- Texts in parts: what the reference makes. -/
import Derived.Test.YtjnongegddnobaaDoorTy
import Derived.Test.YtjnongegddnobaaDoorPlH
namespace Go.Proofs.YtjnongegddnobaaDoor
open Go.Vc
set_option maxRecDepth 100000
set_option linter.unusedSimpArgs false
set_option linter.unusedVariables false
def g_splitS : List AV -> Prop × AV
  | [.str s, .int .u8 b] => (s.size <= 1048576 /\ 0 <= b /\ b < 256, .strs (splL s (UInt8.ofNat b.toNat)))
  | _ => (False, .undef)
theorem g_splitS_eq (s : ByteArray) (b : Int) : g_splitS [.str s, .int .u8 b] = (s.size <= 1048576 /\ 0 <= b /\ b < 256, .strs (splL s (UInt8.ofNat b.toNat))) := (rfl)
theorem splitS_ok (s : ByteArray) (b : Int) (hp : s.size <= 1048576 /\ 0 <= b /\ b < 256) : SpecOK Tryd.prog 41 [.str s, .int .u8 b] (.strs (splL s (UInt8.ofNat b.toNat))) [] := by
  refine fun_ok (C := []) (hint := hintX [5, 8, 26] [] 0 [] [] [] []) (TabOK.nil _) mixed Tryd.func41 rfl (by kernel_rfl) rfl ?_
  show codeA _ _ _ _ _ _ _ _
  simp only [go_sem, Tryd.results41]
  obtain ⟨m, rfl⟩ : ∃ m : Nat, b = m := ⟨b.toNat, by omega⟩
  have hm : (UInt8.ofNat m).toNat = m := by simp; omega
  refine loop_intro (fun k : Nat => [(7, .int .i64 k), (6, .int .i64 (splP s (UInt8.ofNat m) k).2), (5, .sl 0), (0, .str s), (1, .int .u8 m)]) (fun k => [(0, .arr (.strs (splP s (UInt8.ofNat m) k).1))]) 1 (fun k => k <= s.size) (fun k => s.size - k) 0 (Nat.zero_le _) (by omega) ?_ ?_
  · simp only [go_sem]
    repeat' (first | refine fork_intro (fun hb => ?_) (fun hb => ?_) | refine partB_intro (fun hb => ?_) (fun hb => ?_) | refine And.intro ?_ ?_)
    all_goals first | exact True.intro | omega | with_reducible rfl | exact congrArg (AV.int _) (by omega) | (first | rfl)
  · intro k hk
    have hle := splP_le s (UInt8.ofNat m) k
    simp only [go_sem]
    refine fork_intro (fun hc => ?_) (fun hc => ?_)
    · refine ⟨⟨by omega, by omega⟩, ?_⟩
      refine fork_intro (fun hd => ?_) (fun hd => ?_)
      · have e : byteAt s (k : Int) = UInt8.ofNat m := UInt8.toNat_inj.1 (by rw [hm]; omega)
        have e2 : splP s (UInt8.ofNat m) (k + 1) = ((splP s (UInt8.ofNat m) k).1 ++ [s.extract (splP s (UInt8.ofNat m) k).2 k], k + 1) := if_pos e
        repeat' (first | refine fork_intro (fun hb => ?_) (fun hb => ?_) | refine partB_intro (fun hb => ?_) (fun hb => ?_) | refine And.intro ?_ ?_)
        all_goals first | exact True.intro | omega | with_reducible rfl | exact congrArg (AV.int _) (by omega) | (refine LoopEnd.intro (k + 1) (by first | omega) (by first | omega | (dsimp only; omega)) (by omega) ?_; simp only [go_sem]; (repeat' (first | refine fork_intro (fun hb => ?_) (fun hb => ?_) | refine partB_intro (fun hb => ?_) (fun hb => ?_) | refine And.intro ?_ ?_)); all_goals first | exact True.intro | omega | with_reducible rfl | exact congrArg (AV.int _) (by omega) | (first | rfl | (rw [e2]; done) | (rw [e2]; exact congrArg (AV.int _) (by show ((k : Int) + 1) = ((k + 1 : Nat) : Int); omega)))) | (first | rfl | (rw [e2]; done) | (rw [e2]; exact congrArg (AV.int _) (by show ((k : Int) + 1) = ((k + 1 : Nat) : Int); omega)))
      · have e : byteAt s (k : Int) ≠ UInt8.ofNat m := fun h => hd (by rw [h, hm])
        have e2 : splP s (UInt8.ofNat m) (k + 1) = splP s (UInt8.ofNat m) k := if_neg e
        repeat' (first | refine fork_intro (fun hb => ?_) (fun hb => ?_) | refine partB_intro (fun hb => ?_) (fun hb => ?_) | refine And.intro ?_ ?_)
        all_goals first | exact True.intro | omega | with_reducible rfl | exact congrArg (AV.int _) (by omega) | (refine LoopEnd.intro (k + 1) (by first | omega) (by first | omega | (dsimp only; omega)) (by omega) ?_; simp only [go_sem]; (repeat' (first | refine fork_intro (fun hb => ?_) (fun hb => ?_) | refine partB_intro (fun hb => ?_) (fun hb => ?_) | refine And.intro ?_ ?_)); all_goals first | exact True.intro | omega | with_reducible rfl | exact congrArg (AV.int _) (by omega) | (first | rw [e2] | rfl)) | (first | rw [e2] | rfl)
    · have hk' : k = s.size := by omega
      subst hk'
      repeat' (first | refine fork_intro (fun hb => ?_) (fun hb => ?_) | refine partB_intro (fun hb => ?_) (fun hb => ?_) | refine And.intro ?_ ?_)
      all_goals first | exact True.intro | omega | with_reducible rfl | exact congrArg (AV.int _) (by omega) | (first | rfl)
def t_splitS : Table := [(41, pureC g_splitS)]
theorem t_splitS_ok : TabOK Tryd.prog t_splitS := .cons Tryd.func41 (by kernel_rfl) (.pure (by intro args hp; unfold g_splitS at hp ⊢; split at hp <;> first | exact hp.elim | exact splitS_ok _ _ hp)) (.nil _)
attribute [go_sem] g_splitS_eq t_splitS
end Go.Proofs.YtjnongegddnobaaDoor
