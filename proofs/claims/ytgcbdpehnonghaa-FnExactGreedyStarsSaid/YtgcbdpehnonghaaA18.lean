/- Swaps of sites: both packages say the same. -/
import Derived.Test.YtgcbdpehnonghaaA16
import Derived.Test.YtgcbdpehnonghaaPlD
namespace Go.Proofs.Ytgcbdpehnonghaa
open Go.Vc
set_option maxRecDepth 100000
set_option linter.unusedSimpArgs false
set_option linter.unusedVariables false

def g_hasS : List AV -> Prop × AV
  | [.ints xs, .int .i64 n] => (xs.length <= 1048576000, .bool (decide (n ∈ xs)))
  | _ => (False, .undef)
theorem g_hasS_eq (xs : List Int) (n : Int) : g_hasS [.ints xs, .int .i64 n] = (xs.length <= 1048576000, .bool (decide (n ∈ xs))) := (rfl)
theorem hasS_ok (xs : List Int) (n : Int) (hp : xs.length <= 1048576000) : SpecOK Try.prog 25 [.ints xs, .int .i64 n] (.bool (decide (n ∈ xs))) [] := by
  refine fun_ok (C := []) (hint := hintX [] [] 0 [] [] [] []) (TabOK.nil _) mixed Try.func25 rfl (by kernel_rfl) rfl ?_
  show codeA _ _ _ _ _ _ _ _
  simp only [go_sem, Try.results25]
  refine loop_intro (fun k : Nat => [(0, .ints xs), (1, .int .i64 n), (5, .int .i64 k)]) (fun _ => []) 0 (fun k => k <= xs.length /\ ∀ j : Nat, j < k -> ix xs (j : Int) ≠ n) (fun k => xs.length - k) 0 ⟨Nat.zero_le _, fun j h => absurd h (Nat.not_lt_zero _)⟩ (by omega) ?_ ?_
  · simp only [go_sem]
    repeat' (first | refine fork_intro (fun hb => ?_) (fun hb => ?_) | refine partB_intro (fun hb => ?_) (fun hb => ?_) | refine And.intro ?_ ?_)
    all_goals first | exact True.intro | omega | with_reducible rfl | exact congrArg (AV.int _) (by omega) | (first | rfl)
  · rintro k ⟨hk, ht⟩
    simp only [go_sem]
    refine fork_intro (fun hc => ?_) (fun hc => ?_)
    · refine ⟨by omega, fork_intro (fun hd => ?_) (fun hd => ?_)⟩
      · rw [decide_eq_true (show n ∈ xs from hd ▸ ix_mem xs (by omega))]
      · have hsu := below_succ (q := fun j : Nat => ix xs (j : Int) ≠ n) (k := k) ht hd
        repeat' (first | refine fork_intro (fun hb => ?_) (fun hb => ?_) | refine partB_intro (fun hb => ?_) (fun hb => ?_) | refine And.intro ?_ ?_)
        all_goals first | exact True.intro | omega | with_reducible rfl | exact congrArg (AV.int _) (by omega) | (refine LoopEnd.intro (k + 1) (by first | omega | (first | exact ⟨by omega, hsu⟩)) (by first | omega | (dsimp only; omega)) (by omega) ?_; simp only [go_sem]; (repeat' (first | refine fork_intro (fun hb => ?_) (fun hb => ?_) | refine partB_intro (fun hb => ?_) (fun hb => ?_) | refine And.intro ?_ ?_)); all_goals first | exact True.intro | omega | with_reducible rfl | exact congrArg (AV.int _) (by omega))
    · rw [decide_eq_false (fun hm => by obtain ⟨j, hj, e⟩ := mem_ix hm; exact ht j (by omega) e)]
def t_hasS : Table := [(25, pureC g_hasS)]
theorem t_hasS_ok : TabOK Try.prog t_hasS := .cons Try.func25 (by kernel_rfl) (.pure (by intro args hp; unfold g_hasS at hp ⊢; split at hp <;> first | exact hp.elim | exact hasS_ok _ _ hp)) (.nil _)
attribute [go_sem] g_hasS_eq t_hasS
def g_indexI : List AV -> Prop × AV
  | [.ints xs, .int .i64 n] => (xs.length <= 1048576000, .int .i64 (idxG (fun x => decide (x = n)) xs 0))
  | _ => (False, .undef)
theorem g_indexI_eq (xs : List Int) (n : Int) : g_indexI [.ints xs, .int .i64 n] = (xs.length <= 1048576000, .int .i64 (idxG (fun x => decide (x = n)) xs 0)) := (rfl)
theorem indexI_ok (xs : List Int) (n : Int) (hp : xs.length <= 1048576000) : SpecOK Try.prog 56 [.ints xs, .int .i64 n] (.int .i64 (idxG (fun x => decide (x = n)) xs 0)) [] := by
  refine fun_ok (C := []) (hint := hintX [] [] 0 [] [] [] []) (TabOK.nil _) mixed Try.func56 rfl (by kernel_rfl) rfl ?_
  show codeA _ _ _ _ _ _ _ _
  simp only [go_sem, Try.results56]
  refine loop_intro (fun k : Nat => [(0, .ints xs), (1, .int .i64 n), (7, .int .i64 xs.length), (8, .int .i64 k)]) (fun _ => []) 0 (fun k => k <= xs.length /\ idxG (fun x => decide (x = n)) (xs.drop k) k = idxG (fun x => decide (x = n)) xs 0) (fun k => xs.length - k) 0 ⟨Nat.zero_le _, rfl⟩ (by omega) ?_ ?_
  · simp only [go_sem]
    repeat' (first | refine fork_intro (fun hb => ?_) (fun hb => ?_) | refine partB_intro (fun hb => ?_) (fun hb => ?_) | refine And.intro ?_ ?_)
    all_goals first | exact True.intro | omega | with_reducible rfl | exact congrArg (AV.int _) (by omega) | (first | rfl)
  · rintro k ⟨hk, ht⟩
    simp only [go_sem]
    refine fork_intro (fun hb => ?_) (fun hb => ?_)
    · rw [drop_ix xs (show k < xs.length by omega), idxG] at ht
      refine ⟨by omega, fork_intro (fun hc => ?_) (fun hc => ?_)⟩
      · rw [if_pos (decide_eq_true hc.symm)] at ht
        rw [<- ht]
      · rw [if_neg (by rw [decide_eq_true_eq]; exact fun e => hc e.symm)] at ht
        repeat' (first | refine fork_intro (fun hb => ?_) (fun hb => ?_) | refine partB_intro (fun hb => ?_) (fun hb => ?_) | refine And.intro ?_ ?_)
        all_goals first | exact True.intro | omega | with_reducible rfl | exact congrArg (AV.int _) (by omega) | (refine LoopEnd.intro (k + 1) (by first | omega | (first | exact ⟨by omega, ht⟩)) (by first | omega | (dsimp only; omega)) (by omega) ?_; simp only [go_sem]; (repeat' (first | refine fork_intro (fun hb => ?_) (fun hb => ?_) | refine partB_intro (fun hb => ?_) (fun hb => ?_) | refine And.intro ?_ ?_)); all_goals first | exact True.intro | omega | with_reducible rfl | exact congrArg (AV.int _) (by omega))
    · rw [show k = xs.length by omega, List.drop_length] at ht
      rw [<- ht]; rfl
def t_indexI : Table := [(56, pureC g_indexI)]
theorem t_indexI_ok : TabOK Try.prog t_indexI := .cons Try.func56 (by kernel_rfl) (.pure (by intro args hp; unfold g_indexI at hp ⊢; split at hp <;> first | exact hp.elim | exact indexI_ok _ _ hp)) (.nil _)
attribute [go_sem] g_indexI_eq t_indexI
def g_containsI : List AV -> Prop × AV
  | [.ints xs, .int .i64 n] => (xs.length <= 1048576000, .bool (decide (n ∈ xs)))
  | _ => (False, .undef)
theorem g_containsI_eq (xs : List Int) (n : Int) : g_containsI [.ints xs, .int .i64 n] = (xs.length <= 1048576000, .bool (decide (n ∈ xs))) := (rfl)
theorem containsI_ok (xs : List Int) (n : Int) (hp : xs.length <= 1048576000) : SpecOK Try.prog 35 [.ints xs, .int .i64 n] (.bool (decide (n ∈ xs))) [] := by
  refine fun_ok (C := t_indexI) (hint := hintX [] [] 0 [] [] [] []) (t_indexI_ok) mixed Try.func35 rfl (by kernel_rfl) rfl ?_
  show codeA _ _ _ _ _ _ _ _
  simp only [go_sem, Try.results35]
  have e : decide (n ∈ xs) = decide (0 <= idxG (fun x => decide (x = n)) xs 0) := by
    rw [idxG_any _ xs 0 (by omega), Bool.eq_iff_iff, decide_eq_true_eq, List.any_eq_true]
    constructor
    · intro h; exact ⟨n, h, decide_eq_true rfl⟩
    · rintro ⟨y, h1, h2⟩; have := of_decide_eq_true h2; subst this; exact h1
  rw [e]
  repeat' (first | refine fork_intro (fun hb => ?_) (fun hb => ?_) | refine partB_intro (fun hb => ?_) (fun hb => ?_) | refine And.intro ?_ ?_)
  all_goals first | exact True.intro | omega | with_reducible rfl | exact congrArg (AV.int _) (by omega) | (first | exact hp)
def t_containsI : Table := [(35, pureC g_containsI)]
theorem t_containsI_ok : TabOK Try.prog t_containsI := .cons Try.func35 (by kernel_rfl) (.pure (by intro args hp; unfold g_containsI at hp ⊢; split at hp <;> first | exact hp.elim | exact containsI_ok _ _ hp)) (.nil _)
attribute [go_sem] g_containsI_eq t_containsI
def g_putS : List AV -> Prop × AV
  | [.ints xs, .int .i64 n] => (xs.length <= 1048576, .ints (putF xs n))
  | _ => (False, .undef)
theorem g_putS_eq (xs : List Int) (n : Int) : g_putS [.ints xs, .int .i64 n] = (xs.length <= 1048576, .ints (putF xs n)) := (rfl)
theorem putS_ok (xs : List Int) (n : Int) (hp : xs.length <= 1048576) : SpecOK Try.prog 26 [.ints xs, .int .i64 n] (.ints (putF xs n)) [] := by
  refine fun_ok (C := []) (hint := hintX [33] [] 0 [] [] [(6, [0, 1, 2, 3, 5, 6, 8, 9, 10, 4, 7, 11, 12])] [(6, [4, 9])]) (TabOK.nil _) mixed Try.func26 rfl (by kernel_rfl) rfl ?_
  show codeA _ _ _ _ _ _ _ _
  simp only [go_sem, Try.results26]
  refine loop_intro (fun k : Nat => [(0, .ints xs), (1, .int .i64 n), (4, .nils), (5, .int .i64 k)]) (fun _ => []) 0 (fun k => k <= xs.length /\ ∀ j : Nat, j < k -> ix xs (j : Int) < n) (fun k => xs.length - k) 0 ⟨Nat.zero_le _, fun j h => absurd h (Nat.not_lt_zero _)⟩ (by omega) ?_ ?_
  · simp only [go_sem]
    repeat' (first | refine fork_intro (fun hb => ?_) (fun hb => ?_) | refine partB_intro (fun hb => ?_) (fun hb => ?_) | refine And.intro ?_ ?_)
    all_goals first | exact True.intro | omega | with_reducible rfl | exact congrArg (AV.int _) (by omega) | (first | rfl)
  · rintro k ⟨hk, ht⟩
    have e1 := cutL_pre xs k
    have e2 := cutL_suf xs k
    have e3 := fun h2 => putF_at (n := n) (xs := xs) (k := k) hk ht h2
    have hsu := fun h => below_succ (q := fun j : Nat => ix xs (j : Int) < n) (k := k) ht h
    have hl1 : (xs.take k).length = k := by simp; omega
    have hl2 : (xs.drop k).length = xs.length - k := by simp
    simp only [go_sem]
    simp only [e1, e2]
    refine fork_intro (fun hc => ⟨by omega, fork_intro (fun hd => ?_) (fun hd => ?_)⟩) (fun hc => ?_)
    · repeat' (first | refine fork_intro (fun hb => ?_) (fun hb => ?_) | refine partB_intro (fun hb => ?_) (fun hb => ?_) | refine And.intro ?_ ?_)
      all_goals first | exact True.intro | omega | with_reducible rfl | exact congrArg (AV.int _) (by omega) | (refine LoopEnd.intro (k + 1) (by first | omega | (first | exact ⟨by omega, hsu hd⟩)) (by first | omega | (dsimp only; omega)) (by omega) ?_; simp only [go_sem]; (repeat' (first | refine fork_intro (fun hb => ?_) (fun hb => ?_) | refine partB_intro (fun hb => ?_) (fun hb => ?_) | refine And.intro ?_ ?_)); all_goals first | exact True.intro | omega | with_reducible rfl | exact congrArg (AV.int _) (by omega))
    · have e4 := e3 (fun _ => by omega)
      repeat' (first | refine fork_intro (fun hb => ?_) (fun hb => ?_) | refine partB_intro (fun hb => ?_) (fun hb => ?_) | refine And.intro ?_ ?_)
      all_goals first | exact True.intro | omega | with_reducible rfl | exact congrArg (AV.int _) (by omega) | (first | (rw [e4, if_pos (by omega)]; done) | (rw [e4, if_neg (by omega), List.append_assoc]; rfl))
    · have e4 := e3 (fun h => by omega)
      repeat' (first | refine fork_intro (fun hb => ?_) (fun hb => ?_) | refine partB_intro (fun hb => ?_) (fun hb => ?_) | refine And.intro ?_ ?_)
      all_goals first | exact True.intro | omega | with_reducible rfl | exact congrArg (AV.int _) (by omega) | (first | (rw [e4, if_pos (by omega)]; done) | (rw [e4, if_neg (by omega), List.append_assoc]; rfl))
def t_putS : Table := [(26, pureC g_putS)]
theorem t_putS_ok : TabOK Try.prog t_putS := .cons Try.func26 (by kernel_rfl) (.pure (by intro args hp; unfold g_putS at hp ⊢; split at hp <;> first | exact hp.elim | exact putS_ok _ _ hp)) (.nil _)
attribute [go_sem] g_putS_eq t_putS
end Go.Proofs.Ytgcbdpehnonghaa
