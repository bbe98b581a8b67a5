/- Swaps of sites: both packages say the same. -/
import Derived.Test.YteefjdbdknkcjaaGreatA16
import Derived.Test.YteefjdbdknkcjaaGreatPlD
namespace Go.Proofs.YteefjdbdknkcjaaGreat
open Go.Vc
set_option maxRecDepth 100000
set_option linter.unusedSimpArgs false
set_option linter.unusedVariables false

def g_hasS : List AV -> Prop × AV
  | [.ints xs, .int .i64 n] => (xs.length <= 1048576000, .bool (decide (n ∈ xs)))
  | _ => (False, .undef)
theorem g_hasS_eq (xs : List Int) (n : Int) : g_hasS [.ints xs, .int .i64 n] = (xs.length <= 1048576000, .bool (decide (n ∈ xs))) := (rfl)
theorem hasS_ok (xs : List Int) (n : Int) (hp : xs.length <= 1048576000) : SpecOK Tryz.prog 90 [.ints xs, .int .i64 n] (.bool (decide (n ∈ xs))) [] := by
  refine fun_ok (C := []) (hint := hintX [] [] 0 [] [] [] []) (TabOK.nil _) mixed Tryz.func90 rfl (by kernel_rfl) rfl ?_
  show codeA _ _ _ _ _ _ _ _
  simp only [go_sem, Tryz.results90]
  refine loop_intro (fun k : Nat => [(0, .ints xs), (1, .int .i64 n), (5, .int .i64 k)]) (fun _ => []) 0 (fun k => k <= xs.length /\ ∀ j : Nat, j < k -> ix xs (j : Int) ≠ n) (fun k => xs.length - k) 0 ⟨Nat.zero_le _, fun j h => absurd h (Nat.not_lt_zero _)⟩ (by omega) ?_ ?_
  · simp only [go_sem]
    repeat' (first | refine fork_intro (fun hb => ?_) (fun hb => ?_) | refine partB_intro (fun hb => ?_) (fun hb => ?_) | refine And.intro ?_ ?_)
    all_goals first | exact True.intro | omega | with_reducible rfl | exact congrArg (AV.int _) (by omega) | (first | rfl)
  · rintro k ⟨hk, ht⟩
    simp only [go_sem]
    refine fork_intro (fun hc => ?_) (fun hc => ?_)
    · refine ⟨by omega, fork_intro (fun hd => ?_) (fun hd => ?_)⟩
      · rw [decide_eq_true (show n ∈ xs from hd ▸ ix_mem xs (by omega))]
      · have hsu := below_succ (q := fun j : Nat => ix xs (j : Int) ≠ n) (k := k) ht hd
        repeat' (first | refine fork_intro (fun hb => ?_) (fun hb => ?_) | refine partB_intro (fun hb => ?_) (fun hb => ?_) | refine And.intro ?_ ?_)
        all_goals first | exact True.intro | omega | with_reducible rfl | exact congrArg (AV.int _) (by omega) | (refine LoopEnd.intro (k + 1) (by first | omega | (first | exact ⟨by omega, hsu⟩)) (by first | omega | (dsimp only; omega)) (by omega) ?_; simp only [go_sem]; (repeat' (first | refine fork_intro (fun hb => ?_) (fun hb => ?_) | refine partB_intro (fun hb => ?_) (fun hb => ?_) | refine And.intro ?_ ?_)); all_goals first | exact True.intro | omega | with_reducible rfl | exact congrArg (AV.int _) (by omega))
    · rw [decide_eq_false (fun hm => by obtain ⟨j, hj, e⟩ := mem_ix hm; exact ht j (by omega) e)]
def t_hasS : Table := [(90, pureC g_hasS)]
theorem t_hasS_ok : TabOK Tryz.prog t_hasS := .cons Tryz.func90 (by kernel_rfl) (.pure (by intro args hp; unfold g_hasS at hp ⊢; split at hp <;> first | exact hp.elim | exact hasS_ok _ _ hp)) (.nil _)
attribute [go_sem] g_hasS_eq t_hasS
def g_indexI : List AV -> Prop × AV
  | [.ints xs, .int .i64 n] => (xs.length <= 1048576000, .int .i64 (idxG (fun x => decide (x = n)) xs 0))
  | _ => (False, .undef)
theorem g_indexI_eq (xs : List Int) (n : Int) : g_indexI [.ints xs, .int .i64 n] = (xs.length <= 1048576000, .int .i64 (idxG (fun x => decide (x = n)) xs 0)) := (rfl)
theorem indexI_ok (xs : List Int) (n : Int) (hp : xs.length <= 1048576000) : SpecOK Tryz.prog 121 [.ints xs, .int .i64 n] (.int .i64 (idxG (fun x => decide (x = n)) xs 0)) [] := by
  refine fun_ok (C := []) (hint := hintX [] [] 0 [] [] [] []) (TabOK.nil _) mixed Tryz.func121 rfl (by kernel_rfl) rfl ?_
  show codeA _ _ _ _ _ _ _ _
  simp only [go_sem, Tryz.results121]
  refine loop_intro (fun k : Nat => [(0, .ints xs), (1, .int .i64 n), (7, .int .i64 xs.length), (8, .int .i64 k)]) (fun _ => []) 0 (fun k => k <= xs.length /\ idxG (fun x => decide (x = n)) (xs.drop k) k = idxG (fun x => decide (x = n)) xs 0) (fun k => xs.length - k) 0 ⟨Nat.zero_le _, rfl⟩ (by omega) ?_ ?_
  · simp only [go_sem]
    repeat' (first | refine fork_intro (fun hb => ?_) (fun hb => ?_) | refine partB_intro (fun hb => ?_) (fun hb => ?_) | refine And.intro ?_ ?_)
    all_goals first | exact True.intro | omega | with_reducible rfl | exact congrArg (AV.int _) (by omega) | (first | rfl)
  · rintro k ⟨hk, ht⟩
    simp only [go_sem]
    refine fork_intro (fun hb => ?_) (fun hb => ?_)
    · rw [drop_ix xs (show k < xs.length by omega), idxG] at ht
      refine ⟨by omega, fork_intro (fun hc => ?_) (fun hc => ?_)⟩
      · rw [if_pos (decide_eq_true hc.symm)] at ht
        rw [<- ht]
      · rw [if_neg (by rw [decide_eq_true_eq]; exact fun e => hc e.symm)] at ht
        repeat' (first | refine fork_intro (fun hb => ?_) (fun hb => ?_) | refine partB_intro (fun hb => ?_) (fun hb => ?_) | refine And.intro ?_ ?_)
        all_goals first | exact True.intro | omega | with_reducible rfl | exact congrArg (AV.int _) (by omega) | (refine LoopEnd.intro (k + 1) (by first | omega | (first | exact ⟨by omega, ht⟩)) (by first | omega | (dsimp only; omega)) (by omega) ?_; simp only [go_sem]; (repeat' (first | refine fork_intro (fun hb => ?_) (fun hb => ?_) | refine partB_intro (fun hb => ?_) (fun hb => ?_) | refine And.intro ?_ ?_)); all_goals first | exact True.intro | omega | with_reducible rfl | exact congrArg (AV.int _) (by omega))
    · rw [show k = xs.length by omega, List.drop_length] at ht
      rw [<- ht]; rfl
def t_indexI : Table := [(121, pureC g_indexI)]
theorem t_indexI_ok : TabOK Tryz.prog t_indexI := .cons Tryz.func121 (by kernel_rfl) (.pure (by intro args hp; unfold g_indexI at hp ⊢; split at hp <;> first | exact hp.elim | exact indexI_ok _ _ hp)) (.nil _)
attribute [go_sem] g_indexI_eq t_indexI
def g_containsI : List AV -> Prop × AV
  | [.ints xs, .int .i64 n] => (xs.length <= 1048576000, .bool (decide (n ∈ xs)))
  | _ => (False, .undef)
theorem g_containsI_eq (xs : List Int) (n : Int) : g_containsI [.ints xs, .int .i64 n] = (xs.length <= 1048576000, .bool (decide (n ∈ xs))) := (rfl)
theorem containsI_ok (xs : List Int) (n : Int) (hp : xs.length <= 1048576000) : SpecOK Tryz.prog 87 [.ints xs, .int .i64 n] (.bool (decide (n ∈ xs))) [] := by
  refine fun_ok (C := t_indexI) (hint := hintX [] [] 0 [] [] [] []) (t_indexI_ok) mixed Tryz.func87 rfl (by kernel_rfl) rfl ?_
  show codeA _ _ _ _ _ _ _ _
  simp only [go_sem, Tryz.results87]
  have e : decide (n ∈ xs) = decide (0 <= idxG (fun x => decide (x = n)) xs 0) := by
    rw [idxG_any _ xs 0 (by omega), Bool.eq_iff_iff, decide_eq_true_eq, List.any_eq_true]
    constructor
    · intro h; exact ⟨n, h, decide_eq_true rfl⟩
    · rintro ⟨y, h1, h2⟩; have := of_decide_eq_true h2; subst this; exact h1
  rw [e]
  repeat' (first | refine fork_intro (fun hb => ?_) (fun hb => ?_) | refine partB_intro (fun hb => ?_) (fun hb => ?_) | refine And.intro ?_ ?_)
  all_goals first | exact True.intro | omega | with_reducible rfl | exact congrArg (AV.int _) (by omega) | (first | exact hp)
def t_containsI : Table := [(87, pureC g_containsI)]
theorem t_containsI_ok : TabOK Tryz.prog t_containsI := .cons Tryz.func87 (by kernel_rfl) (.pure (by intro args hp; unfold g_containsI at hp ⊢; split at hp <;> first | exact hp.elim | exact containsI_ok _ _ hp)) (.nil _)
attribute [go_sem] g_containsI_eq t_containsI
def g_withoutS : List AV -> Prop × AV
  | [.ints xs, .int .i64 a] => (xs.length <= 1048576000, .ints (without xs a))
  | _ => (False, .undef)
theorem g_withoutS_eq (xs : List Int) (a : Int) : g_withoutS [.ints xs, .int .i64 a] = (xs.length <= 1048576000, .ints (without xs a)) := (rfl)
theorem withoutS_ok (xs : List Int) (a : Int) (hp : xs.length <= 1048576000) : SpecOK Tryz.prog 92 [.ints xs, .int .i64 a] (.ints (without xs a)) [] := by
  refine fun_ok (C := []) (hint := hintX [7] [] 0 [] [] [] []) (TabOK.nil _) mixed Tryz.func92 rfl (by kernel_rfl) rfl ?_
  show codeA _ _ _ _ _ _ _ _
  simp only [go_sem, Tryz.results92]
  refine loop_intro (fun k : Nat => [(5, .sl 0), (6, .int .i64 k), (0, .ints xs), (1, .int .i64 a)]) (fun k => [(0, .arr (.ints (without (xs.take k) a)))]) 1 (fun k => k <= xs.length) (fun k => xs.length - k) 0 (by omega) (by omega) ?_ ?_
  · simp only [go_sem]
    repeat' (first | refine fork_intro (fun hb => ?_) (fun hb => ?_) | refine partB_intro (fun hb => ?_) (fun hb => ?_) | refine And.intro ?_ ?_)
    all_goals first | exact True.intro | omega | with_reducible rfl | exact congrArg (AV.int _) (by omega) | (first | rfl)
  · intro k hk
    have hfl := filter_len (fun x => decide (x ≠ a)) xs k
    have hfl' : (without (xs.take k) a).length <= k := hfl
    simp only [go_sem]
    refine fork_intro (fun hc => ?_) (fun hc => ?_)
    · refine ⟨by omega, fork_intro (fun hd => ?_) (fun hd => ?_)⟩
      · have e : without (xs.take (k + 1)) a = without (xs.take k) a := filter_take_f (p := fun x => decide (x ≠ a)) (xs := xs) (k := k) (by omega) (decide_eq_false (fun h => h hd))
        repeat' (first | refine fork_intro (fun hb => ?_) (fun hb => ?_) | refine partB_intro (fun hb => ?_) (fun hb => ?_) | refine And.intro ?_ ?_)
        all_goals first | exact True.intro | omega | with_reducible rfl | exact congrArg (AV.int _) (by omega) | (refine LoopEnd.intro (k + 1) (by first | omega) (by first | omega | (dsimp only; omega)) (by omega) ?_; simp only [go_sem]; (repeat' (first | refine fork_intro (fun hb => ?_) (fun hb => ?_) | refine partB_intro (fun hb => ?_) (fun hb => ?_) | refine And.intro ?_ ?_)); all_goals first | exact True.intro | omega | with_reducible rfl | exact congrArg (AV.int _) (by omega) | (first | rw [e])) | (first | rw [e])
      · have e : without (xs.take (k + 1)) a = without (xs.take k) a ++ [ix xs (k : Int)] := filter_take_t (p := fun x => decide (x ≠ a)) (xs := xs) (k := k) (by omega) (decide_eq_true hd)
        repeat' (first | refine fork_intro (fun hb => ?_) (fun hb => ?_) | refine partB_intro (fun hb => ?_) (fun hb => ?_) | refine And.intro ?_ ?_)
        all_goals first | exact True.intro | omega | with_reducible rfl | exact congrArg (AV.int _) (by omega) | (refine LoopEnd.intro (k + 1) (by first | omega) (by first | omega | (dsimp only; omega)) (by omega) ?_; simp only [go_sem]; (repeat' (first | refine fork_intro (fun hb => ?_) (fun hb => ?_) | refine partB_intro (fun hb => ?_) (fun hb => ?_) | refine And.intro ?_ ?_)); all_goals first | exact True.intro | omega | with_reducible rfl | exact congrArg (AV.int _) (by omega) | (first | rw [e])) | (first | rw [e])
    · rw [show k = xs.length by omega, List.take_length]
def t_withoutS : Table := [(92, pureC g_withoutS)]
theorem t_withoutS_ok : TabOK Tryz.prog t_withoutS := .cons Tryz.func92 (by kernel_rfl) (.pure (by intro args hp; unfold g_withoutS at hp ⊢; split at hp <;> first | exact hp.elim | exact withoutS_ok _ _ hp)) (.nil _)
attribute [go_sem] g_withoutS_eq t_withoutS
def g_putS : List AV -> Prop × AV
  | [.ints xs, .int .i64 n] => (xs.length <= 1048576, .ints (putF xs n))
  | _ => (False, .undef)
theorem g_putS_eq (xs : List Int) (n : Int) : g_putS [.ints xs, .int .i64 n] = (xs.length <= 1048576, .ints (putF xs n)) := (rfl)
theorem putS_ok (xs : List Int) (n : Int) (hp : xs.length <= 1048576) : SpecOK Tryz.prog 66 [.ints xs, .int .i64 n] (.ints (putF xs n)) [] := by
  refine fun_ok (C := []) (hint := hintX [33] [] 0 [] [] [(6, [0, 1, 2, 3, 5, 6, 8, 9, 10, 4, 7, 11, 12])] [(6, [4, 9])]) (TabOK.nil _) mixed Tryz.func66 rfl (by kernel_rfl) rfl ?_
  show codeA _ _ _ _ _ _ _ _
  simp only [go_sem, Tryz.results66]
  refine loop_intro (fun k : Nat => [(0, .ints xs), (1, .int .i64 n), (4, .nils), (5, .int .i64 k)]) (fun _ => []) 0 (fun k => k <= xs.length /\ ∀ j : Nat, j < k -> ix xs (j : Int) < n) (fun k => xs.length - k) 0 ⟨Nat.zero_le _, fun j h => absurd h (Nat.not_lt_zero _)⟩ (by omega) ?_ ?_
  · simp only [go_sem]
    repeat' (first | refine fork_intro (fun hb => ?_) (fun hb => ?_) | refine partB_intro (fun hb => ?_) (fun hb => ?_) | refine And.intro ?_ ?_)
    all_goals first | exact True.intro | omega | with_reducible rfl | exact congrArg (AV.int _) (by omega) | (first | rfl)
  · rintro k ⟨hk, ht⟩
    have e1 := cutL_pre xs k
    have e2 := cutL_suf xs k
    have e3 := fun h2 => putF_at (n := n) (xs := xs) (k := k) hk ht h2
    have hsu := fun h => below_succ (q := fun j : Nat => ix xs (j : Int) < n) (k := k) ht h
    have hl1 : (xs.take k).length = k := by simp; omega
    have hl2 : (xs.drop k).length = xs.length - k := by simp
    simp only [go_sem]
    simp only [e1, e2]
    refine fork_intro (fun hc => ⟨by omega, fork_intro (fun hd => ?_) (fun hd => ?_)⟩) (fun hc => ?_)
    · repeat' (first | refine fork_intro (fun hb => ?_) (fun hb => ?_) | refine partB_intro (fun hb => ?_) (fun hb => ?_) | refine And.intro ?_ ?_)
      all_goals first | exact True.intro | omega | with_reducible rfl | exact congrArg (AV.int _) (by omega) | (refine LoopEnd.intro (k + 1) (by first | omega | (first | exact ⟨by omega, hsu hd⟩)) (by first | omega | (dsimp only; omega)) (by omega) ?_; simp only [go_sem]; (repeat' (first | refine fork_intro (fun hb => ?_) (fun hb => ?_) | refine partB_intro (fun hb => ?_) (fun hb => ?_) | refine And.intro ?_ ?_)); all_goals first | exact True.intro | omega | with_reducible rfl | exact congrArg (AV.int _) (by omega))
    · have e4 := e3 (fun _ => by omega)
      repeat' (first | refine fork_intro (fun hb => ?_) (fun hb => ?_) | refine partB_intro (fun hb => ?_) (fun hb => ?_) | refine And.intro ?_ ?_)
      all_goals first | exact True.intro | omega | with_reducible rfl | exact congrArg (AV.int _) (by omega) | (first | (rw [e4, if_pos (by omega)]; done) | (rw [e4, if_neg (by omega), List.append_assoc]; rfl))
    · have e4 := e3 (fun h => by omega)
      repeat' (first | refine fork_intro (fun hb => ?_) (fun hb => ?_) | refine partB_intro (fun hb => ?_) (fun hb => ?_) | refine And.intro ?_ ?_)
      all_goals first | exact True.intro | omega | with_reducible rfl | exact congrArg (AV.int _) (by omega) | (first | (rw [e4, if_pos (by omega)]; done) | (rw [e4, if_neg (by omega), List.append_assoc]; rfl))
def t_putS : Table := [(66, pureC g_putS)]
theorem t_putS_ok : TabOK Tryz.prog t_putS := .cons Tryz.func66 (by kernel_rfl) (.pure (by intro args hp; unfold g_putS at hp ⊢; split at hp <;> first | exact hp.elim | exact putS_ok _ _ hp)) (.nil _)
attribute [go_sem] g_putS_eq t_putS
def g_swappedI : List AV -> Prop × AV × Heap
  | [.ints xs, .int .i64 a, .int .i64 b] => (xs.length <= 1048576000 /\ Up xs /\ (∀ x ∈ xs, 0 <= x /\ x < 7) /\ (0 <= a /\ a < 7) /\ 0 <= b /\ b < 7, .sl 0, [(0, .arr (.ints (swapL xs a b)))])
  | _ => (False, .undef, [])
theorem g_swappedI_eq (xs : List Int) (a b : Int) : g_swappedI [.ints xs, .int .i64 a, .int .i64 b] = (xs.length <= 1048576000 /\ Up xs /\ (∀ x ∈ xs, 0 <= x /\ x < 7) /\ (0 <= a /\ a < 7) /\ 0 <= b /\ b < 7, .sl 0, [(0, .arr (.ints (swapL xs a b)))]) := (rfl)
theorem swappedI_ok (xs : List Int) (a b : Int) (hp : xs.length <= 1048576000 /\ Up xs /\ (∀ x ∈ xs, 0 <= x /\ x < 7) /\ (0 <= a /\ a < 7) /\ 0 <= b /\ b < 7) : SpecOK Tryz.prog 88 [.ints xs, .int .i64 a, .int .i64 b] (.sl 0) [(0, .arr (.ints (swapL xs a b)))] := by
  refine fun_ok (C := t_bagI ++ t_listI) (hint := hintX [15] [] 0 [] [] [] []) ((t_bagI_ok).append t_listI_ok) mixed Tryz.func88 rfl (by kernel_rfl) rfl ?_
  show codeA _ _ _ _ _ _ _ _
  simp only [go_sem, Tryz.results88]
  obtain ⟨hl, hu, hx, ha, hb⟩ := hp
  have h1 := bag_lt hx
  obtain ⟨p1, p2, p3⟩ := pow7 a.toNat (by omega)
  obtain ⟨q1, q2, q3⟩ := pow7 b.toNat (by omega)
  have e := swap_bag hu hx ha hb
  have h3 := andNot_lt (1 * 2 ^ a.toNat) h1
  have h2 := or_lt h3 (bit7 b hb)
  simp only [p3, q3, bitN_andNot, bitN_or, e]
  refine ⟨⟨hl, hx⟩, ?_⟩
  repeat' (first | refine fork_intro (fun hb => ?_) (fun hb => ?_) | refine partB_intro (fun hb => ?_) (fun hb => ?_) | refine And.intro ?_ ?_)
  all_goals first | exact True.intro | omega | with_reducible rfl | exact congrArg (AV.int _) (by omega) | (first | rfl)
def t_swappedI : Table := [(88, ownC g_swappedI)]
theorem t_swappedI_ok : TabOK Tryz.prog t_swappedI := .cons Tryz.func88 (by kernel_rfl) (.own (by intro args hp; unfold g_swappedI at hp ⊢; split at hp <;> first | exact hp.elim | exact ⟨swappedI_ok _ _ _ hp, rfl⟩)) (.nil _)
attribute [go_sem] g_swappedI_eq t_swappedI
def g_swapOfS : List AV -> Prop × AV
  | [.agg [.ints o, .rows d], .ints set, .int .i64 a, .int .i64 b] => ((o.length <= 1048576000 /\ d.length <= 1048576000 /\ ∀ x ∈ d, x.length <= 1048576000) /\ set.length <= 1048576, .tup [.ints (bif swapB o d set a b then swapL set a b else []), .bool (swapB o d set a b)])
  | _ => (False, .undef)
theorem g_swapOfS_eq (o : List Int) (d : List (List Int)) (set : List Int) (a b : Int) : g_swapOfS [.agg [.ints o, .rows d], .ints set, .int .i64 a, .int .i64 b] = ((o.length <= 1048576000 /\ d.length <= 1048576000 /\ ∀ x ∈ d, x.length <= 1048576000) /\ set.length <= 1048576, .tup [.ints (bif swapB o d set a b then swapL set a b else []), .bool (swapB o d set a b)]) := (rfl)
theorem swapOfS_ok (o : List Int) (d : List (List Int)) (set : List Int) (a b : Int) (hp : (o.length <= 1048576000 /\ d.length <= 1048576000 /\ ∀ x ∈ d, x.length <= 1048576000) /\ set.length <= 1048576) : SpecOK Tryz.prog 37 [.agg [.ints o, .rows d], .ints set, .int .i64 a, .int .i64 b] (.tup [.ints (bif swapB o d set a b then swapL set a b else []), .bool (swapB o d set a b)]) [] := by
  refine fun_ok (C := t_twoS ++ t_hasS ++ t_l1In ++ t_withoutS ++ t_putS) (hint := hintX [] [] 0 [] [] [] []) (((((t_twoS_ok).append t_hasS_ok).append t_l1In_ok).append t_withoutS_ok).append t_putS_ok) mixed Tryz.func37 rfl (by kernel_rfl) rfl ?_
  show codeA _ _ _ _ _ _ _ _
  simp only [go_sem, Tryz.results37]
  have hl := List.length_filter_le (fun x => decide (x ≠ a)) set
  have hl' : (without set a).length <= set.length := hl
  refine ⟨⟨hp.1, by omega⟩, partB_intro (fun hg => ⟨by omega, fork_intro (fun h1 => ⟨by omega, fork_intro (fun h2 => ?_) (fun h2 => ⟨by omega, fork_intro (fun h3 => ?_) (fun h3 => ?_)⟩)⟩) (fun h1 => ?_)⟩) (fun hg => ?_)⟩
  · rw [show swapB o d set a b = false by rw [swapB, decide_eq_true h2]; simp]
    repeat' (first | refine fork_intro (fun hb => ?_) (fun hb => ?_) | refine partB_intro (fun hb => ?_) (fun hb => ?_) | refine And.intro ?_ ?_)
    all_goals first | exact True.intro | omega | with_reducible rfl | exact congrArg (AV.int _) (by omega) | (first | rfl)
  · rw [show swapB o d set a b = true by rw [swapB, hg, decide_eq_true h1, decide_eq_false h2, decide_eq_true h3]; rfl]
    repeat' (first | refine fork_intro (fun hb => ?_) (fun hb => ?_) | refine partB_intro (fun hb => ?_) (fun hb => ?_) | refine And.intro ?_ ?_)
    all_goals first | exact True.intro | omega | with_reducible rfl | exact congrArg (AV.int _) (by omega) | (first | rfl)
  · rw [show swapB o d set a b = false by rw [swapB, decide_eq_false h3]; simp]
    repeat' (first | refine fork_intro (fun hb => ?_) (fun hb => ?_) | refine partB_intro (fun hb => ?_) (fun hb => ?_) | refine And.intro ?_ ?_)
    all_goals first | exact True.intro | omega | with_reducible rfl | exact congrArg (AV.int _) (by omega) | (first | rfl)
  · rw [show swapB o d set a b = false by rw [swapB, decide_eq_false h1]; simp]
    repeat' (first | refine fork_intro (fun hb => ?_) (fun hb => ?_) | refine partB_intro (fun hb => ?_) (fun hb => ?_) | refine And.intro ?_ ?_)
    all_goals first | exact True.intro | omega | with_reducible rfl | exact congrArg (AV.int _) (by omega) | (first | rfl)
  · rw [show swapB o d set a b = false by rw [swapB, hg]; rfl]
    repeat' (first | refine fork_intro (fun hb => ?_) (fun hb => ?_) | refine partB_intro (fun hb => ?_) (fun hb => ?_) | refine And.intro ?_ ?_)
    all_goals first | exact True.intro | omega | with_reducible rfl | exact congrArg (AV.int _) (by omega) | (first | rfl)
def t_swapOfS : Table := [(37, pureC g_swapOfS)]
theorem t_swapOfS_ok : TabOK Tryz.prog t_swapOfS := .cons Tryz.func37 (by kernel_rfl) (.pure (by intro args hp; unfold g_swapOfS at hp ⊢; split at hp <;> first | exact hp.elim | exact swapOfS_ok _ _ _ _ _ hp)) (.nil _)
attribute [go_sem] g_swapOfS_eq t_swapOfS
def g_swapOfI : List AV -> Prop × AV × Heap
  | [.agg [.ints o, .rows d], .ints set, .int .i64 a, .int .i64 b] => ((o.length <= 1048576000 /\ d.length <= 1048576000 /\ ∀ x ∈ d, x.length <= 1048576000) /\ set.length <= 1048576, .tup [.sl 0, .bool (swapB o d set a b)], [(0, .arr (.ints (bif swapB o d set a b then swapL set a b else [])))])
  | _ => (False, .undef, [])
theorem g_swapOfI_eq (o : List Int) (d : List (List Int)) (set : List Int) (a b : Int) : g_swapOfI [.agg [.ints o, .rows d], .ints set, .int .i64 a, .int .i64 b] = ((o.length <= 1048576000 /\ d.length <= 1048576000 /\ ∀ x ∈ d, x.length <= 1048576000) /\ set.length <= 1048576, .tup [.sl 0, .bool (swapB o d set a b)], [(0, .arr (.ints (bif swapB o d set a b then swapL set a b else [])))]) := (rfl)
theorem swapOfI_ok (o : List Int) (d : List (List Int)) (set : List Int) (a b : Int) (hp : (o.length <= 1048576000 /\ d.length <= 1048576000 /\ ∀ x ∈ d, x.length <= 1048576000) /\ set.length <= 1048576) : SpecOK Tryz.prog 36 [.agg [.ints o, .rows d], .ints set, .int .i64 a, .int .i64 b] (.tup [.sl 0, .bool (swapB o d set a b)]) [(0, .arr (.ints (bif swapB o d set a b then swapL set a b else [])))] := by
  refine fun_ok (C := t_openI ++ t_containsI ++ t_between ++ t_swappedI) (hint := hintX [37] [(2, [.post, .up 8 (.arr (.ints []))])] 0 [] [] [] []) ((((t_openI_ok).append t_containsI_ok).append t_between_ok).append t_swappedI_ok) mixed Tryz.func36 rfl (by kernel_rfl) rfl ?_
  show codeA _ _ _ _ _ _ _ _
  simp only [go_sem, Tryz.results36]
  refine ⟨⟨hp.1, by omega⟩, partB_intro (fun hg => ⟨by omega, fork_intro (fun h1 => ⟨by omega, fork_intro (fun h3 => ⟨by omega, fork_intro (fun h2 => ?_) (fun h2 => ?_)⟩) (fun h3 => ?_)⟩) (fun h1 => ?_)⟩) (fun hg => ?_)⟩
  · rw [show swapB o d set a b = false by rw [swapB, decide_eq_true h2]; simp]
    repeat' (first | refine fork_intro (fun hb => ?_) (fun hb => ?_) | refine partB_intro (fun hb => ?_) (fun hb => ?_) | refine And.intro ?_ ?_)
    all_goals first | exact True.intro | omega | with_reducible rfl | exact congrArg (AV.int _) (by omega) | (first | rfl)
  · rw [show swapB o d set a b = true by rw [swapB, hg, decide_eq_true h1, decide_eq_false h2, decide_eq_true h3]; rfl]
    have h := opened_iff (by omega) hg
    have hu := opened_up hg
    have h7 := h.seven
    have ha := h7 a h1
    have hn := h.f.n7
    have hpr : set.length <= 1048576000 /\ Up set /\ (∀ x ∈ set, 0 <= x /\ x < 7) /\ (0 <= a /\ a < 7) /\ 0 <= b /\ b < 7 := ⟨by omega, hu, h7, ha, by omega, by omega⟩
    repeat' (first | refine fork_intro (fun hb => ?_) (fun hb => ?_) | refine partB_intro (fun hb => ?_) (fun hb => ?_) | refine And.intro ?_ ?_)
    all_goals first | exact True.intro | omega | with_reducible rfl | exact congrArg (AV.int _) (by omega) | (first | exact hpr | rfl)
  · rw [show swapB o d set a b = false by rw [swapB, decide_eq_false h3]; simp]
    repeat' (first | refine fork_intro (fun hb => ?_) (fun hb => ?_) | refine partB_intro (fun hb => ?_) (fun hb => ?_) | refine And.intro ?_ ?_)
    all_goals first | exact True.intro | omega | with_reducible rfl | exact congrArg (AV.int _) (by omega) | (first | rfl)
  · rw [show swapB o d set a b = false by rw [swapB, decide_eq_false h1]; simp]
    repeat' (first | refine fork_intro (fun hb => ?_) (fun hb => ?_) | refine partB_intro (fun hb => ?_) (fun hb => ?_) | refine And.intro ?_ ?_)
    all_goals first | exact True.intro | omega | with_reducible rfl | exact congrArg (AV.int _) (by omega) | (first | rfl)
  · rw [show swapB o d set a b = false by rw [swapB, hg]; rfl]
    repeat' (first | refine fork_intro (fun hb => ?_) (fun hb => ?_) | refine partB_intro (fun hb => ?_) (fun hb => ?_) | refine And.intro ?_ ?_)
    all_goals first | exact True.intro | omega | with_reducible rfl | exact congrArg (AV.int _) (by omega) | (first | rfl)
def t_swapOfI : Table := [(36, ownC g_swapOfI)]
theorem t_swapOfI_ok : TabOK Tryz.prog t_swapOfI := .cons Tryz.func36 (by kernel_rfl) (.own (by intro args hp; unfold g_swapOfI at hp ⊢; split at hp <;> first | exact hp.elim | exact ⟨swapOfI_ok _ _ _ _ _ hp, rfl⟩)) (.nil _)
attribute [go_sem] g_swapOfI_eq t_swapOfI
end Go.Proofs.YteefjdbdknkcjaaGreat
