/- Rising lists and payments: both packages say the same. -/
import Derived.Test.YteefjdbdknkcjaaGreatA3
import Derived.Test.YteefjdbdknkcjaaGreatPlS
namespace Go.Proofs.YteefjdbdknkcjaaGreat
open Go.Vc
set_option maxRecDepth 100000
set_option linter.unusedSimpArgs false
set_option linter.unusedVariables false

def g_risS : List AV -> Prop × AV
  | [.ints xs, .int .i64 lo, .int .i64 hi] => (xs.length <= 1048576000, .bool (ris lo hi xs))
  | _ => (False, .undef)
theorem g_risS_eq (xs : List Int) (lo hi : Int) : g_risS [.ints xs, .int .i64 lo, .int .i64 hi] = (xs.length <= 1048576000, .bool (ris lo hi xs)) := (rfl)
theorem risS_ok (xs : List Int) (lo hi : Int) (hp : xs.length <= 1048576000) : SpecOK Tryz.prog 175 [.ints xs, .int .i64 lo, .int .i64 hi] (.bool (ris lo hi xs)) [] := by
  refine fun_ok (C := t_l1In) (hint := hintX [] [] 0 [] [] [] []) (t_l1In_ok) mixed Tryz.func175 rfl (by kernel_rfl) rfl ?_
  show codeA _ _ _ _ _ _ _ _
  simp only [go_sem, Tryz.results175]
  refine loop_intro (fun k : Nat => [(7, .int .i64 k), (0, .ints xs), (1, .int .i64 lo), (2, .int .i64 hi)]) (fun _ => []) 0 (fun k => k <= xs.length /\ ∀ k', k' < k -> (lo <= ix xs (k' : Int) /\ ix xs (k' : Int) <= hi) /\ (0 < k' -> ix xs ((k' : Int) - 1) < ix xs (k' : Int))) (fun k => xs.length - k) 0 ⟨Nat.zero_le _, fun i' h => absurd h (Nat.not_lt_zero _)⟩ (Nat.zero_le _) ?_ ?_
  · simp only [go_sem]
    repeat' (first | refine fork_intro (fun hb => ?_) (fun hb => ?_) | refine partB_intro (fun hb => ?_) (fun hb => ?_) | refine And.intro ?_ ?_)
    all_goals first | trivial | rfl | omega
  · rintro k ⟨hk, ht⟩
    simp only [go_sem]
    refine fork_intro (fun hb => ?_) (fun hb => ?_)
    · have hz : ∀ h : ¬((lo <= ix xs (k : Int) /\ ix xs (k : Int) <= hi) /\ (0 < k -> ix xs ((k : Int) - 1) < ix xs (k : Int))), ris lo hi xs = false := fun h => decide_eq_false (fun hz => h (hz k (by omega)))
      have hs : ∀ h : ((lo <= ix xs (k : Int) /\ ix xs (k : Int) <= hi) /\ (0 < k -> ix xs ((k : Int) - 1) < ix xs (k : Int))), ∀ k', k' < k + 1 -> (lo <= ix xs (k' : Int) /\ ix xs (k' : Int) <= hi) /\ (0 < k' -> ix xs ((k' : Int) - 1) < ix xs (k' : Int)) := by
        intro h k' hk'
        rcases Nat.lt_succ_iff_lt_or_eq.1 hk' with h' | h'
        · exact ht k' h'
        · subst h'; exact h
      refine ⟨by omega, fork_intro (fun h1 => fork_intro (fun h2 => ⟨by omega, by omega, by omega, fork_intro (fun h3 => ?_) (fun h3 => ⟨by omega, ?_⟩)⟩) (fun h2 => ⟨by omega, ?_⟩)) (fun h1 => ?_)⟩
      · rw [hz (by omega)]
      · refine LoopEnd.intro (k + 1) ⟨by omega, hs ⟨by omega, fun _ => by omega⟩⟩ (by omega) (Nat.zero_le _) ?_
        simp only [go_sem]
        repeat' (first | refine fork_intro (fun hb => ?_) (fun hb => ?_) | refine partB_intro (fun hb => ?_) (fun hb => ?_) | refine And.intro ?_ ?_)
        all_goals first | trivial | rfl | omega
      · refine LoopEnd.intro (k + 1) ⟨by omega, hs ⟨by omega, fun h => by omega⟩⟩ (by omega) (Nat.zero_le _) ?_
        simp only [go_sem]
        repeat' (first | refine fork_intro (fun hb => ?_) (fun hb => ?_) | refine partB_intro (fun hb => ?_) (fun hb => ?_) | refine And.intro ?_ ?_)
        all_goals first | trivial | rfl | omega
      · rw [hz (by omega)]
    · rw [show ris lo hi xs = true from decide_eq_true (fun k' hk' => ht k' (by omega))]
def t_risS : Table := [(175, pureC g_risS)]
theorem t_risS_ok : TabOK Tryz.prog t_risS := .cons Tryz.func175 (by kernel_rfl) (.pure (by intro args hp; unfold g_risS at hp ⊢; split at hp <;> first | exact hp.elim | exact risS_ok _ _ _ hp)) (.nil _)
attribute [go_sem] g_risS_eq t_risS
def g_risI : List AV -> Prop × AV
  | [.ints xs, .int .i64 n] => (xs.length <= 1048576000 /\ 0 <= n /\ n <= 1048576000, .bool (ris 0 (n - 1) xs))
  | _ => (False, .undef)
theorem g_risI_eq (xs : List Int) (n : Int) : g_risI [.ints xs, .int .i64 n] = (xs.length <= 1048576000 /\ 0 <= n /\ n <= 1048576000, .bool (ris 0 (n - 1) xs)) := (rfl)
theorem risI_ok (xs : List Int) (n : Int) (hp : xs.length <= 1048576000 /\ 0 <= n /\ n <= 1048576000) : SpecOK Tryz.prog 68 [.ints xs, .int .i64 n] (.bool (ris 0 (n - 1) xs)) [] := by
  refine fun_ok (C := t_between) (hint := hintX [] [] 0 [] [] [] []) (t_between_ok) mixed Tryz.func68 rfl (by kernel_rfl) rfl ?_
  show codeA _ _ _ _ _ _ _ _
  simp only [go_sem, Tryz.results68]
  refine loop_intro (fun k : Nat => [(7, .ints xs), (8, .int .i64 xs.length), (9, .int .i64 k), (0, .ints xs), (1, .int .i64 n)]) (fun _ => []) 0 (fun k => k <= xs.length /\ ∀ k', k' < k -> (0 <= ix xs (k' : Int) /\ ix xs (k' : Int) <= n - 1) /\ (0 < k' -> ix xs ((k' : Int) - 1) < ix xs (k' : Int))) (fun k => xs.length - k) 0 ⟨Nat.zero_le _, fun i' h => absurd h (Nat.not_lt_zero _)⟩ (Nat.zero_le _) ?_ ?_
  · simp only [go_sem]
    repeat' (first | refine fork_intro (fun hb => ?_) (fun hb => ?_) | refine partB_intro (fun hb => ?_) (fun hb => ?_) | refine And.intro ?_ ?_)
    all_goals first | trivial | rfl | omega
  · rintro k ⟨hk, ht⟩
    simp only [go_sem]
    refine fork_intro (fun hb => ?_) (fun hb => ?_)
    · have hz : ∀ h : ¬((0 <= ix xs (k : Int) /\ ix xs (k : Int) <= n - 1) /\ (0 < k -> ix xs ((k : Int) - 1) < ix xs (k : Int))), ris 0 (n - 1) xs = false := fun h => decide_eq_false (fun hz => h (hz k (by omega)))
      have hs : ∀ h : ((0 <= ix xs (k : Int) /\ ix xs (k : Int) <= n - 1) /\ (0 < k -> ix xs ((k : Int) - 1) < ix xs (k : Int))), ∀ k', k' < k + 1 -> (0 <= ix xs (k' : Int) /\ ix xs (k' : Int) <= n - 1) /\ (0 < k' -> ix xs ((k' : Int) - 1) < ix xs (k' : Int)) := by
        intro h k' hk'
        rcases Nat.lt_succ_iff_lt_or_eq.1 hk' with h' | h'
        · exact ht k' h'
        · subst h'; exact h
      refine ⟨by omega, by omega, fork_intro (fun h1 => fork_intro (fun h2 => ⟨by omega, by omega, fork_intro (fun h3 => ?_) (fun h3 => ⟨by omega, ?_⟩)⟩) (fun h2 => ⟨by omega, ?_⟩)) (fun h1 => ?_)⟩
      · rw [hz (by omega)]
      · refine LoopEnd.intro (k + 1) ⟨by omega, hs ⟨by omega, fun _ => by omega⟩⟩ (by omega) (Nat.zero_le _) ?_
        simp only [go_sem]
        repeat' (first | refine fork_intro (fun hb => ?_) (fun hb => ?_) | refine partB_intro (fun hb => ?_) (fun hb => ?_) | refine And.intro ?_ ?_)
        all_goals first | trivial | rfl | omega
      · refine LoopEnd.intro (k + 1) ⟨by omega, hs ⟨by omega, fun h => by omega⟩⟩ (by omega) (Nat.zero_le _) ?_
        simp only [go_sem]
        repeat' (first | refine fork_intro (fun hb => ?_) (fun hb => ?_) | refine partB_intro (fun hb => ?_) (fun hb => ?_) | refine And.intro ?_ ?_)
        all_goals first | trivial | rfl | omega
      · rw [hz (by omega)]
    · rw [show ris 0 (n - 1) xs = true from decide_eq_true (fun k' hk' => ht k' (by omega))]
def t_risI : Table := [(68, pureC g_risI)]
theorem t_risI_ok : TabOK Tryz.prog t_risI := .cons Tryz.func68 (by kernel_rfl) (.pure (by intro args hp; unfold g_risI at hp ⊢; split at hp <;> first | exact hp.elim | exact risI_ok _ _ hp)) (.nil _)
attribute [go_sem] g_risI_eq t_risI

def g_payS : List AV -> Prop × AV
  | [.agg [.ints o, .rows d], .ints xs] => (PayOK o xs, .int .i64 (pay o xs))
  | _ => (False, .undef)
theorem g_payS_eq (o : List Int) (d : List (List Int)) (xs : List Int) : g_payS [.agg [.ints o, .rows d], .ints xs] = (PayOK o xs, .int .i64 (pay o xs)) := (rfl)
theorem payS_ok (o : List Int) (d : List (List Int)) (xs : List Int) (hp : PayOK o xs) : SpecOK Tryz.prog 140 [.agg [.ints o, .rows d], .ints xs] (.int .i64 (pay o xs)) [] := by
  refine fun_ok (C := []) (hint := hintX [] [] 0 [] [] [] []) (TabOK.nil _) mixed Tryz.func140 rfl (by kernel_rfl) rfl ?_
  show codeA _ _ _ _ _ _ _ _
  simp only [go_sem, Tryz.results140]
  have hl := hp.len
  refine loop_intro (fun k : Nat => [(5, .int .i64 (pay o (xs.take k))), (6, .int .i64 k), (1, .ints xs), (2, .iptr [.ints o, .rows d])]) (fun _ => []) 0 (fun k => k <= xs.length) (fun k => xs.length - k) 0 (Nat.zero_le _) (Nat.zero_le _) ?_ ?_
  · simp only [go_sem]
    repeat' (first | refine fork_intro (fun hb => ?_) (fun hb => ?_) | refine partB_intro (fun hb => ?_) (fun hb => ?_) | refine And.intro ?_ ?_)
    all_goals first | trivial | rfl | omega
  · rintro k hk
    simp only [go_sem]
    refine fork_intro (fun hb => ?_) (fun hb => ?_)
    · have hx := hp.xin k (by omega)
      have hv := hp.o99 _ hx.1 hx.2
      have h1 := hp.bd hk
      refine ⟨by omega, by omega, by omega, by omega, ?_⟩
      refine LoopEnd.intro (k + 1) (by omega) (by omega) (Nat.zero_le _) ?_
      simp only [go_sem]
      rw [pay_take o xs (by omega)]
      repeat' (first | refine fork_intro (fun hb => ?_) (fun hb => ?_) | refine partB_intro (fun hb => ?_) (fun hb => ?_) | refine And.intro ?_ ?_)
      all_goals first | trivial | rfl | omega
    · rw [List.take_of_length_le (by omega)]
def t_payS : Table := [(140, pureC g_payS)]
theorem t_payS_ok : TabOK Tryz.prog t_payS := .cons Tryz.func140 (by kernel_rfl) (.pure (by intro args hp; unfold g_payS at hp ⊢; split at hp <;> first | exact hp.elim | exact payS_ok _ _ _ hp)) (.nil _)
attribute [go_sem] g_payS_eq t_payS
def g_payI : List AV -> Prop × AV
  | [.agg [.ints o, .rows d], .ints xs] => (PayOK o xs, .int .i64 (pay o xs))
  | _ => (False, .undef)
theorem g_payI_eq (o : List Int) (d : List (List Int)) (xs : List Int) : g_payI [.agg [.ints o, .rows d], .ints xs] = (PayOK o xs, .int .i64 (pay o xs)) := (rfl)
theorem payI_ok (o : List Int) (d : List (List Int)) (xs : List Int) (hp : PayOK o xs) : SpecOK Tryz.prog 69 [.agg [.ints o, .rows d], .ints xs] (.int .i64 (pay o xs)) [] := by
  refine fun_ok (C := []) (hint := hintX [] [] 0 [] [] [] []) (TabOK.nil _) mixed Tryz.func69 rfl (by kernel_rfl) rfl ?_
  show codeA _ _ _ _ _ _ _ _
  simp only [go_sem, Tryz.results69]
  have hl := hp.len
  refine loop_intro (fun k : Nat => [(5, .int .i64 (pay o (xs.take k))), (8, .ints xs), (9, .int .i64 xs.length), (10, .int .i64 k), (1, .ints xs), (2, .iptr [.ints o, .rows d])]) (fun _ => []) 0 (fun k => k <= xs.length) (fun k => xs.length - k) 0 (Nat.zero_le _) (Nat.zero_le _) ?_ ?_
  · simp only [go_sem]
    repeat' (first | refine fork_intro (fun hb => ?_) (fun hb => ?_) | refine partB_intro (fun hb => ?_) (fun hb => ?_) | refine And.intro ?_ ?_)
    all_goals first | trivial | rfl | omega
  · rintro k hk
    simp only [go_sem]
    refine fork_intro (fun hb => ?_) (fun hb => ?_)
    · have hx := hp.xin k (by omega)
      have hv := hp.o99 _ hx.1 hx.2
      have h1 := hp.bd hk
      refine ⟨by omega, by omega, by omega, by omega, ?_⟩
      refine LoopEnd.intro (k + 1) (by omega) (by omega) (Nat.zero_le _) ?_
      simp only [go_sem]
      rw [pay_take o xs (by omega)]
      repeat' (first | refine fork_intro (fun hb => ?_) (fun hb => ?_) | refine partB_intro (fun hb => ?_) (fun hb => ?_) | refine And.intro ?_ ?_)
      all_goals first | trivial | rfl | omega
    · rw [List.take_of_length_le (by omega)]
def t_payI : Table := [(69, pureC g_payI)]
theorem t_payI_ok : TabOK Tryz.prog t_payI := .cons Tryz.func69 (by kernel_rfl) (.pure (by intro args hp; unfold g_payI at hp ⊢; split at hp <;> first | exact hp.elim | exact payI_ok _ _ _ hp)) (.nil _)
attribute [go_sem] g_payI_eq t_payI
def g_setS : List AV -> Prop × AV
  | [.agg [.ints o, .rows d], .ints xs] => (o.length <= 1048576000 /\ xs.length <= 1048576000, .bool (ris 0 (o.length - 1) xs))
  | _ => (False, .undef)
theorem g_setS_eq (o : List Int) (d : List (List Int)) (xs : List Int) : g_setS [.agg [.ints o, .rows d], .ints xs] = (o.length <= 1048576000 /\ xs.length <= 1048576000, .bool (ris 0 (o.length - 1) xs)) := (rfl)
theorem setS_ok (o : List Int) (d : List (List Int)) (xs : List Int) (hp : o.length <= 1048576000 /\ xs.length <= 1048576000) : SpecOK Tryz.prog 143 [.agg [.ints o, .rows d], .ints xs] (.bool (ris 0 (o.length - 1) xs)) [] := by
  refine fun_ok (C := t_risS) (hint := hintX [] [] 0 [] [] [] []) (t_risS_ok) mixed Tryz.func143 rfl (by kernel_rfl) rfl ?_
  show codeA _ _ _ _ _ _ _ _
  simp only [go_sem, Tryz.results143]
  exact ⟨by omega, hp.2⟩
def t_setS : Table := [(143, pureC g_setS)]
theorem t_setS_ok : TabOK Tryz.prog t_setS := .cons Tryz.func143 (by kernel_rfl) (.pure (by intro args hp; unfold g_setS at hp ⊢; split at hp <;> first | exact hp.elim | exact setS_ok _ _ _ hp)) (.nil _)
attribute [go_sem] g_setS_eq t_setS
end Go.Proofs.YteefjdbdknkcjaaGreat
