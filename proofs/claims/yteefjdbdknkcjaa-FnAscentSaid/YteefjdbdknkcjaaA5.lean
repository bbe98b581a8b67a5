/- Rising lists and payments: both packages say the same. -/
import Derived.Test.YteefjdbdknkcjaaA3
import Derived.Test.YteefjdbdknkcjaaPlS
namespace Go.Proofs.Yteefjdbdknkcjaa
open Go.Vc
set_option maxRecDepth 100000
set_option linter.unusedSimpArgs false
set_option linter.unusedVariables false

def g_risS : List AV → Prop × AV
  | [.ints xs, .int .i64 lo, .int .i64 hi] => (xs.length ≤ 1048576000, .bool (ris lo hi xs))
  | _ => (False, .undef)
theorem g_risS_eq (xs : List Int) (lo hi : Int) : g_risS [.ints xs, .int .i64 lo, .int .i64 hi] = (xs.length ≤ 1048576000, .bool (ris lo hi xs)) := (rfl)
theorem risS_ok (xs : List Int) (lo hi : Int) (hp : xs.length ≤ 1048576000) : SpecOK Try.prog 91 [.ints xs, .int .i64 lo, .int .i64 hi] (.bool (ris lo hi xs)) [] := by
  refine fun_ok (C := t_l1In) (hint := hintX [] [] 0 [] [] [] []) (t_l1In_ok) mixed Try.func91 rfl (by kernel_rfl) rfl ?_
  show codeA _ _ _ _ _ _ _ _
  simp only [go_sem, ↓reduceIte, Nat.reduceEqDiff, Nat.reduceBEq, Nat.reduceAdd, Nat.reduceSub, Nat.reduceLeDiff, Nat.reduceMul, Nat.reduceLT, Try.results91]
  refine loop_intro (fun k : Nat => [(7, .int .i64 k), (0, .ints xs), (1, .int .i64 lo), (2, .int .i64 hi)]) (fun _ => []) 0 (fun k => k ≤ xs.length ∧ ∀ k', k' < k → (lo ≤ ix xs (k' : Int) ∧ ix xs (k' : Int) ≤ hi) ∧ (0 < k' → ix xs ((k' : Int) - 1) < ix xs (k' : Int))) (fun k => xs.length - k) 0 ⟨Nat.zero_le _, fun i' h => absurd h (Nat.not_lt_zero _)⟩ (Nat.zero_le _) ?_ ?_
  · simp only [go_sem, ↓reduceIte, Nat.reduceEqDiff, Nat.reduceBEq, Nat.reduceAdd, Nat.reduceSub, Nat.reduceLeDiff, Nat.reduceMul, Nat.reduceLT]
    repeat' (first | refine fork_intro (fun hb => ?_) (fun hb => ?_) | refine partB_intro (fun hb => ?_) (fun hb => ?_) | refine And.intro ?_ ?_)
    all_goals first | trivial | rfl | omega
  · rintro k ⟨hk, ht⟩
    simp only [go_sem, ↓reduceIte, Nat.reduceEqDiff, Nat.reduceBEq, Nat.reduceAdd, Nat.reduceSub, Nat.reduceLeDiff, Nat.reduceMul, Nat.reduceLT]
    refine fork_intro (fun hb => ?_) (fun hb => ?_)
    · have hz : ∀ h : ¬((lo ≤ ix xs (k : Int) ∧ ix xs (k : Int) ≤ hi) ∧ (0 < k → ix xs ((k : Int) - 1) < ix xs (k : Int))), ris lo hi xs = false := fun h => decide_eq_false (fun hz => h (hz k (by omega)))
      have hs : ∀ h : ((lo ≤ ix xs (k : Int) ∧ ix xs (k : Int) ≤ hi) ∧ (0 < k → ix xs ((k : Int) - 1) < ix xs (k : Int))), ∀ k', k' < k + 1 → (lo ≤ ix xs (k' : Int) ∧ ix xs (k' : Int) ≤ hi) ∧ (0 < k' → ix xs ((k' : Int) - 1) < ix xs (k' : Int)) := by
        intro h k' hk'
        rcases Nat.lt_succ_iff_lt_or_eq.1 hk' with h' | h'
        · exact ht k' h'
        · subst h'; exact h
      refine ⟨by omega, fork_intro (fun h1 => fork_intro (fun h2 => ⟨by omega, by omega, by omega, fork_intro (fun h3 => ?_) (fun h3 => ⟨by omega, ?_⟩)⟩) (fun h2 => ⟨by omega, ?_⟩)) (fun h1 => ?_)⟩
      · rw [hz (by omega)]
      · refine LoopEnd.intro (k + 1) ⟨by omega, hs ⟨by omega, fun _ => by omega⟩⟩ (by omega) (Nat.zero_le _) ?_
        simp only [go_sem, ↓reduceIte, Nat.reduceEqDiff, Nat.reduceBEq, Nat.reduceAdd, Nat.reduceSub, Nat.reduceLeDiff, Nat.reduceMul, Nat.reduceLT]
        repeat' (first | refine fork_intro (fun hb => ?_) (fun hb => ?_) | refine partB_intro (fun hb => ?_) (fun hb => ?_) | refine And.intro ?_ ?_)
        all_goals first | trivial | rfl | omega
      · refine LoopEnd.intro (k + 1) ⟨by omega, hs ⟨by omega, fun h => by omega⟩⟩ (by omega) (Nat.zero_le _) ?_
        simp only [go_sem, ↓reduceIte, Nat.reduceEqDiff, Nat.reduceBEq, Nat.reduceAdd, Nat.reduceSub, Nat.reduceLeDiff, Nat.reduceMul, Nat.reduceLT]
        repeat' (first | refine fork_intro (fun hb => ?_) (fun hb => ?_) | refine partB_intro (fun hb => ?_) (fun hb => ?_) | refine And.intro ?_ ?_)
        all_goals first | trivial | rfl | omega
      · rw [hz (by omega)]
    · rw [show ris lo hi xs = true from decide_eq_true (fun k' hk' => ht k' (by omega))]
def t_risS : Table := [(91, pureC g_risS)]
theorem t_risS_ok : TabOK Try.prog t_risS := .cons Try.func91 (by kernel_rfl) (.pure (by intro args hp; unfold g_risS at hp ⊢; split at hp <;> first | exact hp.elim | exact risS_ok _ _ _ hp)) (.nil _)
attribute [go_sem] g_risS_eq t_risS
def g_risI : List AV → Prop × AV
  | [.ints xs, .int .i64 n] => (xs.length ≤ 1048576000 ∧ 0 ≤ n ∧ n ≤ 1048576000, .bool (ris 0 (n - 1) xs))
  | _ => (False, .undef)
theorem g_risI_eq (xs : List Int) (n : Int) : g_risI [.ints xs, .int .i64 n] = (xs.length ≤ 1048576000 ∧ 0 ≤ n ∧ n ≤ 1048576000, .bool (ris 0 (n - 1) xs)) := (rfl)
theorem risI_ok (xs : List Int) (n : Int) (hp : xs.length ≤ 1048576000 ∧ 0 ≤ n ∧ n ≤ 1048576000) : SpecOK Try.prog 50 [.ints xs, .int .i64 n] (.bool (ris 0 (n - 1) xs)) [] := by
  refine fun_ok (C := t_between) (hint := hintX [] [] 0 [] [] [] []) (t_between_ok) mixed Try.func50 rfl (by kernel_rfl) rfl ?_
  show codeA _ _ _ _ _ _ _ _
  simp only [go_sem, ↓reduceIte, Nat.reduceEqDiff, Nat.reduceBEq, Nat.reduceAdd, Nat.reduceSub, Nat.reduceLeDiff, Nat.reduceMul, Nat.reduceLT, Try.results50]
  refine loop_intro (fun k : Nat => [(7, .ints xs), (8, .int .i64 xs.length), (9, .int .i64 k), (0, .ints xs), (1, .int .i64 n)]) (fun _ => []) 0 (fun k => k ≤ xs.length ∧ ∀ k', k' < k → (0 ≤ ix xs (k' : Int) ∧ ix xs (k' : Int) ≤ n - 1) ∧ (0 < k' → ix xs ((k' : Int) - 1) < ix xs (k' : Int))) (fun k => xs.length - k) 0 ⟨Nat.zero_le _, fun i' h => absurd h (Nat.not_lt_zero _)⟩ (Nat.zero_le _) ?_ ?_
  · simp only [go_sem, ↓reduceIte, Nat.reduceEqDiff, Nat.reduceBEq, Nat.reduceAdd, Nat.reduceSub, Nat.reduceLeDiff, Nat.reduceMul, Nat.reduceLT]
    repeat' (first | refine fork_intro (fun hb => ?_) (fun hb => ?_) | refine partB_intro (fun hb => ?_) (fun hb => ?_) | refine And.intro ?_ ?_)
    all_goals first | trivial | rfl | omega
  · rintro k ⟨hk, ht⟩
    simp only [go_sem, ↓reduceIte, Nat.reduceEqDiff, Nat.reduceBEq, Nat.reduceAdd, Nat.reduceSub, Nat.reduceLeDiff, Nat.reduceMul, Nat.reduceLT]
    refine fork_intro (fun hb => ?_) (fun hb => ?_)
    · have hz : ∀ h : ¬((0 ≤ ix xs (k : Int) ∧ ix xs (k : Int) ≤ n - 1) ∧ (0 < k → ix xs ((k : Int) - 1) < ix xs (k : Int))), ris 0 (n - 1) xs = false := fun h => decide_eq_false (fun hz => h (hz k (by omega)))
      have hs : ∀ h : ((0 ≤ ix xs (k : Int) ∧ ix xs (k : Int) ≤ n - 1) ∧ (0 < k → ix xs ((k : Int) - 1) < ix xs (k : Int))), ∀ k', k' < k + 1 → (0 ≤ ix xs (k' : Int) ∧ ix xs (k' : Int) ≤ n - 1) ∧ (0 < k' → ix xs ((k' : Int) - 1) < ix xs (k' : Int)) := by
        intro h k' hk'
        rcases Nat.lt_succ_iff_lt_or_eq.1 hk' with h' | h'
        · exact ht k' h'
        · subst h'; exact h
      refine ⟨by omega, by omega, fork_intro (fun h1 => fork_intro (fun h2 => ⟨by omega, by omega, fork_intro (fun h3 => ?_) (fun h3 => ⟨by omega, ?_⟩)⟩) (fun h2 => ⟨by omega, ?_⟩)) (fun h1 => ?_)⟩
      · rw [hz (by omega)]
      · refine LoopEnd.intro (k + 1) ⟨by omega, hs ⟨by omega, fun _ => by omega⟩⟩ (by omega) (Nat.zero_le _) ?_
        simp only [go_sem, ↓reduceIte, Nat.reduceEqDiff, Nat.reduceBEq, Nat.reduceAdd, Nat.reduceSub, Nat.reduceLeDiff, Nat.reduceMul, Nat.reduceLT]
        repeat' (first | refine fork_intro (fun hb => ?_) (fun hb => ?_) | refine partB_intro (fun hb => ?_) (fun hb => ?_) | refine And.intro ?_ ?_)
        all_goals first | trivial | rfl | omega
      · refine LoopEnd.intro (k + 1) ⟨by omega, hs ⟨by omega, fun h => by omega⟩⟩ (by omega) (Nat.zero_le _) ?_
        simp only [go_sem, ↓reduceIte, Nat.reduceEqDiff, Nat.reduceBEq, Nat.reduceAdd, Nat.reduceSub, Nat.reduceLeDiff, Nat.reduceMul, Nat.reduceLT]
        repeat' (first | refine fork_intro (fun hb => ?_) (fun hb => ?_) | refine partB_intro (fun hb => ?_) (fun hb => ?_) | refine And.intro ?_ ?_)
        all_goals first | trivial | rfl | omega
      · rw [hz (by omega)]
    · rw [show ris 0 (n - 1) xs = true from decide_eq_true (fun k' hk' => ht k' (by omega))]
def t_risI : Table := [(50, pureC g_risI)]
theorem t_risI_ok : TabOK Try.prog t_risI := .cons Try.func50 (by kernel_rfl) (.pure (by intro args hp; unfold g_risI at hp ⊢; split at hp <;> first | exact hp.elim | exact risI_ok _ _ hp)) (.nil _)
attribute [go_sem] g_risI_eq t_risI

def g_payS : List AV → Prop × AV
  | [.agg [.ints o, .rows d], .ints xs] => (PayOK o xs, .int .i64 (pay o xs))
  | _ => (False, .undef)
theorem g_payS_eq (o : List Int) (d : List (List Int)) (xs : List Int) : g_payS [.agg [.ints o, .rows d], .ints xs] = (PayOK o xs, .int .i64 (pay o xs)) := (rfl)
theorem payS_ok (o : List Int) (d : List (List Int)) (xs : List Int) (hp : PayOK o xs) : SpecOK Try.prog 54 [.agg [.ints o, .rows d], .ints xs] (.int .i64 (pay o xs)) [] := by
  refine fun_ok (C := []) (hint := hintX [] [] 0 [] [] [] []) (TabOK.nil _) mixed Try.func54 rfl (by kernel_rfl) rfl ?_
  show codeA _ _ _ _ _ _ _ _
  simp only [go_sem, ↓reduceIte, Nat.reduceEqDiff, Nat.reduceBEq, Nat.reduceAdd, Nat.reduceSub, Nat.reduceLeDiff, Nat.reduceMul, Nat.reduceLT, Try.results54]
  have hl := hp.len
  refine loop_intro (fun k : Nat => [(5, .int .i64 (pay o (xs.take k))), (6, .int .i64 k), (1, .ints xs), (2, .iptr [.ints o, .rows d])]) (fun _ => []) 0 (fun k => k ≤ xs.length) (fun k => xs.length - k) 0 (Nat.zero_le _) (Nat.zero_le _) ?_ ?_
  · simp only [go_sem, ↓reduceIte, Nat.reduceEqDiff, Nat.reduceBEq, Nat.reduceAdd, Nat.reduceSub, Nat.reduceLeDiff, Nat.reduceMul, Nat.reduceLT]
    repeat' (first | refine fork_intro (fun hb => ?_) (fun hb => ?_) | refine partB_intro (fun hb => ?_) (fun hb => ?_) | refine And.intro ?_ ?_)
    all_goals first | trivial | rfl | omega
  · rintro k hk
    simp only [go_sem, ↓reduceIte, Nat.reduceEqDiff, Nat.reduceBEq, Nat.reduceAdd, Nat.reduceSub, Nat.reduceLeDiff, Nat.reduceMul, Nat.reduceLT]
    refine fork_intro (fun hb => ?_) (fun hb => ?_)
    · have hx := hp.xin k (by omega)
      have hv := hp.o99 _ hx.1 hx.2
      have h1 := hp.bd hk
      refine ⟨by omega, by omega, by omega, by omega, ?_⟩
      refine LoopEnd.intro (k + 1) (by omega) (by omega) (Nat.zero_le _) ?_
      simp only [go_sem, ↓reduceIte, Nat.reduceEqDiff, Nat.reduceBEq, Nat.reduceAdd, Nat.reduceSub, Nat.reduceLeDiff, Nat.reduceMul, Nat.reduceLT]
      rw [pay_take o xs (by omega)]
      repeat' (first | refine fork_intro (fun hb => ?_) (fun hb => ?_) | refine partB_intro (fun hb => ?_) (fun hb => ?_) | refine And.intro ?_ ?_)
      all_goals first | trivial | rfl | omega
    · rw [List.take_of_length_le (by omega)]
def t_payS : Table := [(54, pureC g_payS)]
theorem t_payS_ok : TabOK Try.prog t_payS := .cons Try.func54 (by kernel_rfl) (.pure (by intro args hp; unfold g_payS at hp ⊢; split at hp <;> first | exact hp.elim | exact payS_ok _ _ _ hp)) (.nil _)
attribute [go_sem] g_payS_eq t_payS
def g_payI : List AV → Prop × AV
  | [.agg [.ints o, .rows d], .ints xs] => (PayOK o xs, .int .i64 (pay o xs))
  | _ => (False, .undef)
theorem g_payI_eq (o : List Int) (d : List (List Int)) (xs : List Int) : g_payI [.agg [.ints o, .rows d], .ints xs] = (PayOK o xs, .int .i64 (pay o xs)) := (rfl)
theorem payI_ok (o : List Int) (d : List (List Int)) (xs : List Int) (hp : PayOK o xs) : SpecOK Try.prog 51 [.agg [.ints o, .rows d], .ints xs] (.int .i64 (pay o xs)) [] := by
  refine fun_ok (C := []) (hint := hintX [] [] 0 [] [] [] []) (TabOK.nil _) mixed Try.func51 rfl (by kernel_rfl) rfl ?_
  show codeA _ _ _ _ _ _ _ _
  simp only [go_sem, ↓reduceIte, Nat.reduceEqDiff, Nat.reduceBEq, Nat.reduceAdd, Nat.reduceSub, Nat.reduceLeDiff, Nat.reduceMul, Nat.reduceLT, Try.results51]
  have hl := hp.len
  refine loop_intro (fun k : Nat => [(5, .int .i64 (pay o (xs.take k))), (8, .ints xs), (9, .int .i64 xs.length), (10, .int .i64 k), (1, .ints xs), (2, .iptr [.ints o, .rows d])]) (fun _ => []) 0 (fun k => k ≤ xs.length) (fun k => xs.length - k) 0 (Nat.zero_le _) (Nat.zero_le _) ?_ ?_
  · simp only [go_sem, ↓reduceIte, Nat.reduceEqDiff, Nat.reduceBEq, Nat.reduceAdd, Nat.reduceSub, Nat.reduceLeDiff, Nat.reduceMul, Nat.reduceLT]
    repeat' (first | refine fork_intro (fun hb => ?_) (fun hb => ?_) | refine partB_intro (fun hb => ?_) (fun hb => ?_) | refine And.intro ?_ ?_)
    all_goals first | trivial | rfl | omega
  · rintro k hk
    simp only [go_sem, ↓reduceIte, Nat.reduceEqDiff, Nat.reduceBEq, Nat.reduceAdd, Nat.reduceSub, Nat.reduceLeDiff, Nat.reduceMul, Nat.reduceLT]
    refine fork_intro (fun hb => ?_) (fun hb => ?_)
    · have hx := hp.xin k (by omega)
      have hv := hp.o99 _ hx.1 hx.2
      have h1 := hp.bd hk
      refine ⟨by omega, by omega, by omega, by omega, ?_⟩
      refine LoopEnd.intro (k + 1) (by omega) (by omega) (Nat.zero_le _) ?_
      simp only [go_sem, ↓reduceIte, Nat.reduceEqDiff, Nat.reduceBEq, Nat.reduceAdd, Nat.reduceSub, Nat.reduceLeDiff, Nat.reduceMul, Nat.reduceLT]
      rw [pay_take o xs (by omega)]
      repeat' (first | refine fork_intro (fun hb => ?_) (fun hb => ?_) | refine partB_intro (fun hb => ?_) (fun hb => ?_) | refine And.intro ?_ ?_)
      all_goals first | trivial | rfl | omega
    · rw [List.take_of_length_le (by omega)]
def t_payI : Table := [(51, pureC g_payI)]
theorem t_payI_ok : TabOK Try.prog t_payI := .cons Try.func51 (by kernel_rfl) (.pure (by intro args hp; unfold g_payI at hp ⊢; split at hp <;> first | exact hp.elim | exact payI_ok _ _ _ hp)) (.nil _)
attribute [go_sem] g_payI_eq t_payI
def g_setS : List AV → Prop × AV
  | [.agg [.ints o, .rows d], .ints xs] => (o.length ≤ 1048576000 ∧ xs.length ≤ 1048576000, .bool (ris 0 (o.length - 1) xs))
  | _ => (False, .undef)
theorem g_setS_eq (o : List Int) (d : List (List Int)) (xs : List Int) : g_setS [.agg [.ints o, .rows d], .ints xs] = (o.length ≤ 1048576000 ∧ xs.length ≤ 1048576000, .bool (ris 0 (o.length - 1) xs)) := (rfl)
theorem setS_ok (o : List Int) (d : List (List Int)) (xs : List Int) (hp : o.length ≤ 1048576000 ∧ xs.length ≤ 1048576000) : SpecOK Try.prog 53 [.agg [.ints o, .rows d], .ints xs] (.bool (ris 0 (o.length - 1) xs)) [] := by
  refine fun_ok (C := t_risS) (hint := hintX [] [] 0 [] [] [] []) (t_risS_ok) mixed Try.func53 rfl (by kernel_rfl) rfl ?_
  show codeA _ _ _ _ _ _ _ _
  simp only [go_sem, ↓reduceIte, Nat.reduceEqDiff, Nat.reduceBEq, Nat.reduceAdd, Nat.reduceSub, Nat.reduceLeDiff, Nat.reduceMul, Nat.reduceLT, Try.results53]
  exact ⟨by omega, hp.2⟩
def t_setS : Table := [(53, pureC g_setS)]
theorem t_setS_ok : TabOK Try.prog t_setS := .cons Try.func53 (by kernel_rfl) (.pure (by intro args hp; unfold g_setS at hp ⊢; split at hp <;> first | exact hp.elim | exact setS_ok _ _ _ hp)) (.nil _)
attribute [go_sem] g_setS_eq t_setS
def g_paySpec : List AV → Prop × AV
  | [.agg [.ints o, .rows d], .ints xs] => ((o.length ≤ 1048576000 ∧ d.length ≤ 1048576000 ∧ ∀ x ∈ d, x.length ≤ 1048576000) ∧ xs.length ≤ 1048576000, .tup [.int .i64 (if (good o d && ris 0 (o.length - 1) xs) = true then pay o xs else 0), .bool (good o d && ris 0 (o.length - 1) xs)])
  | _ => (False, .undef)
theorem g_paySpec_eq (o : List Int) (d : List (List Int)) (xs : List Int) : g_paySpec [.agg [.ints o, .rows d], .ints xs] = ((o.length ≤ 1048576000 ∧ d.length ≤ 1048576000 ∧ ∀ x ∈ d, x.length ≤ 1048576000) ∧ xs.length ≤ 1048576000, .tup [.int .i64 (if (good o d && ris 0 (o.length - 1) xs) = true then pay o xs else 0), .bool (good o d && ris 0 (o.length - 1) xs)]) := (rfl)
theorem paySpec_ok (o : List Int) (d : List (List Int)) (xs : List Int) (hp : (o.length ≤ 1048576000 ∧ d.length ≤ 1048576000 ∧ ∀ x ∈ d, x.length ≤ 1048576000) ∧ xs.length ≤ 1048576000) : SpecOK Try.prog 13 [.agg [.ints o, .rows d], .ints xs] (.tup [.int .i64 (if (good o d && ris 0 (o.length - 1) xs) = true then pay o xs else 0), .bool (good o d && ris 0 (o.length - 1) xs)]) [] := by
  refine fun_ok (C := t_l2Good ++ t_setS ++ t_payS) (hint := hintX [] [] 0 [] [] [] []) (((t_l2Good_ok).append t_setS_ok).append t_payS_ok) mixed Try.func13 rfl (by kernel_rfl) rfl ?_
  show codeA _ _ _ _ _ _ _ _
  simp only [go_sem, ↓reduceIte, Nat.reduceEqDiff, Nat.reduceBEq, Nat.reduceAdd, Nat.reduceSub, Nat.reduceLeDiff, Nat.reduceMul, Nat.reduceLT, Try.results13]
  refine ⟨hp.1, partB_intro (fun hg => ?_) (fun hg => ?_)⟩
  · refine ⟨⟨by omega, hp.2⟩, partB_intro (fun hr => ?_) (fun hr => ?_)⟩
    · refine ⟨payOK_of hg hr hp.2, ?_, ?_⟩ <;> simp [hg, hr]
    · refine ⟨?_, ?_⟩ <;> simp [hr]
  · refine ⟨?_, ?_⟩ <;> simp [hg]
def t_paySpec : Table := [(13, pureC g_paySpec)]
theorem t_paySpec_ok : TabOK Try.prog t_paySpec := .cons Try.func13 (by kernel_rfl) (.pure (by intro args hp; unfold g_paySpec at hp ⊢; split at hp <;> first | exact hp.elim | exact paySpec_ok _ _ _ hp)) (.nil _)
attribute [go_sem] g_paySpec_eq t_paySpec
def g_payImp : List AV → Prop × AV
  | [.agg [.ints o, .rows d], .ints xs] => ((o.length ≤ 1048576000 ∧ d.length ≤ 1048576000 ∧ ∀ x ∈ d, x.length ≤ 1048576000) ∧ xs.length ≤ 1048576000, .tup [.int .i64 (if (good o d && ris 0 (o.length - 1) xs) = true then pay o xs else 0), .bool (good o d && ris 0 (o.length - 1) xs)])
  | _ => (False, .undef)
theorem g_payImp_eq (o : List Int) (d : List (List Int)) (xs : List Int) : g_payImp [.agg [.ints o, .rows d], .ints xs] = ((o.length ≤ 1048576000 ∧ d.length ≤ 1048576000 ∧ ∀ x ∈ d, x.length ≤ 1048576000) ∧ xs.length ≤ 1048576000, .tup [.int .i64 (if (good o d && ris 0 (o.length - 1) xs) = true then pay o xs else 0), .bool (good o d && ris 0 (o.length - 1) xs)]) := (rfl)
theorem payImp_ok (o : List Int) (d : List (List Int)) (xs : List Int) (hp : (o.length ≤ 1048576000 ∧ d.length ≤ 1048576000 ∧ ∀ x ∈ d, x.length ≤ 1048576000) ∧ xs.length ≤ 1048576000) : SpecOK Try.prog 12 [.agg [.ints o, .rows d], .ints xs] (.tup [.int .i64 (if (good o d && ris 0 (o.length - 1) xs) = true then pay o xs else 0), .bool (good o d && ris 0 (o.length - 1) xs)]) [] := by
  refine fun_ok (C := t_isF ++ t_risI ++ t_payI) (hint := hintX [] [] 0 [] [] [] []) (((t_isF_ok).append t_risI_ok).append t_payI_ok) mixed Try.func12 rfl (by kernel_rfl) rfl ?_
  show codeA _ _ _ _ _ _ _ _
  simp only [go_sem, ↓reduceIte, Nat.reduceEqDiff, Nat.reduceBEq, Nat.reduceAdd, Nat.reduceSub, Nat.reduceLeDiff, Nat.reduceMul, Nat.reduceLT, Try.results12]
  refine ⟨hp.1, partB_intro (fun hg => ?_) (fun hg => ?_)⟩
  · refine ⟨⟨hp.2, by omega, by omega⟩, partB_intro (fun hr => ?_) (fun hr => ?_)⟩
    · refine ⟨payOK_of hg hr hp.2, ?_, ?_⟩ <;> simp [hg, hr]
    · refine ⟨?_, ?_⟩ <;> simp [hr]
  · refine ⟨?_, ?_⟩ <;> simp [hg]
def t_payImp : Table := [(12, pureC g_payImp)]
theorem t_payImp_ok : TabOK Try.prog t_payImp := .cons Try.func12 (by kernel_rfl) (.pure (by intro args hp; unfold g_payImp at hp ⊢; split at hp <;> first | exact hp.elim | exact payImp_ok _ _ _ hp)) (.nil _)
attribute [go_sem] g_payImp_eq t_payImp
end Go.Proofs.Yteefjdbdknkcjaa
