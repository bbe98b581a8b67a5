/- What the laws reckon with: lists held against each other, members, sums. -/
import Derived.Test.YteefjdbdknkcjaaDC
import Derived.Test.YteefjdbdknkcjaaPlB
namespace Go.Proofs.Yteefjdbdknkcjaa
open Go.Vc
set_option maxRecDepth 100000
set_option maxHeartbeats 1600000
set_option linter.unusedSimpArgs false
set_option linter.unusedVariables false

theorem sum_take_bd {xs : List Int} (hx : ∀ x ∈ xs, -1000000000 ≤ x ∧ x ≤ 1000000000) : ∀ {k : Nat}, k ≤ xs.length → -1000000000 * (k : Int) ≤ (xs.take k).sum ∧ (xs.take k).sum ≤ 1000000000 * (k : Int)
  | 0, _ => by simp
  | k + 1, h => by
    have ih := sum_take_bd hx (k := k) (by omega)
    have hm := hx _ (ix_mem xs (show k < xs.length by omega))
    rw [sum_take xs (by omega)]
    omega
def g_rBig : List AV → Prop × AV
  | [.bytes code] => (code.length ≤ 9223372036854775807, .bool (decide (65536 < code.length)))
  | _ => (False, .undef)
theorem g_rBig_eq (code : List UInt8) : g_rBig [.bytes code] = (code.length ≤ 9223372036854775807, .bool (decide (65536 < code.length))) := (rfl)
theorem rBig_ok (code : List UInt8) (hp : code.length ≤ 9223372036854775807) : SpecOK Try.prog 5 [.bytes code] (.bool (decide (65536 < code.length))) [] := by
  refine fun_ok (C := []) (hint := hintX [] [] 0 [] [] [] []) (TabOK.nil _) mixed Try.func5 rfl (by kernel_rfl) rfl ?_
  show codeA _ _ _ _ _ _ _ _
  simp only [go_sem, ↓reduceIte, Nat.reduceEqDiff, Nat.reduceBEq, Nat.reduceAdd, Nat.reduceSub, Nat.reduceLeDiff, Nat.reduceMul, Nat.reduceLT, Try.results5]
  rw [show decide ((65536 : Int) < code.length) = decide (65536 < code.length) from decide_eq_decide.2 (by omega)]
def t_rBig : Table := [(5, pureC g_rBig)]
theorem t_rBig_ok : TabOK Try.prog t_rBig := .cons Try.func5 (by kernel_rfl) (.pure (by intro args hp; unfold g_rBig at hp ⊢; split at hp <;> first | exact hp.elim | exact rBig_ok _ hp)) (.nil _)
attribute [go_sem] g_rBig_eq t_rBig
def g_rInts : List AV → Prop × AV
  | [.ints xs, .ints ys] => (xs.length ≤ 1048576000 ∧ ys.length ≤ 1048576000, .bool (decide (xs = ys)))
  | _ => (False, .undef)
theorem g_rInts_eq (xs ys : List Int) : g_rInts [.ints xs, .ints ys] = (xs.length ≤ 1048576000 ∧ ys.length ≤ 1048576000, .bool (decide (xs = ys))) := (rfl)
theorem rInts_ok (xs ys : List Int) (hp : xs.length ≤ 1048576000 ∧ ys.length ≤ 1048576000) : SpecOK Try.prog 9 [.ints xs, .ints ys] (.bool (decide (xs = ys))) [] := by
  refine fun_ok (C := []) (hint := hintX [] [] 0 [] [] [] []) (TabOK.nil _) mixed Try.func9 rfl (by kernel_rfl) rfl ?_
  show codeA _ _ _ _ _ _ _ _
  simp only [go_sem, ↓reduceIte, Nat.reduceEqDiff, Nat.reduceBEq, Nat.reduceAdd, Nat.reduceSub, Nat.reduceLeDiff, Nat.reduceMul, Nat.reduceLT, Try.results9]
  refine fork_intro (fun hb => ?_) (fun hb => ?_)
  · have hlen : xs.length = ys.length := by omega
    refine loop_intro (fun k : Nat => [(5, .int .i64 k), (0, .ints xs), (1, .ints ys)]) (fun _ => []) 0 (fun k => k ≤ xs.length ∧ xs.take k = ys.take k) (fun k => xs.length - k) 0 ⟨Nat.zero_le _, rfl⟩ (Nat.zero_le _) ?_ ?_
    · simp only [go_sem, ↓reduceIte, Nat.reduceEqDiff, Nat.reduceBEq, Nat.reduceAdd, Nat.reduceSub, Nat.reduceLeDiff, Nat.reduceMul, Nat.reduceLT]
      repeat' (first | refine fork_intro (fun hb => ?_) (fun hb => ?_) | refine partB_intro (fun hb => ?_) (fun hb => ?_) | refine And.intro ?_ ?_)
      all_goals first | exact True.intro | omega | with_reducible rfl | exact congrArg (AV.int _) (by omega)
    · rintro k ⟨hk, ht⟩
      simp only [go_sem, ↓reduceIte, Nat.reduceEqDiff, Nat.reduceBEq, Nat.reduceAdd, Nat.reduceSub, Nat.reduceLeDiff, Nat.reduceMul, Nat.reduceLT]
      refine fork_intro (fun hb => ?_) (fun hb => ?_)
      · have e := take_eq ht (ix_some xs (by omega)) (ix_some ys (show k < ys.length by omega))
        refine ⟨by omega, by omega, fork_intro (fun hc => ?_) (fun hc => ?_)⟩
        · have h2 := e.2 hc
          repeat' (first | refine fork_intro (fun hb => ?_) (fun hb => ?_) | refine partB_intro (fun hb => ?_) (fun hb => ?_) | refine And.intro ?_ ?_)
          all_goals first | exact True.intro | omega | with_reducible rfl | exact congrArg (AV.int _) (by omega) | (refine LoopEnd.intro (k + 1) (by first | omega | (first | exact ⟨by omega, h2⟩)) (by first | omega | (dsimp only; omega)) (by omega) ?_; simp only [go_sem, ↓reduceIte, Nat.reduceEqDiff, Nat.reduceBEq, Nat.reduceAdd, Nat.reduceSub, Nat.reduceLeDiff, Nat.reduceMul, Nat.reduceLT]; (repeat' (first | refine fork_intro (fun hb => ?_) (fun hb => ?_) | refine partB_intro (fun hb => ?_) (fun hb => ?_) | refine And.intro ?_ ?_)); all_goals first | exact True.intro | omega | with_reducible rfl | exact congrArg (AV.int _) (by omega))
        · rw [decide_eq_false (show ¬ xs = ys from fun h => hc (e.1 (by rw [h])))]
      · rw [show k = xs.length by omega, List.take_length, hlen, List.take_length] at ht
        rw [decide_eq_true ht]
  · rw [decide_eq_false (show ¬ xs = ys from fun h => hb (by rw [h]))]
def t_rInts : Table := [(9, pureC g_rInts)]
theorem t_rInts_ok : TabOK Try.prog t_rInts := .cons Try.func9 (by kernel_rfl) (.pure (by intro args hp; unfold g_rInts at hp ⊢; split at hp <;> first | exact hp.elim | exact rInts_ok _ _ hp)) (.nil _)
attribute [go_sem] g_rInts_eq t_rInts
def g_rHas : List AV → Prop × AV
  | [.ints xs, .int .i64 n] => (xs.length ≤ 1048576000, .bool (decide (n ∈ xs)))
  | _ => (False, .undef)
theorem g_rHas_eq (xs : List Int) (n : Int) : g_rHas [.ints xs, .int .i64 n] = (xs.length ≤ 1048576000, .bool (decide (n ∈ xs))) := (rfl)
theorem rHas_ok (xs : List Int) (n : Int) (hp : xs.length ≤ 1048576000) : SpecOK Try.prog 23 [.ints xs, .int .i64 n] (.bool (decide (n ∈ xs))) [] := by
  refine fun_ok (C := []) (hint := hintX [] [] 0 [] [] [] []) (TabOK.nil _) mixed Try.func23 rfl (by kernel_rfl) rfl ?_
  show codeA _ _ _ _ _ _ _ _
  simp only [go_sem, ↓reduceIte, Nat.reduceEqDiff, Nat.reduceBEq, Nat.reduceAdd, Nat.reduceSub, Nat.reduceLeDiff, Nat.reduceMul, Nat.reduceLT, Try.results23]
  refine loop_intro (fun k : Nat => [(0, .ints xs), (1, .int .i64 n), (5, .int .i64 k)]) (fun _ => []) 0 (fun k => k ≤ xs.length ∧ ∀ j : Nat, j < k → ix xs (j : Int) ≠ n) (fun k => xs.length - k) 0 ⟨Nat.zero_le _, fun j h => absurd h (Nat.not_lt_zero _)⟩ (by omega) ?_ ?_
  · simp only [go_sem, ↓reduceIte, Nat.reduceEqDiff, Nat.reduceBEq, Nat.reduceAdd, Nat.reduceSub, Nat.reduceLeDiff, Nat.reduceMul, Nat.reduceLT]
    repeat' (first | refine fork_intro (fun hb => ?_) (fun hb => ?_) | refine partB_intro (fun hb => ?_) (fun hb => ?_) | refine And.intro ?_ ?_)
    all_goals first | exact True.intro | omega | with_reducible rfl | exact congrArg (AV.int _) (by omega) | (first | rfl)
  · rintro k ⟨hk, ht⟩
    simp only [go_sem, ↓reduceIte, Nat.reduceEqDiff, Nat.reduceBEq, Nat.reduceAdd, Nat.reduceSub, Nat.reduceLeDiff, Nat.reduceMul, Nat.reduceLT]
    refine fork_intro (fun hc => ?_) (fun hc => ?_)
    · refine ⟨by omega, fork_intro (fun hd => ?_) (fun hd => ?_)⟩
      · rw [decide_eq_true (show n ∈ xs from hd ▸ ix_mem xs (by omega))]
      · have hsu := below_succ (q := fun j : Nat => ix xs (j : Int) ≠ n) (k := k) ht hd
        repeat' (first | refine fork_intro (fun hb => ?_) (fun hb => ?_) | refine partB_intro (fun hb => ?_) (fun hb => ?_) | refine And.intro ?_ ?_)
        all_goals first | exact True.intro | omega | with_reducible rfl | exact congrArg (AV.int _) (by omega) | (refine LoopEnd.intro (k + 1) (by first | omega | (first | exact ⟨by omega, hsu⟩)) (by first | omega | (dsimp only; omega)) (by omega) ?_; simp only [go_sem, ↓reduceIte, Nat.reduceEqDiff, Nat.reduceBEq, Nat.reduceAdd, Nat.reduceSub, Nat.reduceLeDiff, Nat.reduceMul, Nat.reduceLT]; (repeat' (first | refine fork_intro (fun hb => ?_) (fun hb => ?_) | refine partB_intro (fun hb => ?_) (fun hb => ?_) | refine And.intro ?_ ?_)); all_goals first | exact True.intro | omega | with_reducible rfl | exact congrArg (AV.int _) (by omega))
    · rw [decide_eq_false (fun hm => by obtain ⟨j, hj, e⟩ := mem_ix hm; exact ht j (by omega) e)]
def t_rHas : Table := [(23, pureC g_rHas)]
theorem t_rHas_ok : TabOK Try.prog t_rHas := .cons Try.func23 (by kernel_rfl) (.pure (by intro args hp; unfold g_rHas at hp ⊢; split at hp <;> first | exact hp.elim | exact rHas_ok _ _ hp)) (.nil _)
attribute [go_sem] g_rHas_eq t_rHas
def g_rTable : List AV → Prop × AV
  | [.rows xs, .rows ys] => ((xs.length ≤ 1048576000 ∧ ys.length ≤ 1048576000) ∧ (∀ x ∈ xs, x.length ≤ 1048576000) ∧ ∀ x ∈ ys, x.length ≤ 1048576000, .bool (decide (xs = ys)))
  | _ => (False, .undef)
theorem g_rTable_eq (xs ys : List (List Int)) : g_rTable [.rows xs, .rows ys] = ((xs.length ≤ 1048576000 ∧ ys.length ≤ 1048576000) ∧ (∀ x ∈ xs, x.length ≤ 1048576000) ∧ ∀ x ∈ ys, x.length ≤ 1048576000, .bool (decide (xs = ys))) := (rfl)
theorem rTable_ok (xs ys : List (List Int)) (hp : (xs.length ≤ 1048576000 ∧ ys.length ≤ 1048576000) ∧ (∀ x ∈ xs, x.length ≤ 1048576000) ∧ ∀ x ∈ ys, x.length ≤ 1048576000) : SpecOK Try.prog 20 [.rows xs, .rows ys] (.bool (decide (xs = ys))) [] := by
  refine fun_ok (C := t_rInts) (hint := hintX [] [] 0 [] [] [] []) (t_rInts_ok) mixed Try.func20 rfl (by kernel_rfl) rfl ?_
  show codeA _ _ _ _ _ _ _ _
  simp only [go_sem, ↓reduceIte, Nat.reduceEqDiff, Nat.reduceBEq, Nat.reduceAdd, Nat.reduceSub, Nat.reduceLeDiff, Nat.reduceMul, Nat.reduceLT, Try.results20]
  obtain ⟨hp, hx, hy⟩ := hp
  refine fork_intro (fun hb => ?_) (fun hb => ?_)
  · have hlen : xs.length = ys.length := by omega
    refine loop_intro (fun k : Nat => [(5, .int .i64 k), (0, .rows xs), (1, .rows ys)]) (fun _ => []) 0 (fun k => k ≤ xs.length ∧ xs.take k = ys.take k) (fun k => xs.length - k) 0 ⟨Nat.zero_le _, rfl⟩ (Nat.zero_le _) ?_ ?_
    · simp only [go_sem, ↓reduceIte, Nat.reduceEqDiff, Nat.reduceBEq, Nat.reduceAdd, Nat.reduceSub, Nat.reduceLeDiff, Nat.reduceMul, Nat.reduceLT]
      repeat' (first | refine fork_intro (fun hb => ?_) (fun hb => ?_) | refine partB_intro (fun hb => ?_) (fun hb => ?_) | refine And.intro ?_ ?_)
      all_goals first | exact True.intro | omega | with_reducible rfl | exact congrArg (AV.int _) (by omega)
    · rintro k ⟨hk, ht⟩
      simp only [go_sem, ↓reduceIte, Nat.reduceEqDiff, Nat.reduceBEq, Nat.reduceAdd, Nat.reduceSub, Nat.reduceLeDiff, Nat.reduceMul, Nat.reduceLT]
      refine fork_intro (fun hb => ?_) (fun hb => ?_)
      · have e := take_eq ht (ix_some xs (by omega)) (ix_some ys (show k < ys.length by omega))
        refine ⟨by omega, by omega, ⟨hx _ (ix_mem xs (by omega)), hy _ (ix_mem ys (by omega))⟩, fork_intro (fun hc => ?_) (fun hc => ?_)⟩
        · have h2 := e.2 hc
          repeat' (first | refine fork_intro (fun hb => ?_) (fun hb => ?_) | refine partB_intro (fun hb => ?_) (fun hb => ?_) | refine And.intro ?_ ?_)
          all_goals first | exact True.intro | omega | with_reducible rfl | exact congrArg (AV.int _) (by omega) | (refine LoopEnd.intro (k + 1) (by first | omega | (first | exact ⟨by omega, h2⟩)) (by first | omega | (dsimp only; omega)) (by omega) ?_; simp only [go_sem, ↓reduceIte, Nat.reduceEqDiff, Nat.reduceBEq, Nat.reduceAdd, Nat.reduceSub, Nat.reduceLeDiff, Nat.reduceMul, Nat.reduceLT]; (repeat' (first | refine fork_intro (fun hb => ?_) (fun hb => ?_) | refine partB_intro (fun hb => ?_) (fun hb => ?_) | refine And.intro ?_ ?_)); all_goals first | exact True.intro | omega | with_reducible rfl | exact congrArg (AV.int _) (by omega))
        · rw [decide_eq_false (show ¬ xs = ys from fun h => hc (e.1 (by rw [h])))]
      · rw [show k = xs.length by omega, List.take_length, hlen, List.take_length] at ht
        rw [decide_eq_true ht]
  · rw [decide_eq_false (show ¬ xs = ys from fun h => hb (by rw [h]))]
def t_rTable : Table := [(20, pureC g_rTable)]
theorem t_rTable_ok : TabOK Try.prog t_rTable := .cons Try.func20 (by kernel_rfl) (.pure (by intro args hp; unfold g_rTable at hp ⊢; split at hp <;> first | exact hp.elim | exact rTable_ok _ _ hp)) (.nil _)
attribute [go_sem] g_rTable_eq t_rTable
def g_vBig : List AV → Prop × AV
  | [.bytes code] => (code.length ≤ 9223372036854775807, .bool (decide (65536 < code.length)))
  | _ => (False, .undef)
theorem g_vBig_eq (code : List UInt8) : g_vBig [.bytes code] = (code.length ≤ 9223372036854775807, .bool (decide (65536 < code.length))) := (rfl)
theorem vBig_ok (code : List UInt8) (hp : code.length ≤ 9223372036854775807) : SpecOK Try.prog 25 [.bytes code] (.bool (decide (65536 < code.length))) [] := by
  refine fun_ok (C := []) (hint := hintX [] [] 0 [] [] [] []) (TabOK.nil _) mixed Try.func25 rfl (by kernel_rfl) rfl ?_
  show codeA _ _ _ _ _ _ _ _
  simp only [go_sem, ↓reduceIte, Nat.reduceEqDiff, Nat.reduceBEq, Nat.reduceAdd, Nat.reduceSub, Nat.reduceLeDiff, Nat.reduceMul, Nat.reduceLT, Try.results25]
  rw [show decide ((65536 : Int) < code.length) = decide (65536 < code.length) from decide_eq_decide.2 (by omega)]
def t_vBig : Table := [(25, pureC g_vBig)]
theorem t_vBig_ok : TabOK Try.prog t_vBig := .cons Try.func25 (by kernel_rfl) (.pure (by intro args hp; unfold g_vBig at hp ⊢; split at hp <;> first | exact hp.elim | exact vBig_ok _ hp)) (.nil _)
attribute [go_sem] g_vBig_eq t_vBig
def g_vInts : List AV → Prop × AV
  | [.ints xs, .ints ys] => (xs.length ≤ 1048576000 ∧ ys.length ≤ 1048576000, .bool (decide (xs = ys)))
  | _ => (False, .undef)
theorem g_vInts_eq (xs ys : List Int) : g_vInts [.ints xs, .ints ys] = (xs.length ≤ 1048576000 ∧ ys.length ≤ 1048576000, .bool (decide (xs = ys))) := (rfl)
theorem vInts_ok (xs ys : List Int) (hp : xs.length ≤ 1048576000 ∧ ys.length ≤ 1048576000) : SpecOK Try.prog 35 [.ints xs, .ints ys] (.bool (decide (xs = ys))) [] := by
  refine fun_ok (C := []) (hint := hintX [] [] 0 [] [] [] []) (TabOK.nil _) mixed Try.func35 rfl (by kernel_rfl) rfl ?_
  show codeA _ _ _ _ _ _ _ _
  simp only [go_sem, ↓reduceIte, Nat.reduceEqDiff, Nat.reduceBEq, Nat.reduceAdd, Nat.reduceSub, Nat.reduceLeDiff, Nat.reduceMul, Nat.reduceLT, Try.results35]
  refine fork_intro (fun hb => ?_) (fun hb => ?_)
  · have hlen : xs.length = ys.length := by omega
    refine loop_intro (fun k : Nat => [(5, .int .i64 k), (0, .ints xs), (1, .ints ys)]) (fun _ => []) 0 (fun k => k ≤ xs.length ∧ xs.take k = ys.take k) (fun k => xs.length - k) 0 ⟨Nat.zero_le _, rfl⟩ (Nat.zero_le _) ?_ ?_
    · simp only [go_sem, ↓reduceIte, Nat.reduceEqDiff, Nat.reduceBEq, Nat.reduceAdd, Nat.reduceSub, Nat.reduceLeDiff, Nat.reduceMul, Nat.reduceLT]
      repeat' (first | refine fork_intro (fun hb => ?_) (fun hb => ?_) | refine partB_intro (fun hb => ?_) (fun hb => ?_) | refine And.intro ?_ ?_)
      all_goals first | exact True.intro | omega | with_reducible rfl | exact congrArg (AV.int _) (by omega)
    · rintro k ⟨hk, ht⟩
      simp only [go_sem, ↓reduceIte, Nat.reduceEqDiff, Nat.reduceBEq, Nat.reduceAdd, Nat.reduceSub, Nat.reduceLeDiff, Nat.reduceMul, Nat.reduceLT]
      refine fork_intro (fun hb => ?_) (fun hb => ?_)
      · have e := take_eq ht (ix_some xs (by omega)) (ix_some ys (show k < ys.length by omega))
        refine ⟨by omega, by omega, fork_intro (fun hc => ?_) (fun hc => ?_)⟩
        · have h2 := e.2 hc
          repeat' (first | refine fork_intro (fun hb => ?_) (fun hb => ?_) | refine partB_intro (fun hb => ?_) (fun hb => ?_) | refine And.intro ?_ ?_)
          all_goals first | exact True.intro | omega | with_reducible rfl | exact congrArg (AV.int _) (by omega) | (refine LoopEnd.intro (k + 1) (by first | omega | (first | exact ⟨by omega, h2⟩)) (by first | omega | (dsimp only; omega)) (by omega) ?_; simp only [go_sem, ↓reduceIte, Nat.reduceEqDiff, Nat.reduceBEq, Nat.reduceAdd, Nat.reduceSub, Nat.reduceLeDiff, Nat.reduceMul, Nat.reduceLT]; (repeat' (first | refine fork_intro (fun hb => ?_) (fun hb => ?_) | refine partB_intro (fun hb => ?_) (fun hb => ?_) | refine And.intro ?_ ?_)); all_goals first | exact True.intro | omega | with_reducible rfl | exact congrArg (AV.int _) (by omega))
        · rw [decide_eq_false (show ¬ xs = ys from fun h => hc (e.1 (by rw [h])))]
      · rw [show k = xs.length by omega, List.take_length, hlen, List.take_length] at ht
        rw [decide_eq_true ht]
  · rw [decide_eq_false (show ¬ xs = ys from fun h => hb (by rw [h]))]
def t_vInts : Table := [(35, pureC g_vInts)]
theorem t_vInts_ok : TabOK Try.prog t_vInts := .cons Try.func35 (by kernel_rfl) (.pure (by intro args hp; unfold g_vInts at hp ⊢; split at hp <;> first | exact hp.elim | exact vInts_ok _ _ hp)) (.nil _)
attribute [go_sem] g_vInts_eq t_vInts
def g_vHas : List AV → Prop × AV
  | [.ints xs, .int .i64 n] => (xs.length ≤ 1048576000, .bool (decide (n ∈ xs)))
  | _ => (False, .undef)
theorem g_vHas_eq (xs : List Int) (n : Int) : g_vHas [.ints xs, .int .i64 n] = (xs.length ≤ 1048576000, .bool (decide (n ∈ xs))) := (rfl)
theorem vHas_ok (xs : List Int) (n : Int) (hp : xs.length ≤ 1048576000) : SpecOK Try.prog 37 [.ints xs, .int .i64 n] (.bool (decide (n ∈ xs))) [] := by
  refine fun_ok (C := []) (hint := hintX [] [] 0 [] [] [] []) (TabOK.nil _) mixed Try.func37 rfl (by kernel_rfl) rfl ?_
  show codeA _ _ _ _ _ _ _ _
  simp only [go_sem, ↓reduceIte, Nat.reduceEqDiff, Nat.reduceBEq, Nat.reduceAdd, Nat.reduceSub, Nat.reduceLeDiff, Nat.reduceMul, Nat.reduceLT, Try.results37]
  refine loop_intro (fun k : Nat => [(0, .ints xs), (1, .int .i64 n), (5, .int .i64 k)]) (fun _ => []) 0 (fun k => k ≤ xs.length ∧ ∀ j : Nat, j < k → ix xs (j : Int) ≠ n) (fun k => xs.length - k) 0 ⟨Nat.zero_le _, fun j h => absurd h (Nat.not_lt_zero _)⟩ (by omega) ?_ ?_
  · simp only [go_sem, ↓reduceIte, Nat.reduceEqDiff, Nat.reduceBEq, Nat.reduceAdd, Nat.reduceSub, Nat.reduceLeDiff, Nat.reduceMul, Nat.reduceLT]
    repeat' (first | refine fork_intro (fun hb => ?_) (fun hb => ?_) | refine partB_intro (fun hb => ?_) (fun hb => ?_) | refine And.intro ?_ ?_)
    all_goals first | exact True.intro | omega | with_reducible rfl | exact congrArg (AV.int _) (by omega) | (first | rfl)
  · rintro k ⟨hk, ht⟩
    simp only [go_sem, ↓reduceIte, Nat.reduceEqDiff, Nat.reduceBEq, Nat.reduceAdd, Nat.reduceSub, Nat.reduceLeDiff, Nat.reduceMul, Nat.reduceLT]
    refine fork_intro (fun hc => ?_) (fun hc => ?_)
    · refine ⟨by omega, fork_intro (fun hd => ?_) (fun hd => ?_)⟩
      · rw [decide_eq_true (show n ∈ xs from hd ▸ ix_mem xs (by omega))]
      · have hsu := below_succ (q := fun j : Nat => ix xs (j : Int) ≠ n) (k := k) ht hd
        repeat' (first | refine fork_intro (fun hb => ?_) (fun hb => ?_) | refine partB_intro (fun hb => ?_) (fun hb => ?_) | refine And.intro ?_ ?_)
        all_goals first | exact True.intro | omega | with_reducible rfl | exact congrArg (AV.int _) (by omega) | (refine LoopEnd.intro (k + 1) (by first | omega | (first | exact ⟨by omega, hsu⟩)) (by first | omega | (dsimp only; omega)) (by omega) ?_; simp only [go_sem, ↓reduceIte, Nat.reduceEqDiff, Nat.reduceBEq, Nat.reduceAdd, Nat.reduceSub, Nat.reduceLeDiff, Nat.reduceMul, Nat.reduceLT]; (repeat' (first | refine fork_intro (fun hb => ?_) (fun hb => ?_) | refine partB_intro (fun hb => ?_) (fun hb => ?_) | refine And.intro ?_ ?_)); all_goals first | exact True.intro | omega | with_reducible rfl | exact congrArg (AV.int _) (by omega))
    · rw [decide_eq_false (fun hm => by obtain ⟨j, hj, e⟩ := mem_ix hm; exact ht j (by omega) e)]
def t_vHas : Table := [(37, pureC g_vHas)]
theorem t_vHas_ok : TabOK Try.prog t_vHas := .cons Try.func37 (by kernel_rfl) (.pure (by intro args hp; unfold g_vHas at hp ⊢; split at hp <;> first | exact hp.elim | exact vHas_ok _ _ hp)) (.nil _)
attribute [go_sem] g_vHas_eq t_vHas
def g_vSum : List AV → Prop × AV
  | [.ints xs] => (xs.length ≤ 1000000 ∧ ∀ x ∈ xs, -1000000000 ≤ x ∧ x ≤ 1000000000, .int .i64 xs.sum)
  | _ => (False, .undef)
theorem g_vSum_eq (xs : List Int) : g_vSum [.ints xs] = (xs.length ≤ 1000000 ∧ ∀ x ∈ xs, -1000000000 ≤ x ∧ x ≤ 1000000000, .int .i64 xs.sum) := (rfl)
theorem vSum_ok (xs : List Int) (hp : xs.length ≤ 1000000 ∧ ∀ x ∈ xs, -1000000000 ≤ x ∧ x ≤ 1000000000) : SpecOK Try.prog 38 [.ints xs] (.int .i64 xs.sum) [] := by
  refine fun_ok (C := []) (hint := hintX [] [] 0 [] [] [] []) (TabOK.nil _) mixed Try.func38 rfl (by kernel_rfl) rfl ?_
  show codeA _ _ _ _ _ _ _ _
  simp only [go_sem, ↓reduceIte, Nat.reduceEqDiff, Nat.reduceBEq, Nat.reduceAdd, Nat.reduceSub, Nat.reduceLeDiff, Nat.reduceMul, Nat.reduceLT, Try.results38]
  obtain ⟨hl, hx⟩ := hp
  refine loop_intro (fun k : Nat => [(3, .int .i64 (xs.take k).sum), (4, .int .i64 k), (0, .ints xs)]) (fun _ => []) 0 (fun k => k ≤ xs.length) (fun k => xs.length - k) 0 (Nat.zero_le _) (Nat.zero_le _) ?_ ?_
  · simp only [go_sem, ↓reduceIte, Nat.reduceEqDiff, Nat.reduceBEq, Nat.reduceAdd, Nat.reduceSub, Nat.reduceLeDiff, Nat.reduceMul, Nat.reduceLT]
    repeat' (first | refine fork_intro (fun hb => ?_) (fun hb => ?_) | refine partB_intro (fun hb => ?_) (fun hb => ?_) | refine And.intro ?_ ?_)
    all_goals first | exact True.intro | omega | with_reducible rfl | exact congrArg (AV.int _) (by omega) | (first | rfl)
  · intro k hk
    have hs := sum_take_bd hx hk
    simp only [go_sem, ↓reduceIte, Nat.reduceEqDiff, Nat.reduceBEq, Nat.reduceAdd, Nat.reduceSub, Nat.reduceLeDiff, Nat.reduceMul, Nat.reduceLT]
    refine fork_intro (fun hc => ?_) (fun hc => ?_)
    · have e := sum_take xs (k := k) (by omega)
      have hm := hx _ (ix_mem xs (show k < xs.length by omega))
      repeat' (first | refine fork_intro (fun hb => ?_) (fun hb => ?_) | refine partB_intro (fun hb => ?_) (fun hb => ?_) | refine And.intro ?_ ?_)
      all_goals first | exact True.intro | omega | with_reducible rfl | exact congrArg (AV.int _) (by omega) | (refine LoopEnd.intro (k + 1) (by first | omega) (by first | omega | (dsimp only; omega)) (by omega) ?_; simp only [go_sem, ↓reduceIte, Nat.reduceEqDiff, Nat.reduceBEq, Nat.reduceAdd, Nat.reduceSub, Nat.reduceLeDiff, Nat.reduceMul, Nat.reduceLT]; (repeat' (first | refine fork_intro (fun hb => ?_) (fun hb => ?_) | refine partB_intro (fun hb => ?_) (fun hb => ?_) | refine And.intro ?_ ?_)); all_goals first | exact True.intro | omega | with_reducible rfl | exact congrArg (AV.int _) (by omega) | (first | rfl | rw [e])) | (first | rfl | rw [e])
    · rw [show k = xs.length by omega, List.take_length]
def t_vSum : Table := [(38, pureC g_vSum)]
theorem t_vSum_ok : TabOK Try.prog t_vSum := .cons Try.func38 (by kernel_rfl) (.pure (by intro args hp; unfold g_vSum at hp ⊢; split at hp <;> first | exact hp.elim | exact vSum_ok _ hp)) (.nil _)
attribute [go_sem] g_vSum_eq t_vSum
/-- The numbers of a list in ascending order, each once. -/
def srtd (xs : List Int) (k : Nat) : List Int := ((List.range k).map fun q : Nat => (q : Int) - 1).filter fun x => decide (x ∈ xs)
theorem srtd_succ (xs : List Int) (k : Nat) : srtd xs (k + 1) = srtd xs k ++ if (k : Int) - 1 ∈ xs then [(k : Int) - 1] else [] := by
  unfold srtd
  rw [List.range_succ, List.map_append, List.filter_append]
  congr 1
  by_cases h : (k : Int) - 1 ∈ xs <;> simp [h]
theorem srtd_len (xs : List Int) : ∀ k, (srtd xs k).length ≤ k
  | 0 => Nat.le_refl _
  | k + 1 => by
    have := srtd_len xs k
    rw [srtd_succ, List.length_append]
    split <;> simp <;> omega
def g_rSorted : List AV → Prop × AV × Heap
  | [.ints xs] => (xs.length ≤ 1048576000, .sl 0, [(0, .arr (.ints (srtd xs 1002)))])
  | _ => (False, .undef, [])
theorem g_rSorted_eq (xs : List Int) : g_rSorted [.ints xs] = (xs.length ≤ 1048576000, .sl 0, [(0, .arr (.ints (srtd xs 1002)))]) := (rfl)
theorem rSorted_ok (xs : List Int) (hp : xs.length ≤ 1048576000) : SpecOK Try.prog 24 [.ints xs] (.sl 0) [(0, .arr (.ints (srtd xs 1002)))] := by
  refine fun_ok (C := t_rHas) (hint := hintX [5] [] 0 [] [] [] []) (t_rHas_ok) mixed Try.func24 rfl (by kernel_rfl) rfl ?_
  show codeA _ _ _ _ _ _ _ _
  simp only [go_sem, ↓reduceIte, Nat.reduceEqDiff, Nat.reduceBEq, Nat.reduceAdd, Nat.reduceSub, Nat.reduceLeDiff, Nat.reduceMul, Nat.reduceLT, Try.results24]
  refine loop_intro (fun k : Nat => [(4, .int .i64 ((k : Int) - 1)), (3, .sl 0), (0, .ints xs)]) (fun k => [(0, .arr (.ints (srtd xs k)))]) 1 (fun k => k ≤ 1002) (fun k => 1002 - k) 0 (Nat.zero_le _) (by omega) ?_ ?_
  · simp only [go_sem, ↓reduceIte, Nat.reduceEqDiff, Nat.reduceBEq, Nat.reduceAdd, Nat.reduceSub, Nat.reduceLeDiff, Nat.reduceMul, Nat.reduceLT]
    repeat' (first | refine fork_intro (fun hb => ?_) (fun hb => ?_) | refine partB_intro (fun hb => ?_) (fun hb => ?_) | refine And.intro ?_ ?_)
    all_goals first | exact True.intro | omega | with_reducible rfl | exact congrArg (AV.int _) (by omega) | (first | rfl)
  · intro k hk
    have hl := srtd_len xs k
    have e := srtd_succ xs k
    simp only [go_sem, ↓reduceIte, Nat.reduceEqDiff, Nat.reduceBEq, Nat.reduceAdd, Nat.reduceSub, Nat.reduceLeDiff, Nat.reduceMul, Nat.reduceLT]
    refine fork_intro (fun hc => ?_) (fun hc => ?_)
    · refine ⟨hp, fork_intro (fun hd => ?_) (fun hd => ?_)⟩
      · rw [if_pos hd] at e
        repeat' (first | refine fork_intro (fun hb => ?_) (fun hb => ?_) | refine partB_intro (fun hb => ?_) (fun hb => ?_) | refine And.intro ?_ ?_)
        all_goals first | exact True.intro | omega | with_reducible rfl | exact congrArg (AV.int _) (by omega) | (refine LoopEnd.intro (k + 1) (by first | omega) (by first | omega | (dsimp only; omega)) (by omega) ?_; simp only [go_sem, ↓reduceIte, Nat.reduceEqDiff, Nat.reduceBEq, Nat.reduceAdd, Nat.reduceSub, Nat.reduceLeDiff, Nat.reduceMul, Nat.reduceLT]; (repeat' (first | refine fork_intro (fun hb => ?_) (fun hb => ?_) | refine partB_intro (fun hb => ?_) (fun hb => ?_) | refine And.intro ?_ ?_)); all_goals first | exact True.intro | omega | with_reducible rfl | exact congrArg (AV.int _) (by omega) | (first | rw [e] | rfl)) | (first | rw [e] | rfl)
      · rw [if_neg hd, List.append_nil] at e
        repeat' (first | refine fork_intro (fun hb => ?_) (fun hb => ?_) | refine partB_intro (fun hb => ?_) (fun hb => ?_) | refine And.intro ?_ ?_)
        all_goals first | exact True.intro | omega | with_reducible rfl | exact congrArg (AV.int _) (by omega) | (refine LoopEnd.intro (k + 1) (by first | omega) (by first | omega | (dsimp only; omega)) (by omega) ?_; simp only [go_sem, ↓reduceIte, Nat.reduceEqDiff, Nat.reduceBEq, Nat.reduceAdd, Nat.reduceSub, Nat.reduceLeDiff, Nat.reduceMul, Nat.reduceLT]; (repeat' (first | refine fork_intro (fun hb => ?_) (fun hb => ?_) | refine partB_intro (fun hb => ?_) (fun hb => ?_) | refine And.intro ?_ ?_)); all_goals first | exact True.intro | omega | with_reducible rfl | exact congrArg (AV.int _) (by omega) | (first | rw [e] | rfl)) | (first | rw [e] | rfl)
    · rw [show k = 1002 by omega]
def t_rSorted : Table := [(24, ownC g_rSorted)]
theorem t_rSorted_ok : TabOK Try.prog t_rSorted := .cons Try.func24 (by kernel_rfl) (.own (by intro args hp; unfold g_rSorted at hp ⊢; split at hp <;> first | exact hp.elim | exact ⟨rSorted_ok _ hp, rfl⟩)) (.nil _)
attribute [go_sem] g_rSorted_eq t_rSorted
def g_vBits : List AV → Prop × AV
  | [.int .i64 n, .int .i64 b] => ((0 ≤ n ∧ n ≤ 7) ∧ 0 ≤ b ∧ b < 128, .ints (sel b.toNat.testBit n.toNat))
  | _ => (False, .undef)
theorem g_vBits_eq (n b : Int) : g_vBits [.int .i64 n, .int .i64 b] = ((0 ≤ n ∧ n ≤ 7) ∧ 0 ≤ b ∧ b < 128, .ints (sel b.toNat.testBit n.toNat)) := (rfl)
theorem vBits_ok (n b : Int) (hp : (0 ≤ n ∧ n ≤ 7) ∧ 0 ≤ b ∧ b < 128) : SpecOK Try.prog 36 [.int .i64 n, .int .i64 b] (.ints (sel b.toNat.testBit n.toNat)) [] := by
  refine fun_ok (C := []) (hint := hintX [7] [] 0 [] [] [] []) (TabOK.nil _) mixed Try.func36 rfl (by kernel_rfl) rfl ?_
  show codeA _ _ _ _ _ _ _ _
  simp only [go_sem, ↓reduceIte, Nat.reduceEqDiff, Nat.reduceBEq, Nat.reduceAdd, Nat.reduceSub, Nat.reduceLeDiff, Nat.reduceMul, Nat.reduceLT, Try.results36]
  obtain ⟨⟨h0, h1⟩, h2, h3⟩ := hp
  obtain ⟨b, rfl⟩ : ∃ k : Nat, b = k := ⟨b.toNat, by omega⟩
  obtain ⟨n, rfl⟩ : ∃ k : Nat, n = k := ⟨n.toNat, by omega⟩
  simp only [Int.toNat_natCast]
  refine loop_intro (fun x : Nat => [(5, .sl 0), (6, .int .i64 x), (0, .int .i64 n), (1, .int .i64 b)]) (fun x => [(0, .arr (.ints (sel b.testBit x)))]) 1 (fun x => x ≤ n) (fun x => n - x) 0 (by omega) (by omega) ?_ ?_
  · simp only [go_sem, ↓reduceIte, Nat.reduceEqDiff, Nat.reduceBEq, Nat.reduceAdd, Nat.reduceSub, Nat.reduceLeDiff, Nat.reduceMul, Nat.reduceLT]
    repeat' (first | refine fork_intro (fun hb => ?_) (fun hb => ?_) | refine partB_intro (fun hb => ?_) (fun hb => ?_) | refine And.intro ?_ ?_)
    all_goals first | exact True.intro | omega | with_reducible rfl | exact congrArg (AV.int _) (by omega) | (first | rfl)
  · intro x hx
    have hs := shr_le b x
    have hsl := sel_len b.testBit x
    have hb1 := bit_one b x
    simp only [go_sem, ↓reduceIte, Nat.reduceEqDiff, Nat.reduceBEq, Nat.reduceAdd, Nat.reduceSub, Nat.reduceLeDiff, Nat.reduceMul, Nat.reduceLT]
    refine fork_intro (fun hc => ?_) (fun hc => ?_)
    · simp only [shr_nat, bitN_and, show Int.toNat 1 = 1 from rfl]
      refine ⟨by omega, ⟨by omega, by omega⟩, fork_intro (fun hd => ?_) (fun hd => ?_)⟩
      · rw [decide_eq_true hd] at hb1
        have e := sel_t (p := b.testBit) (n := x) hb1.symm
        repeat' (first | refine fork_intro (fun hb => ?_) (fun hb => ?_) | refine partB_intro (fun hb => ?_) (fun hb => ?_) | refine And.intro ?_ ?_)
        all_goals first | exact True.intro | omega | with_reducible rfl | exact congrArg (AV.int _) (by omega) | (refine LoopEnd.intro (x + 1) (by first | omega) (by first | omega | (dsimp only; omega)) (by omega) ?_; simp only [go_sem, ↓reduceIte, Nat.reduceEqDiff, Nat.reduceBEq, Nat.reduceAdd, Nat.reduceSub, Nat.reduceLeDiff, Nat.reduceMul, Nat.reduceLT]; (repeat' (first | refine fork_intro (fun hb => ?_) (fun hb => ?_) | refine partB_intro (fun hb => ?_) (fun hb => ?_) | refine And.intro ?_ ?_)); all_goals first | exact True.intro | omega | with_reducible rfl | exact congrArg (AV.int _) (by omega) | (first | rw [e])) | (first | rw [e])
      · rw [decide_eq_false hd] at hb1
        have e := sel_f (p := b.testBit) (n := x) hb1.symm
        repeat' (first | refine fork_intro (fun hb => ?_) (fun hb => ?_) | refine partB_intro (fun hb => ?_) (fun hb => ?_) | refine And.intro ?_ ?_)
        all_goals first | exact True.intro | omega | with_reducible rfl | exact congrArg (AV.int _) (by omega) | (refine LoopEnd.intro (x + 1) (by first | omega) (by first | omega | (dsimp only; omega)) (by omega) ?_; simp only [go_sem, ↓reduceIte, Nat.reduceEqDiff, Nat.reduceBEq, Nat.reduceAdd, Nat.reduceSub, Nat.reduceLeDiff, Nat.reduceMul, Nat.reduceLT]; (repeat' (first | refine fork_intro (fun hb => ?_) (fun hb => ?_) | refine partB_intro (fun hb => ?_) (fun hb => ?_) | refine And.intro ?_ ?_)); all_goals first | exact True.intro | omega | with_reducible rfl | exact congrArg (AV.int _) (by omega) | (first | rw [e])) | (first | rw [e])
    · rw [show x = n by omega]
      repeat' (first | refine fork_intro (fun hb => ?_) (fun hb => ?_) | refine partB_intro (fun hb => ?_) (fun hb => ?_) | refine And.intro ?_ ?_)
      all_goals first | exact True.intro | omega | with_reducible rfl | exact congrArg (AV.int _) (by omega) | (first | rfl)
def t_vBits : Table := [(36, pureC g_vBits)]
theorem t_vBits_ok : TabOK Try.prog t_vBits := .cons Try.func36 (by kernel_rfl) (.pure (by intro args hp; unfold g_vBits at hp ⊢; split at hp <;> first | exact hp.elim | exact vBits_ok _ _ hp)) (.nil _)
attribute [go_sem] g_vBits_eq t_vBits
def g_vOwn : List AV → Prop × AV × Heap
  | [.ints xs] => (xs.length ≤ 1048576000, .sl 0, [(0, .arr (.ints xs))])
  | _ => (False, .undef, [])
theorem g_vOwn_eq (xs : List Int) : g_vOwn [.ints xs] = (xs.length ≤ 1048576000, .sl 0, [(0, .arr (.ints xs))]) := (rfl)
theorem vOwn_ok (xs : List Int) (hp : xs.length ≤ 1048576000) : SpecOK Try.prog 40 [.ints xs] (.sl 0) [(0, .arr (.ints xs))] := by
  refine fun_ok (C := []) (hint := hintX [3, 5] [] 0 [] [] [] []) (TabOK.nil _) mixed Try.func40 rfl (by kernel_rfl) rfl ?_
  show codeA _ _ _ _ _ _ _ _
  simp only [go_sem, ↓reduceIte, Nat.reduceEqDiff, Nat.reduceBEq, Nat.reduceAdd, Nat.reduceSub, Nat.reduceLeDiff, Nat.reduceMul, Nat.reduceLT, Try.results40]
  repeat' (first | refine fork_intro (fun hb => ?_) (fun hb => ?_) | refine partB_intro (fun hb => ?_) (fun hb => ?_) | refine And.intro ?_ ?_)
  all_goals first | exact True.intro | omega | with_reducible rfl | exact congrArg (AV.int _) (by omega)
def t_vOwn : Table := [(40, ownC g_vOwn)]
theorem t_vOwn_ok : TabOK Try.prog t_vOwn := .cons Try.func40 (by kernel_rfl) (.own (by intro args hp; unfold g_vOwn at hp ⊢; split at hp <;> first | exact hp.elim | exact ⟨vOwn_ok _ hp, rfl⟩)) (.nil _)
attribute [go_sem] g_vOwn_eq t_vOwn
end Go.Proofs.Yteefjdbdknkcjaa
