/- What the laws reckon with: lists held against each other, members, sums. -/
import Derived.Test.YteefjdbdknkcjaaGreatDC
import Derived.Test.YteefjdbdknkcjaaGreatPlB
namespace Go.Proofs.YteefjdbdknkcjaaGreat
open Go.Vc
set_option maxRecDepth 100000
set_option maxHeartbeats 1600000
set_option linter.unusedSimpArgs false
set_option linter.unusedVariables false

theorem sum_take_bd {xs : List Int} (hx : ∀ x ∈ xs, -1000000000 ≤ x ∧ x ≤ 1000000000) : ∀ {k : Nat}, k ≤ xs.length → -1000000000 * (k : Int) ≤ (xs.take k).sum ∧ (xs.take k).sum ≤ 1000000000 * (k : Int)
  | 0, _ => by simp
  | k + 1, h => by
    have ih := sum_take_bd hx (k := k) (by omega)
    have hm := hx _ (ix_mem xs (show k < xs.length by omega))
    rw [sum_take xs (by omega)]
    omega
def g_vBig : List AV → Prop × AV
  | [.bytes code] => (code.length ≤ 9223372036854775807, .bool (decide (65536 < code.length)))
  | _ => (False, .undef)
theorem g_vBig_eq (code : List UInt8) : g_vBig [.bytes code] = (code.length ≤ 9223372036854775807, .bool (decide (65536 < code.length))) := (rfl)
theorem vBig_ok (code : List UInt8) (hp : code.length ≤ 9223372036854775807) : SpecOK Tryz.prog 6 [.bytes code] (.bool (decide (65536 < code.length))) [] := by
  refine fun_ok (C := []) (hint := hintX [] [] 0 [] [] [] []) (TabOK.nil _) mixed Tryz.func6 rfl (by kernel_rfl) rfl ?_
  show codeA _ _ _ _ _ _ _ _
  simp only [go_sem, ↓reduceIte, Nat.reduceEqDiff, Nat.reduceBEq, Nat.reduceAdd, Nat.reduceSub, Nat.reduceLeDiff, Nat.reduceMul, Nat.reduceLT, Tryz.results6]
  rw [show decide ((65536 : Int) < code.length) = decide (65536 < code.length) from decide_eq_decide.2 (by omega)]
def t_vBig : Table := [(6, pureC g_vBig)]
theorem t_vBig_ok : TabOK Tryz.prog t_vBig := .cons Tryz.func6 (by kernel_rfl) (.pure (by intro args hp; unfold g_vBig at hp ⊢; split at hp <;> first | exact hp.elim | exact vBig_ok _ hp)) (.nil _)
attribute [go_sem] g_vBig_eq t_vBig
def g_vInts : List AV → Prop × AV
  | [.ints xs, .ints ys] => (xs.length ≤ 1048576000 ∧ ys.length ≤ 1048576000, .bool (decide (xs = ys)))
  | _ => (False, .undef)
theorem g_vInts_eq (xs ys : List Int) : g_vInts [.ints xs, .ints ys] = (xs.length ≤ 1048576000 ∧ ys.length ≤ 1048576000, .bool (decide (xs = ys))) := (rfl)
theorem vInts_ok (xs ys : List Int) (hp : xs.length ≤ 1048576000 ∧ ys.length ≤ 1048576000) : SpecOK Tryz.prog 18 [.ints xs, .ints ys] (.bool (decide (xs = ys))) [] := by
  refine fun_ok (C := []) (hint := hintX [] [] 0 [] [] [] []) (TabOK.nil _) mixed Tryz.func18 rfl (by kernel_rfl) rfl ?_
  show codeA _ _ _ _ _ _ _ _
  simp only [go_sem, ↓reduceIte, Nat.reduceEqDiff, Nat.reduceBEq, Nat.reduceAdd, Nat.reduceSub, Nat.reduceLeDiff, Nat.reduceMul, Nat.reduceLT, Tryz.results18]
  refine fork_intro (fun hb => ?_) (fun hb => ?_)
  · have hlen : xs.length = ys.length := by omega
    refine loop_intro (fun k : Nat => [(5, .int .i64 k), (0, .ints xs), (1, .ints ys)]) (fun _ => []) 0 (fun k => k ≤ xs.length ∧ xs.take k = ys.take k) (fun k => xs.length - k) 0 ⟨Nat.zero_le _, rfl⟩ (Nat.zero_le _) ?_ ?_
    · simp only [go_sem, ↓reduceIte, Nat.reduceEqDiff, Nat.reduceBEq, Nat.reduceAdd, Nat.reduceSub, Nat.reduceLeDiff, Nat.reduceMul, Nat.reduceLT]
      repeat' (first | refine fork_intro (fun hb => ?_) (fun hb => ?_) | refine partB_intro (fun hb => ?_) (fun hb => ?_) | refine And.intro ?_ ?_)
      all_goals first | exact True.intro | omega | with_reducible rfl | exact congrArg (AV.int _) (by omega)
    · rintro k ⟨hk, ht⟩
      simp only [go_sem, ↓reduceIte, Nat.reduceEqDiff, Nat.reduceBEq, Nat.reduceAdd, Nat.reduceSub, Nat.reduceLeDiff, Nat.reduceMul, Nat.reduceLT]
      refine fork_intro (fun hb => ?_) (fun hb => ?_)
      · have e := take_eq ht (ix_some xs (by omega)) (ix_some ys (show k < ys.length by omega))
        refine ⟨by omega, by omega, fork_intro (fun hc => ?_) (fun hc => ?_)⟩
        · have h2 := e.2 hc
          repeat' (first | refine fork_intro (fun hb => ?_) (fun hb => ?_) | refine partB_intro (fun hb => ?_) (fun hb => ?_) | refine And.intro ?_ ?_)
          all_goals first | exact True.intro | omega | with_reducible rfl | exact congrArg (AV.int _) (by omega) | (refine LoopEnd.intro (k + 1) (by first | omega | (first | exact ⟨by omega, h2⟩)) (by first | omega | (dsimp only; omega)) (by omega) ?_; simp only [go_sem, ↓reduceIte, Nat.reduceEqDiff, Nat.reduceBEq, Nat.reduceAdd, Nat.reduceSub, Nat.reduceLeDiff, Nat.reduceMul, Nat.reduceLT]; (repeat' (first | refine fork_intro (fun hb => ?_) (fun hb => ?_) | refine partB_intro (fun hb => ?_) (fun hb => ?_) | refine And.intro ?_ ?_)); all_goals first | exact True.intro | omega | with_reducible rfl | exact congrArg (AV.int _) (by omega))
        · rw [decide_eq_false (show ¬ xs = ys from fun h => hc (e.1 (by rw [h])))]
      · rw [show k = xs.length by omega, List.take_length, hlen, List.take_length] at ht
        rw [decide_eq_true ht]
  · rw [decide_eq_false (show ¬ xs = ys from fun h => hb (by rw [h]))]
def t_vInts : Table := [(18, pureC g_vInts)]
theorem t_vInts_ok : TabOK Tryz.prog t_vInts := .cons Tryz.func18 (by kernel_rfl) (.pure (by intro args hp; unfold g_vInts at hp ⊢; split at hp <;> first | exact hp.elim | exact vInts_ok _ _ hp)) (.nil _)
attribute [go_sem] g_vInts_eq t_vInts
def g_vHas : List AV → Prop × AV
  | [.ints xs, .int .i64 n] => (xs.length ≤ 1048576000, .bool (decide (n ∈ xs)))
  | _ => (False, .undef)
theorem g_vHas_eq (xs : List Int) (n : Int) : g_vHas [.ints xs, .int .i64 n] = (xs.length ≤ 1048576000, .bool (decide (n ∈ xs))) := (rfl)
theorem vHas_ok (xs : List Int) (n : Int) (hp : xs.length ≤ 1048576000) : SpecOK Tryz.prog 20 [.ints xs, .int .i64 n] (.bool (decide (n ∈ xs))) [] := by
  refine fun_ok (C := []) (hint := hintX [] [] 0 [] [] [] []) (TabOK.nil _) mixed Tryz.func20 rfl (by kernel_rfl) rfl ?_
  show codeA _ _ _ _ _ _ _ _
  simp only [go_sem, ↓reduceIte, Nat.reduceEqDiff, Nat.reduceBEq, Nat.reduceAdd, Nat.reduceSub, Nat.reduceLeDiff, Nat.reduceMul, Nat.reduceLT, Tryz.results20]
  refine loop_intro (fun k : Nat => [(0, .ints xs), (1, .int .i64 n), (5, .int .i64 k)]) (fun _ => []) 0 (fun k => k ≤ xs.length ∧ ∀ j : Nat, j < k → ix xs (j : Int) ≠ n) (fun k => xs.length - k) 0 ⟨Nat.zero_le _, fun j h => absurd h (Nat.not_lt_zero _)⟩ (by omega) ?_ ?_
  · simp only [go_sem, ↓reduceIte, Nat.reduceEqDiff, Nat.reduceBEq, Nat.reduceAdd, Nat.reduceSub, Nat.reduceLeDiff, Nat.reduceMul, Nat.reduceLT]
    repeat' (first | refine fork_intro (fun hb => ?_) (fun hb => ?_) | refine partB_intro (fun hb => ?_) (fun hb => ?_) | refine And.intro ?_ ?_)
    all_goals first | exact True.intro | omega | with_reducible rfl | exact congrArg (AV.int _) (by omega) | (first | rfl)
  · rintro k ⟨hk, ht⟩
    simp only [go_sem, ↓reduceIte, Nat.reduceEqDiff, Nat.reduceBEq, Nat.reduceAdd, Nat.reduceSub, Nat.reduceLeDiff, Nat.reduceMul, Nat.reduceLT]
    refine fork_intro (fun hc => ?_) (fun hc => ?_)
    · refine ⟨by omega, fork_intro (fun hd => ?_) (fun hd => ?_)⟩
      · rw [decide_eq_true (show n ∈ xs from hd ▸ ix_mem xs (by omega))]
      · have hsu := below_succ (q := fun j : Nat => ix xs (j : Int) ≠ n) (k := k) ht hd
        repeat' (first | refine fork_intro (fun hb => ?_) (fun hb => ?_) | refine partB_intro (fun hb => ?_) (fun hb => ?_) | refine And.intro ?_ ?_)
        all_goals first | exact True.intro | omega | with_reducible rfl | exact congrArg (AV.int _) (by omega) | (refine LoopEnd.intro (k + 1) (by first | omega | (first | exact ⟨by omega, hsu⟩)) (by first | omega | (dsimp only; omega)) (by omega) ?_; simp only [go_sem, ↓reduceIte, Nat.reduceEqDiff, Nat.reduceBEq, Nat.reduceAdd, Nat.reduceSub, Nat.reduceLeDiff, Nat.reduceMul, Nat.reduceLT]; (repeat' (first | refine fork_intro (fun hb => ?_) (fun hb => ?_) | refine partB_intro (fun hb => ?_) (fun hb => ?_) | refine And.intro ?_ ?_)); all_goals first | exact True.intro | omega | with_reducible rfl | exact congrArg (AV.int _) (by omega))
    · rw [decide_eq_false (fun hm => by obtain ⟨j, hj, e⟩ := mem_ix hm; exact ht j (by omega) e)]
def t_vHas : Table := [(20, pureC g_vHas)]
theorem t_vHas_ok : TabOK Tryz.prog t_vHas := .cons Tryz.func20 (by kernel_rfl) (.pure (by intro args hp; unfold g_vHas at hp ⊢; split at hp <;> first | exact hp.elim | exact vHas_ok _ _ hp)) (.nil _)
attribute [go_sem] g_vHas_eq t_vHas
def g_vSum : List AV → Prop × AV
  | [.ints xs] => (xs.length ≤ 1000000 ∧ ∀ x ∈ xs, -1000000000 ≤ x ∧ x ≤ 1000000000, .int .i64 xs.sum)
  | _ => (False, .undef)
theorem g_vSum_eq (xs : List Int) : g_vSum [.ints xs] = (xs.length ≤ 1000000 ∧ ∀ x ∈ xs, -1000000000 ≤ x ∧ x ≤ 1000000000, .int .i64 xs.sum) := (rfl)
theorem vSum_ok (xs : List Int) (hp : xs.length ≤ 1000000 ∧ ∀ x ∈ xs, -1000000000 ≤ x ∧ x ≤ 1000000000) : SpecOK Tryz.prog 22 [.ints xs] (.int .i64 xs.sum) [] := by
  refine fun_ok (C := []) (hint := hintX [] [] 0 [] [] [] []) (TabOK.nil _) mixed Tryz.func22 rfl (by kernel_rfl) rfl ?_
  show codeA _ _ _ _ _ _ _ _
  simp only [go_sem, ↓reduceIte, Nat.reduceEqDiff, Nat.reduceBEq, Nat.reduceAdd, Nat.reduceSub, Nat.reduceLeDiff, Nat.reduceMul, Nat.reduceLT, Tryz.results22]
  obtain ⟨hl, hx⟩ := hp
  refine loop_intro (fun k : Nat => [(3, .int .i64 (xs.take k).sum), (4, .int .i64 k), (0, .ints xs)]) (fun _ => []) 0 (fun k => k ≤ xs.length) (fun k => xs.length - k) 0 (Nat.zero_le _) (Nat.zero_le _) ?_ ?_
  · simp only [go_sem, ↓reduceIte, Nat.reduceEqDiff, Nat.reduceBEq, Nat.reduceAdd, Nat.reduceSub, Nat.reduceLeDiff, Nat.reduceMul, Nat.reduceLT]
    repeat' (first | refine fork_intro (fun hb => ?_) (fun hb => ?_) | refine partB_intro (fun hb => ?_) (fun hb => ?_) | refine And.intro ?_ ?_)
    all_goals first | exact True.intro | omega | with_reducible rfl | exact congrArg (AV.int _) (by omega) | (first | rfl)
  · intro k hk
    have hs := sum_take_bd hx hk
    simp only [go_sem, ↓reduceIte, Nat.reduceEqDiff, Nat.reduceBEq, Nat.reduceAdd, Nat.reduceSub, Nat.reduceLeDiff, Nat.reduceMul, Nat.reduceLT]
    refine fork_intro (fun hc => ?_) (fun hc => ?_)
    · have e := sum_take xs (k := k) (by omega)
      have hm := hx _ (ix_mem xs (show k < xs.length by omega))
      repeat' (first | refine fork_intro (fun hb => ?_) (fun hb => ?_) | refine partB_intro (fun hb => ?_) (fun hb => ?_) | refine And.intro ?_ ?_)
      all_goals first | exact True.intro | omega | with_reducible rfl | exact congrArg (AV.int _) (by omega) | (refine LoopEnd.intro (k + 1) (by first | omega) (by first | omega | (dsimp only; omega)) (by omega) ?_; simp only [go_sem, ↓reduceIte, Nat.reduceEqDiff, Nat.reduceBEq, Nat.reduceAdd, Nat.reduceSub, Nat.reduceLeDiff, Nat.reduceMul, Nat.reduceLT]; (repeat' (first | refine fork_intro (fun hb => ?_) (fun hb => ?_) | refine partB_intro (fun hb => ?_) (fun hb => ?_) | refine And.intro ?_ ?_)); all_goals first | exact True.intro | omega | with_reducible rfl | exact congrArg (AV.int _) (by omega) | (first | rfl | rw [e])) | (first | rfl | rw [e])
    · rw [show k = xs.length by omega, List.take_length]
def t_vSum : Table := [(22, pureC g_vSum)]
theorem t_vSum_ok : TabOK Tryz.prog t_vSum := .cons Tryz.func22 (by kernel_rfl) (.pure (by intro args hp; unfold g_vSum at hp ⊢; split at hp <;> first | exact hp.elim | exact vSum_ok _ hp)) (.nil _)
attribute [go_sem] g_vSum_eq t_vSum
/-- The numbers of a list in ascending order, each once. -/
def srtd (xs : List Int) (k : Nat) : List Int := ((List.range k).map fun q : Nat => (q : Int) - 1).filter fun x => decide (x ∈ xs)
theorem srtd_succ (xs : List Int) (k : Nat) : srtd xs (k + 1) = srtd xs k ++ if (k : Int) - 1 ∈ xs then [(k : Int) - 1] else [] := by
  unfold srtd
  rw [List.range_succ, List.map_append, List.filter_append]
  congr 1
  by_cases h : (k : Int) - 1 ∈ xs <;> simp [h]
theorem srtd_len (xs : List Int) : ∀ k, (srtd xs k).length ≤ k
  | 0 => Nat.le_refl _
  | k + 1 => by
    have := srtd_len xs k
    rw [srtd_succ, List.length_append]
    split <;> simp <;> omega
end Go.Proofs.YteefjdbdknkcjaaGreat
