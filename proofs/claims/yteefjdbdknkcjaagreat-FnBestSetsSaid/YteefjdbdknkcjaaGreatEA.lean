/- What the laws reckon with: lists held against each other, members, sums. -/
import Derived.Test.YteefjdbdknkcjaaGreatDC
import Derived.Test.YteefjdbdknkcjaaGreatPlB
namespace Go.Proofs.YteefjdbdknkcjaaGreat
open Go.Vc
set_option maxRecDepth 100000
set_option maxHeartbeats 1600000
set_option linter.unusedSimpArgs false
set_option linter.unusedVariables false

theorem sum_take_bd {xs : List Int} (hx : ∀ x ∈ xs, -1000000000 <= x /\ x <= 1000000000) : ∀ {k : Nat}, k <= xs.length -> -1000000000 * (k : Int) <= (xs.take k).sum /\ (xs.take k).sum <= 1000000000 * (k : Int)
  | 0, _ => by simp
  | k + 1, h => by
    have ih := sum_take_bd hx (k := k) (by omega)
    have hm := hx _ (ix_mem xs (show k < xs.length by omega))
    rw [sum_take xs (by omega)]
    omega
def g_rBig : List AV -> Prop × AV
  | [.bytes code] => (code.length <= 9223372036854775807, .bool (decide (65536 < code.length)))
  | _ => (False, .undef)
theorem g_rBig_eq (code : List UInt8) : g_rBig [.bytes code] = (code.length <= 9223372036854775807, .bool (decide (65536 < code.length))) := (rfl)
theorem rBig_ok (code : List UInt8) (hp : code.length <= 9223372036854775807) : SpecOK Tryz.prog 26 [.bytes code] (.bool (decide (65536 < code.length))) [] := by
  refine fun_ok (C := []) (hint := hintX [] [] 0 [] [] [] []) (TabOK.nil _) mixed Tryz.func26 rfl (by kernel_rfl) rfl ?_
  show codeA _ _ _ _ _ _ _ _
  simp only [go_sem, Tryz.results26]
  rw [show decide ((65536 : Int) < code.length) = decide (65536 < code.length) from decide_eq_decide.2 (by omega)]
def t_rBig : Table := [(26, pureC g_rBig)]
theorem t_rBig_ok : TabOK Tryz.prog t_rBig := .cons Tryz.func26 (by kernel_rfl) (.pure (by intro args hp; unfold g_rBig at hp ⊢; split at hp <;> first | exact hp.elim | exact rBig_ok _ hp)) (.nil _)
attribute [go_sem] g_rBig_eq t_rBig
def g_rInts : List AV -> Prop × AV
  | [.ints xs, .ints ys] => (xs.length <= 1048576000 /\ ys.length <= 1048576000, .bool (decide (xs = ys)))
  | _ => (False, .undef)
theorem g_rInts_eq (xs ys : List Int) : g_rInts [.ints xs, .ints ys] = (xs.length <= 1048576000 /\ ys.length <= 1048576000, .bool (decide (xs = ys))) := (rfl)
theorem rInts_ok (xs ys : List Int) (hp : xs.length <= 1048576000 /\ ys.length <= 1048576000) : SpecOK Tryz.prog 31 [.ints xs, .ints ys] (.bool (decide (xs = ys))) [] := by
  refine fun_ok (C := []) (hint := hintX [] [] 0 [] [] [] []) (TabOK.nil _) mixed Tryz.func31 rfl (by kernel_rfl) rfl ?_
  show codeA _ _ _ _ _ _ _ _
  simp only [go_sem, Tryz.results31]
  refine fork_intro (fun hb => ?_) (fun hb => ?_)
  · have hlen : xs.length = ys.length := by omega
    refine loop_intro (fun k : Nat => [(5, .int .i64 k), (0, .ints xs), (1, .ints ys)]) (fun _ => []) 0 (fun k => k <= xs.length /\ xs.take k = ys.take k) (fun k => xs.length - k) 0 ⟨Nat.zero_le _, rfl⟩ (Nat.zero_le _) ?_ ?_
    · simp only [go_sem]
      repeat' (first | refine fork_intro (fun hb => ?_) (fun hb => ?_) | refine partB_intro (fun hb => ?_) (fun hb => ?_) | refine And.intro ?_ ?_)
      all_goals first | exact True.intro | omega | with_reducible rfl | exact congrArg (AV.int _) (by omega)
    · rintro k ⟨hk, ht⟩
      simp only [go_sem]
      refine fork_intro (fun hb => ?_) (fun hb => ?_)
      · have e := take_eq ht (ix_some xs (by omega)) (ix_some ys (show k < ys.length by omega))
        refine ⟨by omega, by omega, fork_intro (fun hc => ?_) (fun hc => ?_)⟩
        · have h2 := e.2 hc
          repeat' (first | refine fork_intro (fun hb => ?_) (fun hb => ?_) | refine partB_intro (fun hb => ?_) (fun hb => ?_) | refine And.intro ?_ ?_)
          all_goals first | exact True.intro | omega | with_reducible rfl | exact congrArg (AV.int _) (by omega) | (refine LoopEnd.intro (k + 1) (by first | omega | (first | exact ⟨by omega, h2⟩)) (by first | omega | (dsimp only; omega)) (by omega) ?_; simp only [go_sem]; (repeat' (first | refine fork_intro (fun hb => ?_) (fun hb => ?_) | refine partB_intro (fun hb => ?_) (fun hb => ?_) | refine And.intro ?_ ?_)); all_goals first | exact True.intro | omega | with_reducible rfl | exact congrArg (AV.int _) (by omega))
        · rw [decide_eq_false (show ¬ xs = ys from fun h => hc (e.1 (by rw [h])))]
      · rw [show k = xs.length by omega, List.take_length, hlen, List.take_length] at ht
        rw [decide_eq_true ht]
  · rw [decide_eq_false (show ¬ xs = ys from fun h => hb (by rw [h]))]
def t_rInts : Table := [(31, pureC g_rInts)]
theorem t_rInts_ok : TabOK Tryz.prog t_rInts := .cons Tryz.func31 (by kernel_rfl) (.pure (by intro args hp; unfold g_rInts at hp ⊢; split at hp <;> first | exact hp.elim | exact rInts_ok _ _ hp)) (.nil _)
attribute [go_sem] g_rInts_eq t_rInts
def g_rHas : List AV -> Prop × AV
  | [.ints xs, .int .i64 n] => (xs.length <= 1048576000, .bool (decide (n ∈ xs)))
  | _ => (False, .undef)
theorem g_rHas_eq (xs : List Int) (n : Int) : g_rHas [.ints xs, .int .i64 n] = (xs.length <= 1048576000, .bool (decide (n ∈ xs))) := (rfl)
theorem rHas_ok (xs : List Int) (n : Int) (hp : xs.length <= 1048576000) : SpecOK Tryz.prog 93 [.ints xs, .int .i64 n] (.bool (decide (n ∈ xs))) [] := by
  refine fun_ok (C := []) (hint := hintX [] [] 0 [] [] [] []) (TabOK.nil _) mixed Tryz.func93 rfl (by kernel_rfl) rfl ?_
  show codeA _ _ _ _ _ _ _ _
  simp only [go_sem, Tryz.results93]
  refine loop_intro (fun k : Nat => [(0, .ints xs), (1, .int .i64 n), (5, .int .i64 k)]) (fun _ => []) 0 (fun k => k <= xs.length /\ ∀ j : Nat, j < k -> ix xs (j : Int) ≠ n) (fun k => xs.length - k) 0 ⟨Nat.zero_le _, fun j h => absurd h (Nat.not_lt_zero _)⟩ (by omega) ?_ ?_
  · simp only [go_sem]
    repeat' (first | refine fork_intro (fun hb => ?_) (fun hb => ?_) | refine partB_intro (fun hb => ?_) (fun hb => ?_) | refine And.intro ?_ ?_)
    all_goals first | exact True.intro | omega | with_reducible rfl | exact congrArg (AV.int _) (by omega) | (first | rfl)
  · rintro k ⟨hk, ht⟩
    simp only [go_sem]
    refine fork_intro (fun hc => ?_) (fun hc => ?_)
    · refine ⟨by omega, fork_intro (fun hd => ?_) (fun hd => ?_)⟩
      · rw [decide_eq_true (show n ∈ xs from hd ▸ ix_mem xs (by omega))]
      · have hsu := below_succ (q := fun j : Nat => ix xs (j : Int) ≠ n) (k := k) ht hd
        repeat' (first | refine fork_intro (fun hb => ?_) (fun hb => ?_) | refine partB_intro (fun hb => ?_) (fun hb => ?_) | refine And.intro ?_ ?_)
        all_goals first | exact True.intro | omega | with_reducible rfl | exact congrArg (AV.int _) (by omega) | (refine LoopEnd.intro (k + 1) (by first | omega | (first | exact ⟨by omega, hsu⟩)) (by first | omega | (dsimp only; omega)) (by omega) ?_; simp only [go_sem]; (repeat' (first | refine fork_intro (fun hb => ?_) (fun hb => ?_) | refine partB_intro (fun hb => ?_) (fun hb => ?_) | refine And.intro ?_ ?_)); all_goals first | exact True.intro | omega | with_reducible rfl | exact congrArg (AV.int _) (by omega))
    · rw [decide_eq_false (fun hm => by obtain ⟨j, hj, e⟩ := mem_ix hm; exact ht j (by omega) e)]
def t_rHas : Table := [(93, pureC g_rHas)]
theorem t_rHas_ok : TabOK Tryz.prog t_rHas := .cons Tryz.func93 (by kernel_rfl) (.pure (by intro args hp; unfold g_rHas at hp ⊢; split at hp <;> first | exact hp.elim | exact rHas_ok _ _ hp)) (.nil _)
attribute [go_sem] g_rHas_eq t_rHas
/-- The numbers of a list in ascending order, each once. -/
def srtd (xs : List Int) (k : Nat) : List Int := ((List.range k).map fun q : Nat => (q : Int) - 1).filter fun x => decide (x ∈ xs)
theorem srtd_succ (xs : List Int) (k : Nat) : srtd xs (k + 1) = srtd xs k ++ if (k : Int) - 1 ∈ xs then [(k : Int) - 1] else [] := by
  unfold srtd
  rw [List.range_succ, List.map_append, List.filter_append]
  congr 1
  by_cases h : (k : Int) - 1 ∈ xs <;> simp [h]
theorem srtd_len (xs : List Int) : ∀ k, (srtd xs k).length <= k
  | 0 => Nat.le_refl _
  | k + 1 => by
    have := srtd_len xs k
    rw [srtd_succ, List.length_append]
    split <;> simp <;> omega
end Go.Proofs.YteefjdbdknkcjaaGreat
