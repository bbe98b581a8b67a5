/- Best sets: what the law asks. -/
import Derived.Test.YteefjdbdknkcjaaGreatBS
import Derived.Test.YteefjdbdknkcjaaGreatPlY
import Derived.Test.YteefjdbdknkcjaaGreatA9
import Derived.Test.YteefjdbdknkcjaaGreatA10
import Derived.Test.YteefjdbdknkcjaaGreatA18
import Derived.Test.YteefjdbdknkcjaaGreatA24i
namespace Go.Proofs.YteefjdbdknkcjaaGreat
open Go.Vc
set_option maxRecDepth 100000
set_option maxHeartbeats 1600000
set_option linter.unusedSimpArgs false
set_option linter.unusedVariables false

def metF (o : List Int) (d : List (List Int)) : Nat -> Bool
  | 0 => false
  | c + 1 => metF o d c || (decide (total o d (bagL (c + 1)) = total o d (bestL o d)) && (bagL (c + 1)).all fun x => decide (x ∈ neededL o d))
theorem metF_yes {o : List Int} {d : List (List Int)} {b : Nat} (h0 : 0 < b) (h1 : total o d (bagL b) = total o d (bestL o d)) (h2 : ∀ x ∈ bagL b, x ∈ neededL o d) : ∀ c, b <= c -> metF o d c = true
  | 0, h => by omega
  | c + 1, h => by
    unfold metF
    by_cases e : b <= c
    · rw [metF_yes h0 h1 h2 c e]; rfl
    · obtain rfl : b = c + 1 := by omega
      rw [decide_eq_true h1, List.all_eq_true.2 (fun x hx => decide_eq_true (h2 x hx))]; simp
theorem metF_all {o : List Int} {d : List (List Int)} (hf : FieldOK o d) : metF o d (2 ^ o.length - 1) = true := by
  obtain ⟨b, h0, h1, h2, h3⟩ := met_ex hf
  exact metF_yes h0 h2 h3 _ (by omega)
def g_lawFnBestSets : List AV -> Prop × AV
  | [.bytes code] => (code.length <= 9223372036854775807, .bool true)
  | _ => (False, .undef)
theorem g_lawFnBestSets_eq (code : List UInt8) : g_lawFnBestSets [.bytes code] = (code.length <= 9223372036854775807, .bool true) := (rfl)
theorem lawFnBestSets_ok (code : List UInt8) (hp : code.length <= 9223372036854775807) : SpecOK Tryz.prog 4 [.bytes code] (.bool true) [] := by
  refine fun_ok (C := t_rBig ++ t_drawNeeded ++ t_neededI ++ t_neededS ++ t_isF ++ t_rInts ++ t_bestSetI ++ t_bestSetS ++ t_bestTotalI ++ t_bestTotalS ++ t_drawSwap ++ t_swapOfI ++ t_swapOfS ++ t_totalOfI ++ t_rPart) (hint := hintX [3, 16, 210] [(4, [.frb 3, .cut [0, 3]]), (8, [.cut [0, 3, 4, 5]]), (12, [.cut [0, 3, 4, 5, 8]]), (16, [.cut [0, 3, 4, 5, 8, 12]]), (17, [.frb 16, .cut [3, 4, 5, 8, 12, 16, 17, 18, 19]]), (21, [.cut [3, 4, 5, 8, 12, 16, 17, 18, 19, 20, 21]]), (27, [.cut [3, 4, 5, 8, 12]])] 0 [27, 1000027, 35, 1000035] [] [] []) (((((((((((((((t_rBig_ok).append t_drawNeeded_ok).append t_neededI_ok).append t_neededS_ok).append t_isF_ok).append t_rInts_ok).append t_bestSetI_ok).append t_bestSetS_ok).append t_bestTotalI_ok).append t_bestTotalS_ok).append t_drawSwap_ok).append t_swapOfI_ok).append t_swapOfS_ok).append t_totalOfI_ok).append t_rPart_ok) mixed Tryz.func4 rfl (by kernel_rfl) rfl ?_
  show codeA _ _ _ _ _ _ _ _
  simp only [go_sem, Tryz.results4]
  refine ⟨hp, fork_intro (fun _ => trivial) (fun hc => ⟨by omega, fun z hz => ?_⟩)⟩
  obtain ⟨b1, b2, b3⟩ := hz
  generalize z.xs = o at *
  generalize z.xss = d at *
  have hpre : o.length <= 1048576000 /\ d.length <= 1048576000 /\ ∀ x ∈ d, x.length <= 1048576000 := ⟨by omega, by omega, fun x hx => by have := b3 x hx; omega⟩
  have hl1 : (bif good o d then neededL o d else []).length <= 1000 := by
    cases good o d
    · simp
    · have := sel_len (fun a => needA o d a) o.length
      show (neededL o d).length <= _
      have e : neededL o d = sel (fun a => needA o d a) o.length := rfl
      rw [e]; omega
  have hl2 : (bif good o d then bestL o d else []).length <= 1000 := by
    cases hg : good o d
    · simp
    · have := (bestL_set (good_iff.1 hg)).len (good_iff.1 hg).n7
      rw [cond_true]; omega
  refine stop_intro ?_
  simp only [go_sem, ↓partB_true, ↓partB_false, decide_true, Bool.not_true, Bool.not_false, beq_self_eq_true, eq_self]
  repeat' (first | exact hpre | omega | apply partB_self | apply forkP_true | (with_reducible refine And.intro ?_ ?_))
  refine stop_intro ?_
  simp only [go_sem, ↓partB_true, ↓partB_false, decide_true, Bool.not_true, Bool.not_false, beq_self_eq_true, eq_self]
  repeat' (first | exact hpre | omega | apply partB_self | apply forkP_true | (with_reducible refine And.intro ?_ ?_))
  refine stop_intro ?_
  simp only [go_sem, ↓partB_true, ↓partB_false, decide_true, Bool.not_true, Bool.not_false, beq_self_eq_true, eq_self]
  repeat' (first | exact hpre | omega | apply partB_self | apply forkP_true | (with_reducible refine And.intro ?_ ?_))
  refine stop_intro ?_
  simp only [go_sem, ↓partB_true, ↓partB_false, decide_true, Bool.not_true, Bool.not_false, beq_self_eq_true, eq_self]
  refine ⟨by omega, fun z2 hz2 => ?_⟩
  obtain ⟨⟨c1, c2, c3⟩, c4, c5, c6⟩ := hz2
  generalize z2.xs = o2 at *
  generalize z2.xss = d2 at *
  generalize z2.ys = S at *
  generalize z2.n = a at *
  generalize z2.k = b at *
  have hpre2 : (o2.length <= 1048576000 /\ d2.length <= 1048576000 /\ ∀ x ∈ d2, x.length <= 1048576000) := ⟨by omega, by omega, fun x hx => by have := c3 x hx; omega⟩
  have hl3 : (bif swapB o2 d2 S a b then swapL S a b else []).length <= 1048576 := by
    cases hs : swapB o2 d2 S a b
    · simp
    · have h1 : (without S a).length <= S.length := List.length_filter_le _ _
      have h2 := putF_le (xs := without S a) (n := b)
      rw [cond_true]; unfold swapL; omega
  refine stop_intro ?_
  simp only [go_sem, ↓partB_true, ↓partB_false, decide_true, Bool.not_true, Bool.not_false, beq_self_eq_true, eq_self]
  repeat' (first | exact hpre2 | omega | apply partB_self | apply forkP_true | (with_reducible refine And.intro ?_ ?_))
  refine stop_intro ?_
  simp only [go_sem, ↓partB_true, ↓partB_false, decide_true, Bool.not_true, Bool.not_false, beq_self_eq_true, eq_self]
  refine partB_intro (fun hs => ?_) (fun hs => ?_)
  · rw [hs, cond_true] at hl3 ⊢
    have hs0 := hs
    simp only [swapB, Bool.and_eq_true, decide_eq_true_eq, Bool.not_eq_true', decide_eq_false_iff_not] at hs0
    obtain ⟨ho2, ha, hb, hbb⟩ := hs0
    obtain ⟨hf2, hS2⟩ := opened_set ho2
    have hu2 := hS2.up
    have hab := hS2.bd a ha
    have hW : SetOK o2.length (swapL S a b) := ⟨up_swap hu2 a b, List.length_pos_of_mem (mem_swap.2 (.inl rfl)), fun x hx => by
      rcases mem_swap.1 hx with rfl | ⟨hx, _⟩
      · omega
      · exact hS2.bd x hx⟩
    have hna : a ∉ swapL S a b := fun h => by
      rcases mem_swap.1 h with e | ⟨_, e⟩
      · exact hb (e ▸ ha)
      · exact e rfl
    have hs1 : swapB o2 d2 (swapL S a b) b a = true := by
      simp only [swapB, Bool.and_eq_true, decide_eq_true_eq, Bool.not_eq_true', decide_eq_false_iff_not]
      exact ⟨hW.opened hf2, mem_swap.2 (.inl rfl), hna, by omega⟩
    have hg2 : good o2 d2 = true := good_iff.2 hf2
    have hbk := swap_back hu2 ha hb
    have hbl := best_le hf2 hS2
    simp only [go_sem, hs1, hbk, ho2, hg2, cond_true, ↓partB_true, ↓partB_false, decide_true, Bool.not_true, Bool.not_false, beq_self_eq_true, eq_self]
    refine ⟨⟨hpre2, hl3⟩, ⟨hpre2, by omega⟩, hpre2, ?_⟩
    refine ⟨by omega, fork_intro (fun _ => fork_intro (fun h => by omega) (fun _ => ?_)) (fun h => (h trivial).elim)⟩
    refine stop_intro ?_
    simp only [go_sem, ↓partB_true, ↓partB_false, decide_true, Bool.not_true, Bool.not_false, beq_self_eq_true, eq_self]
    refine partB_intro (fun hg => ?_) (fun _ => trivial)
    have hf := good_iff.1 hg
    have hB := bestL_set hf
    have hBo := hB.opened hf
    have hBl := hB.len hf.n7
    have hn7 := hf.n7
    have hn1 := hf.n1
    have hp7 := pow_7 o.length hn7
    have hpb := pow_ge2 o.length hn1
    rw [hg, cond_true] at hl1
    simp only [go_sem, hg, hBo, cond_true, ↓partB_true, ↓partB_false, decide_true, Bool.not_true, Bool.not_false, beq_self_eq_true, eq_self]
    refine ⟨⟨hpre, by omega⟩, fork_intro (fun _ => ?_) (fun h => (h trivial).elim)⟩
    refine loop_intro (fun c : Nat => [(33, .int .i64 ((c + 1 : Nat) : Int)), (32, .bool (metF o d c)), (12, .int .i64 (total o d (bestL o d))), (4, .ints (neededL o d)), (3, .iptr [.ints o, .rows d])]) (fun _ => []) 5 (fun c => c <= 2 ^ o.length - 1) (fun c => 2 ^ o.length - 1 - c) 0 (by omega) (by omega) ?_ ?_
    · simp only [go_sem]
      repeat' (first | refine fork_intro (fun hb => ?_) (fun hb => ?_) | refine partB_intro (fun hb => ?_) (fun hb => ?_) | refine And.intro ?_ ?_)
      all_goals first | exact True.intro | omega | with_reducible rfl | exact congrArg (AV.int _) (by omega) | (first | rfl)
    intro c hc
    simp only [go_sem]
    rw [hp7.2.2]
    refine ⟨by omega, fork_intro (fun h1 => ?_) (fun h1 => ?_)⟩
    · have hn2 : c + 1 < 2 ^ o.length := by omega
      have eb : sel (c + 1).testBit o.length = bagL (c + 1) := (bagL_eq hn2 (by omega)).symm
      have hSc : SetOK o.length (bagL (c + 1)) := bagL_set hn7 (Nat.succ_pos c) hn2
      have hSo := hSc.opened hf
      have hSl := hSc.len hn7
      have hle := best_le hf hSc
      refine loop_intro (fun x : Nat => [(35, .int .i64 x), (34, .sl 5), (33, .int .i64 ((c + 1 : Nat) : Int)), (32, .bool (metF o d c)), (12, .int .i64 (total o d (bestL o d))), (4, .ints (neededL o d)), (3, .iptr [.ints o, .rows d])]) (fun x => [(5, .arr (.ints (sel (c + 1).testBit x)))]) 6 (fun x => x <= o.length) (fun x => o.length - x) 0 (by omega) (by omega) ?_ ?_
      · simp only [go_sem]
        repeat' (first | refine fork_intro (fun hb => ?_) (fun hb => ?_) | refine partB_intro (fun hb => ?_) (fun hb => ?_) | refine And.intro ?_ ?_)
        all_goals first | exact True.intro | omega | with_reducible rfl | exact congrArg (AV.int _) (by omega) | (first | rfl)
      · intro x hx
        have hs := shr_le (c + 1) x
        have hsl := sel_len (c + 1).testBit x
        have hb1 := bit_one (c + 1) x
        simp only [go_sem]
        refine fork_intro (fun hd => ?_) (fun hd => ?_)
        · simp only [shr_nat, bitN_and, show Int.toNat 1 = 1 from rfl]
          refine ⟨by omega, ⟨by omega, by omega⟩, fork_intro (fun hd => ?_) (fun hd => ?_)⟩
          · rw [decide_eq_true hd] at hb1
            have e := sel_t (p := (c + 1).testBit) (n := x) hb1.symm
            repeat' (first | refine fork_intro (fun hb => ?_) (fun hb => ?_) | refine partB_intro (fun hb => ?_) (fun hb => ?_) | refine And.intro ?_ ?_)
            all_goals first | exact True.intro | omega | with_reducible rfl | exact congrArg (AV.int _) (by omega) | (refine LoopEnd.intro (x + 1) (by first | omega) (by first | omega | (dsimp only; omega)) (by omega) ?_; simp only [go_sem]; (repeat' (first | refine fork_intro (fun hb => ?_) (fun hb => ?_) | refine partB_intro (fun hb => ?_) (fun hb => ?_) | refine And.intro ?_ ?_)); all_goals first | exact True.intro | omega | with_reducible rfl | exact congrArg (AV.int _) (by omega) | (first | rw [e])) | (first | rw [e])
          · rw [decide_eq_false hd] at hb1
            have e := sel_f (p := (c + 1).testBit) (n := x) hb1.symm
            repeat' (first | refine fork_intro (fun hb => ?_) (fun hb => ?_) | refine partB_intro (fun hb => ?_) (fun hb => ?_) | refine And.intro ?_ ?_)
            all_goals first | exact True.intro | omega | with_reducible rfl | exact congrArg (AV.int _) (by omega) | (refine LoopEnd.intro (x + 1) (by first | omega) (by first | omega | (dsimp only; omega)) (by omega) ?_; simp only [go_sem]; (repeat' (first | refine fork_intro (fun hb => ?_) (fun hb => ?_) | refine partB_intro (fun hb => ?_) (fun hb => ?_) | refine And.intro ?_ ?_)); all_goals first | exact True.intro | omega | with_reducible rfl | exact congrArg (AV.int _) (by omega) | (first | rw [e])) | (first | rw [e])
        · rw [show x = o.length by omega, eb]
          simp only [go_sem, hSo, cond_true, ↓partB_true, ↓partB_false]
          refine ⟨⟨hpre, by omega⟩, fork_intro (fun h => by omega) (fun _ => partB_intro (fun hm => ?_) (fun hm => ?_))⟩
          · have e : metF o d (c + 1) = true := by unfold metF; rw [hm]; rfl
            refine ⟨by omega, ?_⟩
            refine LoopEnd.intro (c + 1) (by omega) (by omega) (by omega) ?_
            simp only [go_sem]
            repeat' (first | refine fork_intro (fun hb => ?_) (fun hb => ?_) | refine partB_intro (fun hb => ?_) (fun hb => ?_) | refine And.intro ?_ ?_)
            all_goals first | trivial | rfl | omega | rw [e]
          · refine fork_intro (fun ht => ?_) (fun ht => ?_)
            · have e : metF o d (c + 1) = (bagL (c + 1)).all fun x => decide (x ∈ neededL o d) := by
                show (metF o d c || _) = _
                rw [hm, decide_eq_true ht, Bool.false_or, Bool.true_and]
              refine ⟨⟨by omega, by omega⟩, by omega, ?_⟩
              refine LoopEnd.intro (c + 1) (by omega) (by omega) (by omega) ?_
              simp only [go_sem]
              repeat' (first | refine fork_intro (fun hb => ?_) (fun hb => ?_) | refine partB_intro (fun hb => ?_) (fun hb => ?_) | refine And.intro ?_ ?_)
              all_goals first | trivial | rfl | omega | rw [e]
            · have e : metF o d (c + 1) = false := by unfold metF; rw [hm, decide_eq_false ht]; rfl
              refine ⟨by omega, ?_⟩
              refine LoopEnd.intro (c + 1) (by omega) (by omega) (by omega) ?_
              simp only [go_sem]
              repeat' (first | refine fork_intro (fun hb => ?_) (fun hb => ?_) | refine partB_intro (fun hb => ?_) (fun hb => ?_) | refine And.intro ?_ ?_)
              all_goals first | trivial | rfl | omega | rw [e]
    · have e : c = 2 ^ o.length - 1 := by omega
      rw [e, metF_all hf]
  · refine stop_intro ?_
    simp only [go_sem, ↓partB_true, ↓partB_false, decide_true, Bool.not_true, Bool.not_false, beq_self_eq_true, eq_self]
    refine partB_intro (fun hg => ?_) (fun _ => trivial)
    have hf := good_iff.1 hg
    have hB := bestL_set hf
    have hBo := hB.opened hf
    have hBl := hB.len hf.n7
    have hn7 := hf.n7
    have hn1 := hf.n1
    have hp7 := pow_7 o.length hn7
    have hpb := pow_ge2 o.length hn1
    rw [hg, cond_true] at hl1
    simp only [go_sem, hg, hBo, cond_true, ↓partB_true, ↓partB_false, decide_true, Bool.not_true, Bool.not_false, beq_self_eq_true, eq_self]
    refine ⟨⟨hpre, by omega⟩, fork_intro (fun _ => ?_) (fun h => (h trivial).elim)⟩
    refine loop_intro (fun c : Nat => [(33, .int .i64 ((c + 1 : Nat) : Int)), (32, .bool (metF o d c)), (12, .int .i64 (total o d (bestL o d))), (4, .ints (neededL o d)), (3, .iptr [.ints o, .rows d])]) (fun _ => []) 5 (fun c => c <= 2 ^ o.length - 1) (fun c => 2 ^ o.length - 1 - c) 0 (by omega) (by omega) ?_ ?_
    · simp only [go_sem]
      repeat' (first | refine fork_intro (fun hb => ?_) (fun hb => ?_) | refine partB_intro (fun hb => ?_) (fun hb => ?_) | refine And.intro ?_ ?_)
      all_goals first | exact True.intro | omega | with_reducible rfl | exact congrArg (AV.int _) (by omega) | (first | rfl)
    intro c hc
    simp only [go_sem]
    rw [hp7.2.2]
    refine ⟨by omega, fork_intro (fun h1 => ?_) (fun h1 => ?_)⟩
    · have hn2 : c + 1 < 2 ^ o.length := by omega
      have eb : sel (c + 1).testBit o.length = bagL (c + 1) := (bagL_eq hn2 (by omega)).symm
      have hSc : SetOK o.length (bagL (c + 1)) := bagL_set hn7 (Nat.succ_pos c) hn2
      have hSo := hSc.opened hf
      have hSl := hSc.len hn7
      have hle := best_le hf hSc
      refine loop_intro (fun x : Nat => [(35, .int .i64 x), (34, .sl 5), (33, .int .i64 ((c + 1 : Nat) : Int)), (32, .bool (metF o d c)), (12, .int .i64 (total o d (bestL o d))), (4, .ints (neededL o d)), (3, .iptr [.ints o, .rows d])]) (fun x => [(5, .arr (.ints (sel (c + 1).testBit x)))]) 6 (fun x => x <= o.length) (fun x => o.length - x) 0 (by omega) (by omega) ?_ ?_
      · simp only [go_sem]
        repeat' (first | refine fork_intro (fun hb => ?_) (fun hb => ?_) | refine partB_intro (fun hb => ?_) (fun hb => ?_) | refine And.intro ?_ ?_)
        all_goals first | exact True.intro | omega | with_reducible rfl | exact congrArg (AV.int _) (by omega) | (first | rfl)
      · intro x hx
        have hs := shr_le (c + 1) x
        have hsl := sel_len (c + 1).testBit x
        have hb1 := bit_one (c + 1) x
        simp only [go_sem]
        refine fork_intro (fun hd => ?_) (fun hd => ?_)
        · simp only [shr_nat, bitN_and, show Int.toNat 1 = 1 from rfl]
          refine ⟨by omega, ⟨by omega, by omega⟩, fork_intro (fun hd => ?_) (fun hd => ?_)⟩
          · rw [decide_eq_true hd] at hb1
            have e := sel_t (p := (c + 1).testBit) (n := x) hb1.symm
            repeat' (first | refine fork_intro (fun hb => ?_) (fun hb => ?_) | refine partB_intro (fun hb => ?_) (fun hb => ?_) | refine And.intro ?_ ?_)
            all_goals first | exact True.intro | omega | with_reducible rfl | exact congrArg (AV.int _) (by omega) | (refine LoopEnd.intro (x + 1) (by first | omega) (by first | omega | (dsimp only; omega)) (by omega) ?_; simp only [go_sem]; (repeat' (first | refine fork_intro (fun hb => ?_) (fun hb => ?_) | refine partB_intro (fun hb => ?_) (fun hb => ?_) | refine And.intro ?_ ?_)); all_goals first | exact True.intro | omega | with_reducible rfl | exact congrArg (AV.int _) (by omega) | (first | rw [e])) | (first | rw [e])
          · rw [decide_eq_false hd] at hb1
            have e := sel_f (p := (c + 1).testBit) (n := x) hb1.symm
            repeat' (first | refine fork_intro (fun hb => ?_) (fun hb => ?_) | refine partB_intro (fun hb => ?_) (fun hb => ?_) | refine And.intro ?_ ?_)
            all_goals first | exact True.intro | omega | with_reducible rfl | exact congrArg (AV.int _) (by omega) | (refine LoopEnd.intro (x + 1) (by first | omega) (by first | omega | (dsimp only; omega)) (by omega) ?_; simp only [go_sem]; (repeat' (first | refine fork_intro (fun hb => ?_) (fun hb => ?_) | refine partB_intro (fun hb => ?_) (fun hb => ?_) | refine And.intro ?_ ?_)); all_goals first | exact True.intro | omega | with_reducible rfl | exact congrArg (AV.int _) (by omega) | (first | rw [e])) | (first | rw [e])
        · rw [show x = o.length by omega, eb]
          simp only [go_sem, hSo, cond_true, ↓partB_true, ↓partB_false]
          refine ⟨⟨hpre, by omega⟩, fork_intro (fun h => by omega) (fun _ => partB_intro (fun hm => ?_) (fun hm => ?_))⟩
          · have e : metF o d (c + 1) = true := by unfold metF; rw [hm]; rfl
            refine ⟨by omega, ?_⟩
            refine LoopEnd.intro (c + 1) (by omega) (by omega) (by omega) ?_
            simp only [go_sem]
            repeat' (first | refine fork_intro (fun hb => ?_) (fun hb => ?_) | refine partB_intro (fun hb => ?_) (fun hb => ?_) | refine And.intro ?_ ?_)
            all_goals first | trivial | rfl | omega | rw [e]
          · refine fork_intro (fun ht => ?_) (fun ht => ?_)
            · have e : metF o d (c + 1) = (bagL (c + 1)).all fun x => decide (x ∈ neededL o d) := by
                show (metF o d c || _) = _
                rw [hm, decide_eq_true ht, Bool.false_or, Bool.true_and]
              refine ⟨⟨by omega, by omega⟩, by omega, ?_⟩
              refine LoopEnd.intro (c + 1) (by omega) (by omega) (by omega) ?_
              simp only [go_sem]
              repeat' (first | refine fork_intro (fun hb => ?_) (fun hb => ?_) | refine partB_intro (fun hb => ?_) (fun hb => ?_) | refine And.intro ?_ ?_)
              all_goals first | trivial | rfl | omega | rw [e]
            · have e : metF o d (c + 1) = false := by unfold metF; rw [hm, decide_eq_false ht]; rfl
              refine ⟨by omega, ?_⟩
              refine LoopEnd.intro (c + 1) (by omega) (by omega) (by omega) ?_
              simp only [go_sem]
              repeat' (first | refine fork_intro (fun hb => ?_) (fun hb => ?_) | refine partB_intro (fun hb => ?_) (fun hb => ?_) | refine And.intro ?_ ?_)
              all_goals first | trivial | rfl | omega | rw [e]
    · have e : c = 2 ^ o.length - 1 := by omega
      rw [e, metF_all hf]
def t_lawFnBestSets : Table := [(4, pureC g_lawFnBestSets)]
theorem t_lawFnBestSets_ok : TabOK Tryz.prog t_lawFnBestSets := .cons Tryz.func4 (by kernel_rfl) (.pure (by intro args hp; unfold g_lawFnBestSets at hp ⊢; split at hp <;> first | exact hp.elim | exact lawFnBestSets_ok _ hp)) (.nil _)
attribute [go_sem] g_lawFnBestSets_eq t_lawFnBestSets
end Go.Proofs.YteefjdbdknkcjaaGreat
