/- All sets in order, the least one: both packages say the same. -/
import Derived.Test.YtgcbdpehnonghaaA20b
import Derived.Test.YtgcbdpehnonghaaPlM
namespace Go.Proofs.Ytgcbdpehnonghaa
open Go.Vc
set_option maxRecDepth 100000
set_option linter.unusedSimpArgs false
set_option linter.unusedVariables false

def allK (n : Nat) (c : Nat) : List (List Int) := tab c fun c => bagL (c + 1)
def allL (n : Nat) : List (List Int) := allK n (2 ^ n - 1)
def setsL (n : Nat) : List (List Int) := sortS (allL n)
theorem pow_7 : ∀ n : Nat, n <= 7 -> 1 <= 2 ^ n /\ 2 ^ n <= 128 /\ ((1 : Int) * 2 ^ n) = ((2 ^ n : Nat) : Int) := by decide
theorem pow_ge2 : ∀ n : Nat, 1 <= n -> 2 <= 2 ^ n := fun n h => by have := Nat.pow_le_pow_right (n := 2) (by omega) h; omega
theorem bag_pos : ∀ b : Nat, b < 128 -> 0 < b -> 0 < (bagL b).length := by decide +kernel
theorem bagL_inj {a b : Nat} (ha : a < 128) (hb : b < 128) (h : bagL a = bagL b) : a = b := by
  refine Nat.eq_of_testBit_eq (fun i => ?_)
  have e : ∀ c : Nat, c < 128 -> (c.testBit i = true ↔ (i : Int) ∈ bagL c) := fun c hc => by
    rw [mem_bagL (n := 7) hc (by omega)]; simp
  have h1 := e a ha
  have h2 := e b hb
  rw [h] at h1
  cases x : a.testBit i <;> cases y : b.testBit i <;> simp_all
theorem allL_len (n : Nat) : (allL n).length = 2 ^ n - 1 := tab_len _ _
theorem allL_nodup {n : Nat} (h : n <= 7) : (allL n).Nodup := by
  have hp := pow_7 n h
  unfold allL allK tab
  rw [List.nodup_iff_pairwise_ne, List.pairwise_map]
  refine List.Pairwise.imp_of_mem (fun {a b} hma hmb hab e => ?_) List.pairwise_lt_range
  have ha := List.mem_range.1 hma
  have hb := List.mem_range.1 hmb
  have := bagL_inj (a := a + 1) (b := b + 1) (by omega) (by omega) e
  omega
theorem allL_mem {n : Nat} (h : n <= 7) {set : List Int} (hm : set ∈ allL n) : 0 < set.length /\ set.length <= 64 /\ ∀ x ∈ set, 0 <= x /\ x < n := by
  have hp := pow_7 n h
  obtain ⟨c, hc, rfl⟩ := mem_tab.1 hm
  refine ⟨bag_pos _ (by omega) (by omega), sel_len _ _, fun x hx => ?_⟩
  obtain ⟨h0, h1⟩ := (mem_bagL (n := 7) (by omega) (by omega)).1 hx
  have := bit_lt (b := c + 1) (n := n) (by omega) h1
  omega
theorem setsL_mem {n : Nat} (h : n <= 7) {set : List Int} (hm : set ∈ setsL n) : 0 < set.length /\ set.length <= 64 /\ ∀ x ∈ set, 0 <= x /\ x < n :=
  allL_mem h ((sortS_perm (allL n)).mem_iff.1 hm)
theorem setsL_len (n : Nat) : (setsL n).length = 2 ^ n - 1 := by
  unfold setsL
  rw [(sortS_perm (allL n)).length_eq, allL_len]
theorem setsL_open {o : List Int} {d : List (List Int)} (hf : FieldOK o d) {set : List Int} (hm : set ∈ setsL o.length) : OpenOK o d set := by
  obtain ⟨h1, h2, h3⟩ := setsL_mem hf.n7 hm
  exact ⟨hf, h1, by omega, fun k hk => h3 _ (ix_mem set hk)⟩

theorem cmpS_ne {a b : List Int} (h : ¬ (a.length : Int) = b.length) : (cmpS a b < 0) = ((a.length : Int) < b.length) := by
  by_cases h1 : (a.length : Int) < b.length
  · have e : cmpS a b = -1 := by unfold cmpS cmpZ; rw [if_pos h1]; rfl
    rw [e]; simp [h1]
  · have e : cmpS a b = 1 := by unfold cmpS cmpZ; rw [if_neg h1, if_pos (show (b.length : Int) < a.length by omega)]; rfl
    rw [e]; simp [h1]
theorem cmpS_eq {a b : List Int} (h : (a.length : Int) = b.length) : cmpS a b = cmpL a b := by
  unfold cmpS
  rw [h, cmpZ_self]; simp
def g_beforeS : List AV -> Prop × AV
  | [.ints xs, .ints ys] => (xs.length <= 1048576000 /\ ys.length <= 1048576000, .bool (decide (cmpS xs ys < 0)))
  | _ => (False, .undef)
theorem g_beforeS_eq (xs ys : List Int) : g_beforeS [.ints xs, .ints ys] = (xs.length <= 1048576000 /\ ys.length <= 1048576000, .bool (decide (cmpS xs ys < 0))) := (rfl)
theorem beforeS_ok (xs ys : List Int) (hp : xs.length <= 1048576000 /\ ys.length <= 1048576000) : SpecOK Try.prog 74 [.ints xs, .ints ys] (.bool (decide (cmpS xs ys < 0))) [] := by
  refine fun_ok (C := []) (hint := hintX [] [] 0 [] [] [] []) (TabOK.nil _) mixed Try.func74 rfl (by kernel_rfl) rfl ?_
  show codeA _ _ _ _ _ _ _ _
  simp only [go_sem, Try.results74]
  refine fork_intro (fun hl => ?_) (fun hl => ?_)
  · rw [cmpS_eq hl]
    refine loop_intro (fun k : Nat => [(5, .int .i64 k), (0, .ints xs), (1, .ints ys)]) (fun _ => []) 0 (fun k => k <= xs.length /\ cmpL (xs.drop k) (ys.drop k) = cmpL xs ys) (fun k => xs.length - k) 0 ⟨Nat.zero_le _, rfl⟩ (Nat.zero_le _) ?_ ?_
    · simp only [go_sem]
      repeat' (first | refine fork_intro (fun hb => ?_) (fun hb => ?_) | refine partB_intro (fun hb => ?_) (fun hb => ?_) | refine And.intro ?_ ?_)
      all_goals first | exact True.intro | omega | with_reducible rfl | exact congrArg (AV.int _) (by omega) | (first | rfl)
    · rintro k ⟨hk, ht⟩
      simp only [go_sem]
      refine fork_intro (fun hc => ?_) (fun hc => ?_)
      · rw [drop_ix xs (show k < xs.length by omega), drop_ix ys (show k < ys.length by omega), cmpL] at ht
        refine ⟨by omega, by omega, fork_intro (fun hd => ?_) (fun hd => ?_)⟩
        · rw [if_neg (by rw [hd, cmpZ_self]; simp)] at ht
          repeat' (first | refine fork_intro (fun hb => ?_) (fun hb => ?_) | refine partB_intro (fun hb => ?_) (fun hb => ?_) | refine And.intro ?_ ?_)
          all_goals first | exact True.intro | omega | with_reducible rfl | exact congrArg (AV.int _) (by omega) | (refine LoopEnd.intro (k + 1) (by first | omega | (first | exact ⟨by omega, ht⟩)) (by first | omega | (dsimp only; omega)) (by omega) ?_; simp only [go_sem]; (repeat' (first | refine fork_intro (fun hb => ?_) (fun hb => ?_) | refine partB_intro (fun hb => ?_) (fun hb => ?_) | refine And.intro ?_ ?_)); all_goals first | exact True.intro | omega | with_reducible rfl | exact congrArg (AV.int _) (by omega) | (first | rfl)) | (first | rfl)
        · have hz : cmpZ (ix xs (k : Int)) (ix ys (k : Int)) ≠ 0 := fun h => hd (cmpZ_zero h)
          rw [if_pos hz] at ht
          refine ⟨by omega, by omega, ?_⟩
          rw [<- ht]
          unfold cmpZ
          by_cases h1 : ix xs (k : Int) < ix ys (k : Int)
          · rw [if_pos h1]; simp [h1]
          · rw [if_neg h1, if_pos (by omega)]; simp [h1]
      · rw [show k = xs.length by omega, List.drop_length, show xs.length = ys.length by omega, List.drop_length, cmpL] at ht
        rw [<- ht]; rfl
  · have e := cmpS_ne hl
    simp only [e]
def t_beforeS : Table := [(74, pureC g_beforeS)]
theorem t_beforeS_ok : TabOK Try.prog t_beforeS := .cons Try.func74 (by kernel_rfl) (.pure (by intro args hp; unfold g_beforeS at hp ⊢; split at hp <;> first | exact hp.elim | exact beforeS_ok _ _ hp)) (.nil _)
attribute [go_sem] g_beforeS_eq t_beforeS
def g_setsS : List AV -> Prop × AV
  | [.int .i64 m] => (1 <= m /\ m <= 7, .rows (setsL m.toNat))
  | _ => (False, .undef)
theorem g_setsS_eq (m : Int) : g_setsS [.int .i64 m] = (1 <= m /\ m <= 7, .rows (setsL m.toNat)) := (rfl)
theorem setsS_ok (m : Int) (hp : 1 <= m /\ m <= 7) : SpecOK Try.prog 62 [.int .i64 m] (.rows (setsL m.toNat)) [] := by
  refine fun_ok (C := t_bitsS ++ t_beforeS) (hint := hintX [32] [(4, [.fz [3]])] 0 [] [] [(8, [0, 1, 2, 3, 5, 6, 8, 9, 10, 4, 7, 11, 12])] [(8, [4, 9])]) ((t_bitsS_ok).append t_beforeS_ok) mixed Try.func62 rfl (by kernel_rfl) rfl ?_
  show codeA _ _ _ _ _ _ _ _
  simp only [go_sem, Try.results62]
  obtain ⟨n, rfl⟩ : ∃ n : Nat, m = n := ⟨m.toNat, by omega⟩
  have hp7 := pow_7 n (by omega)
  simp only [Int.toNat_natCast]
  refine loop_intro (fun c : Nat => [(4, .int .i64 ((c + 1 : Nat) : Int)), (3, .rows (foldS (allL n) c)), (0, .int .i64 n)]) (fun _ => []) 0 (fun c => c <= 2 ^ n - 1) (fun c => 2 ^ n - 1 - c) 0 (by omega) (by omega) ?_ ?_
  · simp only [go_sem]
    repeat' (first | refine fork_intro (fun hb => ?_) (fun hb => ?_) | refine partB_intro (fun hb => ?_) (fun hb => ?_) | refine And.intro ?_ ?_)
    all_goals first | exact True.intro | omega | with_reducible rfl | exact congrArg (AV.int _) (by omega) | (first | rfl)
  · intro c hc
    have hal := allL_len n
    have hfl := foldS_len (allL n) (k := c) (by omega)
    simp only [go_sem]
    refine ⟨by omega, fork_intro (fun h1 => ?_) (fun h1 => ?_)⟩
    · have hn2 : c + 1 < 2 ^ n := by have := hp7.2.2; omega
      have eb : sel (c + 1).testBit n = ix (allL n) (c : Int) := by
        have e1 : ix (allL n) (c : Int) = bagL (c + 1) := tab_ix (by omega)
        rw [e1, bagL_eq (n := n) hn2 (by omega)]
      have hmem : ix (allL n) (c : Int) ∈ allL n := ix_mem _ (by omega)
      have hml := (allL_mem (n := n) (by omega) hmem).2.1
      have hfm : ∀ y ∈ foldS (allL n) c, y.length <= 64 := fun y hy => by
        have h2 := ((foldS_ok (allL n) c (by omega)).1.mem_iff).1 hy
        exact (allL_mem (n := n) (by omega) (List.mem_of_mem_take h2)).2.1
      have efs : foldS (allL n) (c + 1) = insS (ix (allL n) (c : Int)) (foldS (allL n) c) := rfl
      simp only [eb]
      generalize ix (allL n) (c : Int) = x at *
      generalize foldS (allL n) c = out at *
      refine ⟨⟨⟨by omega, by omega⟩, by omega, by omega⟩, ?_⟩
      refine loop_intro (fun j : Nat => [(6, .int .i64 ((c - j : Nat) : Int)), (5, .ints x), (4, .int .i64 ((c + 1 : Nat) : Int)), (3, .rows out), (0, .int .i64 n)]) (fun _ => []) 0 (fun j => j <= c /\ posS x out (c - j) = posS x out out.length) (fun j => c - j) 0 ⟨Nat.zero_le _, by rw [hfl]; rfl⟩ (by omega) ?_ ?_
      · simp only [go_sem]
        repeat' (first | refine fork_intro (fun hb => ?_) (fun hb => ?_) | refine partB_intro (fun hb => ?_) (fun hb => ?_) | refine And.intro ?_ ?_)
        all_goals first | exact True.intro | omega | with_reducible rfl | exact congrArg (AV.int _) (by omega) | (first | exact congrArg (AV.int _) (by omega) | rfl)
      · rintro j ⟨hj, ht⟩
        have f1 := cutL_pre out (c - j)
        have f2 := cutL_suf out (c - j)
        simp only [go_sem]
        have htl : (out.take (c - j)).length = c - j := by rw [List.length_take]; omega
        have hdl : (out.drop (c - j)).length = j := by rw [List.length_drop]; omega
        have fin : c - j = posS x out out.length -> out.take (c - j) ++ [x] ++ out.drop (c - j) = foldS (allL n) (c + 1) := fun h => by rw [efs]; unfold insS; rw [<- h]
        simp only [f1, f2, htl, hdl]
        refine fork_intro (fun hd => ?_) (fun hd => ?_)
        · have ep : posS x out (c - (j + 1)) = posS x out (c - j - 1) := by rw [show c - (j + 1) = c - j - 1 by omega]
          have ek : ((c - j : Nat) : Int) - 1 = ((c - j - 1 : Nat) : Int) := by omega
          have hyl := hfm _ (ix_mem out (show c - j - 1 < out.length by omega))
          have es : posS x out (c - j) = if cmpS x (ix out ((c - j - 1 : Nat) : Int)) < 0 then posS x out (c - j - 1) else c - j := by
            obtain ⟨m, hm⟩ : ∃ m, c - j = m + 1 := ⟨c - j - 1, by omega⟩
            rw [hm]; rfl
          simp only [ek]
          refine ⟨by omega, by omega, ⟨by omega, by omega⟩, fork_intro (fun he => ?_) (fun he => ?_)⟩
          · rw [if_pos he] at es
            repeat' (first | refine fork_intro (fun hb => ?_) (fun hb => ?_) | refine partB_intro (fun hb => ?_) (fun hb => ?_) | refine And.intro ?_ ?_)
            all_goals first | exact True.intro | omega | with_reducible rfl | exact congrArg (AV.int _) (by omega) | (refine LoopEnd.intro (j + 1) (by first | omega | (first | exact ⟨by omega, ep.trans (es.symm.trans ht)⟩)) (by first | omega | (dsimp only; omega)) (by omega) ?_; simp only [go_sem]; (repeat' (first | refine fork_intro (fun hb => ?_) (fun hb => ?_) | refine partB_intro (fun hb => ?_) (fun hb => ?_) | refine And.intro ?_ ?_)); all_goals first | exact True.intro | omega | with_reducible rfl | exact congrArg (AV.int _) (by omega) | (first | rfl | exact congrArg (AV.int _) (by omega))) | (first | rfl | exact congrArg (AV.int _) (by omega))
          · rw [if_neg he] at es
            have e := fin (by rw [<- ht, es])
            repeat' (first | refine fork_intro (fun hb => ?_) (fun hb => ?_) | refine partB_intro (fun hb => ?_) (fun hb => ?_) | refine And.intro ?_ ?_)
            all_goals first | exact True.intro | omega | with_reducible rfl | exact congrArg (AV.int _) (by omega) | (refine LoopEnd.intro (c + 1) (by first | omega) (by first | omega | (dsimp only; omega)) (by omega) ?_; simp only [go_sem]; (repeat' (first | refine fork_intro (fun hb => ?_) (fun hb => ?_) | refine partB_intro (fun hb => ?_) (fun hb => ?_) | refine And.intro ?_ ?_)); all_goals first | exact True.intro | omega | with_reducible rfl | exact congrArg (AV.int _) (by omega) | (first | rfl | rw [e] | exact congrArg (AV.int _) (by omega))) | (first | rfl | rw [e] | exact congrArg (AV.int _) (by omega))
        · have ej : c - j = 0 := by omega
          have e := fin (by rw [<- ht, ej]; rfl)
          repeat' (first | refine fork_intro (fun hb => ?_) (fun hb => ?_) | refine partB_intro (fun hb => ?_) (fun hb => ?_) | refine And.intro ?_ ?_)
          all_goals first | exact True.intro | omega | with_reducible rfl | exact congrArg (AV.int _) (by omega) | (refine LoopEnd.intro (c + 1) (by first | omega) (by first | omega | (dsimp only; omega)) (by omega) ?_; simp only [go_sem]; (repeat' (first | refine fork_intro (fun hb => ?_) (fun hb => ?_) | refine partB_intro (fun hb => ?_) (fun hb => ?_) | refine And.intro ?_ ?_)); all_goals first | exact True.intro | omega | with_reducible rfl | exact congrArg (AV.int _) (by omega) | (first | rfl | rw [e] | exact congrArg (AV.int _) (by omega))) | (first | rfl | rw [e] | exact congrArg (AV.int _) (by omega))
    · rw [show c = (allL n).length by omega, foldS_all]
      rfl
def t_setsS : Table := [(62, pureC g_setsS)]
theorem t_setsS_ok : TabOK Try.prog t_setsS := .cons Try.func62 (by kernel_rfl) (.pure (by intro args hp; unfold g_setsS at hp ⊢; split at hp <;> first | exact hp.elim | exact setsS_ok _ hp)) (.nil _)
attribute [go_sem] g_setsS_eq t_setsS
end Go.Proofs.Ytgcbdpehnonghaa
