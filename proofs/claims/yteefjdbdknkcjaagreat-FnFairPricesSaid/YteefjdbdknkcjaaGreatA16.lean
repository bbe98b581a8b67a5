/- Sets as lists and as bits, idle sites, prices that meet a set: both packages say the same. -/
import Derived.Test.YteefjdbdknkcjaaGreatA14
import Derived.Test.YteefjdbdknkcjaaGreatA8
import Derived.Test.YteefjdbdknkcjaaGreatPlB
namespace Go.Proofs.YteefjdbdknkcjaaGreat
open Go.Vc
set_option maxRecDepth 100000
set_option linter.unusedSimpArgs false
set_option linter.unusedVariables false

def g_bagI : List AV → Prop × AV
  | [.ints xs] => (xs.length ≤ 1048576000 ∧ ∀ x ∈ xs, 0 ≤ x ∧ x < 7, .int .u64 (bag xs))
  | _ => (False, .undef)
theorem g_bagI_eq (xs : List Int) : g_bagI [.ints xs] = (xs.length ≤ 1048576000 ∧ ∀ x ∈ xs, 0 ≤ x ∧ x < 7, .int .u64 (bag xs)) := (rfl)
theorem bagI_ok (xs : List Int) (hp : xs.length ≤ 1048576000 ∧ ∀ x ∈ xs, 0 ≤ x ∧ x < 7) : SpecOK Tryz.prog 100 [.ints xs] (.int .u64 (bag xs)) [] := by
  refine fun_ok (C := []) (hint := hintX [] [] 0 [] [] [] []) (TabOK.nil _) mixed Tryz.func100 rfl (by kernel_rfl) rfl ?_
  show codeA _ _ _ _ _ _ _ _
  simp only [go_sem, ↓reduceIte, Nat.reduceEqDiff, Nat.reduceBEq, Nat.reduceAdd, Nat.reduceSub, Nat.reduceLeDiff, Nat.reduceMul, Nat.reduceLT, Tryz.results100]
  obtain ⟨hl, hx⟩ := hp
  refine loop_intro (fun k : Nat => [(3, .int .u64 (bagF (xs.take k) 0)), (6, .ints xs), (7, .int .i64 xs.length), (8, .int .i64 k)]) (fun _ => []) 0 (fun k => k ≤ xs.length) (fun k => xs.length - k) 0 (by omega) (by omega) ?_ ?_
  · simp only [go_sem, ↓reduceIte, Nat.reduceEqDiff, Nat.reduceBEq, Nat.reduceAdd, Nat.reduceSub, Nat.reduceLeDiff, Nat.reduceMul, Nat.reduceLT]
    repeat' (first | refine fork_intro (fun hb => ?_) (fun hb => ?_) | refine partB_intro (fun hb => ?_) (fun hb => ?_) | refine And.intro ?_ ?_)
    all_goals first | exact True.intro | omega | with_reducible rfl | exact congrArg (AV.int _) (by omega) | (first | rfl)
  · intro k hk
    have hb := bagF_lt7 hx k
    simp only [go_sem, ↓reduceIte, Nat.reduceEqDiff, Nat.reduceBEq, Nat.reduceAdd, Nat.reduceSub, Nat.reduceLeDiff, Nat.reduceMul, Nat.reduceLT]
    refine fork_intro (fun hc => ?_) (fun hc => ?_)
    · have hm := hx _ (ix_mem xs (k := k) (by omega))
      obtain ⟨p1, p2, p3⟩ := pow7 (ix xs (k : Int)).toNat (by omega)
      have e := bagF_take xs 0 (k := k) (by omega)
      have hb2 := bagF_lt7 hx (k + 1)
      rw [p3, bitN_or, ← e]
      repeat' (first | refine fork_intro (fun hb => ?_) (fun hb => ?_) | refine partB_intro (fun hb => ?_) (fun hb => ?_) | refine And.intro ?_ ?_)
      all_goals first | exact True.intro | omega | with_reducible rfl | exact congrArg (AV.int _) (by omega) | (refine LoopEnd.intro (k + 1) (by first | omega) (by first | omega | (dsimp only; omega)) (by omega) ?_; simp only [go_sem, ↓reduceIte, Nat.reduceEqDiff, Nat.reduceBEq, Nat.reduceAdd, Nat.reduceSub, Nat.reduceLeDiff, Nat.reduceMul, Nat.reduceLT]; (repeat' (first | refine fork_intro (fun hb => ?_) (fun hb => ?_) | refine partB_intro (fun hb => ?_) (fun hb => ?_) | refine And.intro ?_ ?_)); all_goals first | exact True.intro | omega | with_reducible rfl | exact congrArg (AV.int _) (by omega) | (first | rfl)) | (first | rfl)
    · rw [show k = xs.length by omega, List.take_length]; rfl
def t_bagI : Table := [(100, pureC g_bagI)]
theorem t_bagI_ok : TabOK Tryz.prog t_bagI := .cons Tryz.func100 (by kernel_rfl) (.pure (by intro args hp; unfold g_bagI at hp ⊢; split at hp <;> first | exact hp.elim | exact bagI_ok _ hp)) (.nil _)
attribute [go_sem] g_bagI_eq t_bagI
def g_hasI : List AV → Prop × AV
  | [.int .u64 b, .int .i64 x] => ((0 ≤ b ∧ b < 128) ∧ 0 ≤ x ∧ x ≤ 63, .bool (b.toNat.testBit x.toNat))
  | _ => (False, .undef)
theorem g_hasI_eq (b x : Int) : g_hasI [.int .u64 b, .int .i64 x] = ((0 ≤ b ∧ b < 128) ∧ 0 ≤ x ∧ x ≤ 63, .bool (b.toNat.testBit x.toNat)) := (rfl)
theorem hasI_ok (b x : Int) (hp : (0 ≤ b ∧ b < 128) ∧ 0 ≤ x ∧ x ≤ 63) : SpecOK Tryz.prog 169 [.int .u64 b, .int .i64 x] (.bool (b.toNat.testBit x.toNat)) [] := by
  refine fun_ok (C := []) (hint := hintX [] [] 0 [] [] [] []) (TabOK.nil _) mixed Tryz.func169 rfl (by kernel_rfl) rfl ?_
  show codeA _ _ _ _ _ _ _ _
  simp only [go_sem, ↓reduceIte, Nat.reduceEqDiff, Nat.reduceBEq, Nat.reduceAdd, Nat.reduceSub, Nat.reduceLeDiff, Nat.reduceMul, Nat.reduceLT, Tryz.results169]
  obtain ⟨⟨h0, h1⟩, h2, h3⟩ := hp
  obtain ⟨b, rfl⟩ : ∃ n : Nat, b = n := ⟨b.toNat, by omega⟩
  obtain ⟨x, rfl⟩ : ∃ n : Nat, x = n := ⟨x.toNat, by omega⟩
  have hs := shr_le b x
  simp only [Int.toNat_natCast, shr_nat, bitN_and]
  have hb := bit_one b x
  repeat' (first | refine fork_intro (fun hb => ?_) (fun hb => ?_) | refine partB_intro (fun hb => ?_) (fun hb => ?_) | refine And.intro ?_ ?_)
  all_goals first | exact True.intro | omega | with_reducible rfl | exact congrArg (AV.int _) (by omega) | (first | (rw [← hb]; rfl) | (show _ ≤ _; decide) | decide)
def t_hasI : Table := [(169, pureC g_hasI)]
theorem t_hasI_ok : TabOK Tryz.prog t_hasI := .cons Tryz.func169 (by kernel_rfl) (.pure (by intro args hp; unfold g_hasI at hp ⊢; split at hp <;> first | exact hp.elim | exact hasI_ok _ _ hp)) (.nil _)
attribute [go_sem] g_hasI_eq t_hasI
def g_listI : List AV → Prop × AV × Heap
  | [.int .u64 b] => (0 ≤ b ∧ b < 128, .sl 0, [(0, .arr (.ints (bagL b.toNat)))])
  | _ => (False, .undef, [])
theorem g_listI_eq (b : Int) : g_listI [.int .u64 b] = (0 ≤ b ∧ b < 128, .sl 0, [(0, .arr (.ints (bagL b.toNat)))]) := (rfl)
theorem listI_ok (b : Int) (hp : 0 ≤ b ∧ b < 128) : SpecOK Tryz.prog 135 [.int .u64 b] (.sl 0) [(0, .arr (.ints (bagL b.toNat)))] := by
  refine fun_ok (C := t_hasI) (hint := hintX [5] [] 0 [] [] [] []) (t_hasI_ok) mixed Tryz.func135 rfl (by kernel_rfl) rfl ?_
  show codeA _ _ _ _ _ _ _ _
  simp only [go_sem, ↓reduceIte, Nat.reduceEqDiff, Nat.reduceBEq, Nat.reduceAdd, Nat.reduceSub, Nat.reduceLeDiff, Nat.reduceMul, Nat.reduceLT, Tryz.results135]
  obtain ⟨h0, h1⟩ := hp
  obtain ⟨b, rfl⟩ : ∃ n : Nat, b = n := ⟨b.toNat, by omega⟩
  simp only [Int.toNat_natCast]
  refine loop_intro (fun x : Nat => [(3, .sl 0), (4, .int .i64 x), (0, .int .u64 b)]) (fun x => [(0, .arr (.ints (sel b.testBit x)))]) 1 (fun x => x ≤ 7) (fun x => 7 - x) 0 (by omega) (by omega) ?_ ?_
  · simp only [go_sem, ↓reduceIte, Nat.reduceEqDiff, Nat.reduceBEq, Nat.reduceAdd, Nat.reduceSub, Nat.reduceLeDiff, Nat.reduceMul, Nat.reduceLT]
    repeat' (first | refine fork_intro (fun hb => ?_) (fun hb => ?_) | refine partB_intro (fun hb => ?_) (fun hb => ?_) | refine And.intro ?_ ?_)
    all_goals first | exact True.intro | omega | with_reducible rfl | exact congrArg (AV.int _) (by omega) | (first | rfl)
  · intro x hx
    have hs := shr_le b x
    have hsl := sel_len b.testBit x
    have hpos := shr_pos b x
    simp only [go_sem, ↓reduceIte, Nat.reduceEqDiff, Nat.reduceBEq, Nat.reduceAdd, Nat.reduceSub, Nat.reduceLeDiff, Nat.reduceMul, Nat.reduceLT]
    refine ⟨by omega, fork_intro (fun hc => ?_) (fun hc => ?_)⟩
    · have hx7 := lt_pow7 (show b < 128 by omega) (hpos.1 hc)
      refine ⟨⟨by omega, by omega⟩, partB_intro (fun hd => ?_) (fun hd => ?_)⟩
      · have e := sel_t (p := b.testBit) (n := x) hd
        repeat' (first | refine fork_intro (fun hb => ?_) (fun hb => ?_) | refine partB_intro (fun hb => ?_) (fun hb => ?_) | refine And.intro ?_ ?_)
        all_goals first | exact True.intro | omega | with_reducible rfl | exact congrArg (AV.int _) (by omega) | (refine LoopEnd.intro (x + 1) (by first | omega) (by first | omega | (dsimp only; omega)) (by omega) ?_; simp only [go_sem, ↓reduceIte, Nat.reduceEqDiff, Nat.reduceBEq, Nat.reduceAdd, Nat.reduceSub, Nat.reduceLeDiff, Nat.reduceMul, Nat.reduceLT]; (repeat' (first | refine fork_intro (fun hb => ?_) (fun hb => ?_) | refine partB_intro (fun hb => ?_) (fun hb => ?_) | refine And.intro ?_ ?_)); all_goals first | exact True.intro | omega | with_reducible rfl | exact congrArg (AV.int _) (by omega) | (first | rw [e])) | (first | rw [e])
      · have e := sel_f (p := b.testBit) (n := x) hd
        repeat' (first | refine fork_intro (fun hb => ?_) (fun hb => ?_) | refine partB_intro (fun hb => ?_) (fun hb => ?_) | refine And.intro ?_ ?_)
        all_goals first | exact True.intro | omega | with_reducible rfl | exact congrArg (AV.int _) (by omega) | (refine LoopEnd.intro (x + 1) (by first | omega) (by first | omega | (dsimp only; omega)) (by omega) ?_; simp only [go_sem, ↓reduceIte, Nat.reduceEqDiff, Nat.reduceBEq, Nat.reduceAdd, Nat.reduceSub, Nat.reduceLeDiff, Nat.reduceMul, Nat.reduceLT]; (repeat' (first | refine fork_intro (fun hb => ?_) (fun hb => ?_) | refine partB_intro (fun hb => ?_) (fun hb => ?_) | refine And.intro ?_ ?_)); all_goals first | exact True.intro | omega | with_reducible rfl | exact congrArg (AV.int _) (by omega) | (first | rw [e])) | (first | rw [e])
    · have hlt : b < 2 ^ x := Nat.lt_of_not_le (fun h => hc (hpos.2 h))
      rw [bagL_eq hlt (by omega)]
      repeat' (first | refine fork_intro (fun hb => ?_) (fun hb => ?_) | refine partB_intro (fun hb => ?_) (fun hb => ?_) | refine And.intro ?_ ?_)
      all_goals first | exact True.intro | omega | with_reducible rfl | exact congrArg (AV.int _) (by omega) | (first | rfl)
def t_listI : Table := [(135, ownC g_listI)]
theorem t_listI_ok : TabOK Tryz.prog t_listI := .cons Tryz.func135 (by kernel_rfl) (.own (by intro args hp; unfold g_listI at hp ⊢; split at hp <;> first | exact hp.elim | exact ⟨listI_ok _ hp, rfl⟩)) (.nil _)
attribute [go_sem] g_listI_eq t_listI
def g_bothS : List AV → Prop × AV
  | [.agg [.ints o, .rows d], .ints ps, .ints set] => ((o.length ≤ 1048576000 ∧ d.length ≤ 1048576000 ∧ ∀ x ∈ d, x.length ≤ 1048576000) ∧ ps.length ≤ 1048576000 ∧ set.length ≤ 1048576000, .bool (fairOK o d ps && opened o d set))
  | _ => (False, .undef)
theorem g_bothS_eq (o : List Int) (d : List (List Int)) (ps set : List Int) : g_bothS [.agg [.ints o, .rows d], .ints ps, .ints set] = ((o.length ≤ 1048576000 ∧ d.length ≤ 1048576000 ∧ ∀ x ∈ d, x.length ≤ 1048576000) ∧ ps.length ≤ 1048576000 ∧ set.length ≤ 1048576000, .bool (fairOK o d ps && opened o d set)) := (rfl)
theorem bothS_ok (o : List Int) (d : List (List Int)) (ps set : List Int) (hp : (o.length ≤ 1048576000 ∧ d.length ≤ 1048576000 ∧ ∀ x ∈ d, x.length ≤ 1048576000) ∧ ps.length ≤ 1048576000 ∧ set.length ≤ 1048576000) : SpecOK Tryz.prog 98 [.agg [.ints o, .rows d], .ints ps, .ints set] (.bool (fairOK o d ps && opened o d set)) [] := by
  refine fun_ok (C := t_fairS ++ t_twoS) (hint := hintX [] [] 0 [] [] [] []) ((t_fairS_ok).append t_twoS_ok) mixed Tryz.func98 rfl (by kernel_rfl) rfl ?_
  show codeA _ _ _ _ _ _ _ _
  simp only [go_sem, ↓reduceIte, Nat.reduceEqDiff, Nat.reduceBEq, Nat.reduceAdd, Nat.reduceSub, Nat.reduceLeDiff, Nat.reduceMul, Nat.reduceLT, Tryz.results98]
  have hfo : (pricesOK o d ps && fairB o d ps) = fairOK o d ps := rfl
  rw [hfo]
  refine ⟨⟨hp.1, hp.2.1⟩, partB_intro (fun hg => ?_) (fun hg => ?_)⟩
  · rw [hg]; exact ⟨⟨hp.1, hp.2.2⟩, rfl⟩
  · rw [hg]; rfl
def t_bothS : Table := [(98, pureC g_bothS)]
theorem t_bothS_ok : TabOK Tryz.prog t_bothS := .cons Tryz.func98 (by kernel_rfl) (.pure (by intro args hp; unfold g_bothS at hp ⊢; split at hp <;> first | exact hp.elim | exact bothS_ok _ _ _ _ hp)) (.nil _)
attribute [go_sem] g_bothS_eq t_bothS
def g_meetsS : List AV → Prop × AV
  | [.agg [.ints o, .rows d], .int .i64 p, .int .i64 j, .ints set] => (OpenOK o d set ∧ 0 ≤ j ∧ j < d.length, .bool (meet1 d set p j.toNat))
  | _ => (False, .undef)
theorem g_meetsS_eq (o : List Int) (d : List (List Int)) (p j : Int) (set : List Int) : g_meetsS [.agg [.ints o, .rows d], .int .i64 p, .int .i64 j, .ints set] = (OpenOK o d set ∧ 0 ≤ j ∧ j < d.length, .bool (meet1 d set p j.toNat)) := (rfl)
theorem meetsS_ok (o : List Int) (d : List (List Int)) (p j : Int) (set : List Int) (hp : OpenOK o d set ∧ 0 ≤ j ∧ j < d.length) : SpecOK Tryz.prog 104 [.agg [.ints o, .rows d], .int .i64 p, .int .i64 j, .ints set] (.bool (meet1 d set p j.toNat)) [] := by
  refine fun_ok (C := t_siteS) (hint := hintX [] [] 0 [] [] [] []) (t_siteS_ok) mixed Tryz.func104 rfl (by kernel_rfl) rfl ?_
  show codeA _ _ _ _ _ _ _ _
  simp only [go_sem, ↓reduceIte, Nat.reduceEqDiff, Nat.reduceBEq, Nat.reduceAdd, Nat.reduceSub, Nat.reduceLeDiff, Nat.reduceMul, Nat.reduceLT, Tryz.results104]
  obtain ⟨h, h0, h1⟩ := hp
  obtain ⟨j, rfl⟩ : ∃ n : Nat, j = n := ⟨j.toNat, by omega⟩
  simp only [Int.toNat_natCast]
  have hl := h.len
  have hrow := h.f.d_len h0 h1
  have hs := h.srv (ix d (j : Int))
  have hne : near (ix d (j : Int)) set = ix (ix d (j : Int)) (srv (ix d (j : Int)) set) := rfl
  refine ⟨⟨h, h0, h1⟩, by omega, by omega, fork_intro (fun hc => ?_) (fun hc => ?_)⟩
  · rw [meet1, decide_eq_false (by omega)]; rfl
  · refine loop_intro (fun k : Nat => [(9, .int .i64 (srv (ix d (j : Int)) set)), (10, .int .i64 k), (1, .int .i64 p), (2, .int .i64 j), (3, .ints set), (4, .iptr [.ints o, .rows d])]) (fun _ => []) 0 (fun k => k ≤ set.length ∧ ∀ q : Nat, q < k → (!(decide (ix set (q : Int) ≠ srv (ix d (j : Int)) set) && decide (ix (ix d (j : Int)) (ix set (q : Int)) < p))) = true) (fun k => set.length - k) 0 ⟨by omega, fun q hq => absurd hq (Nat.not_lt_zero _)⟩ (by omega) ?_ ?_
    · simp only [go_sem, ↓reduceIte, Nat.reduceEqDiff, Nat.reduceBEq, Nat.reduceAdd, Nat.reduceSub, Nat.reduceLeDiff, Nat.reduceMul, Nat.reduceLT]
      repeat' (first | refine fork_intro (fun hb => ?_) (fun hb => ?_) | refine partB_intro (fun hb => ?_) (fun hb => ?_) | refine And.intro ?_ ?_)
      all_goals first | exact True.intro | omega | with_reducible rfl | exact congrArg (AV.int _) (by omega) | (first | rfl)
    · rintro k ⟨hk, ht⟩
      simp only [go_sem, ↓reduceIte, Nat.reduceEqDiff, Nat.reduceBEq, Nat.reduceAdd, Nat.reduceSub, Nat.reduceLeDiff, Nat.reduceMul, Nat.reduceLT]
      refine fork_intro (fun hd => ?_) (fun hd => ?_)
      · have hx := h.xin k (by omega)
        have hz : (ix set (k : Int) ≠ srv (ix d (j : Int)) set ∧ ix (ix d (j : Int)) (ix set (k : Int)) < p) → meet1 d set p j = false := fun hh => by
          rw [meet1, allN_f (k := k) (by omega) (by simp [hh.1, hh.2]), Bool.and_false]
        have hsu := below_succ (q := fun q : Nat => (!(decide (ix set (q : Int) ≠ srv (ix d (j : Int)) set) && decide (ix (ix d (j : Int)) (ix set (q : Int)) < p))) = true) (k := k) ht
        have hy : ¬ (ix set (k : Int) ≠ srv (ix d (j : Int)) set ∧ ix (ix d (j : Int)) (ix set (k : Int)) < p) → (!(decide (ix set (k : Int) ≠ srv (ix d (j : Int)) set) && decide (ix (ix d (j : Int)) (ix set (k : Int)) < p))) = true := fun hh => by
          rw [Bool.not_eq_true', Bool.and_eq_false_iff, decide_eq_false_iff_not, decide_eq_false_iff_not]
          omega
        repeat' (first | refine fork_intro (fun hb => ?_) (fun hb => ?_) | refine partB_intro (fun hb => ?_) (fun hb => ?_) | refine And.intro ?_ ?_)
        all_goals first | exact True.intro | omega | with_reducible rfl | exact congrArg (AV.int _) (by omega) | (refine LoopEnd.intro (k + 1) (by first | omega | (first | exact ⟨by omega, hsu (hy (by omega))⟩)) (by first | omega | (dsimp only; omega)) (by omega) ?_; simp only [go_sem, ↓reduceIte, Nat.reduceEqDiff, Nat.reduceBEq, Nat.reduceAdd, Nat.reduceSub, Nat.reduceLeDiff, Nat.reduceMul, Nat.reduceLT]; (repeat' (first | refine fork_intro (fun hb => ?_) (fun hb => ?_) | refine partB_intro (fun hb => ?_) (fun hb => ?_) | refine And.intro ?_ ?_)); all_goals first | exact True.intro | omega | with_reducible rfl | exact congrArg (AV.int _) (by omega) | (first | rw [hz (by omega)])) | (first | rw [hz (by omega)])
      · have hall := allN_t (p := fun i => !(decide (ix set (i : Int) ≠ srv (ix d (j : Int)) set) && decide (ix (ix d (j : Int)) (ix set (i : Int)) < p))) (n := set.length) (fun q hq => ht q (by omega))
        rw [meet1, hall, decide_eq_true (by omega)]; rfl
def t_meetsS : Table := [(104, pureC g_meetsS)]
theorem t_meetsS_ok : TabOK Tryz.prog t_meetsS := .cons Tryz.func104 (by kernel_rfl) (.pure (by intro args hp; unfold g_meetsS at hp ⊢; split at hp <;> first | exact hp.elim | exact meetsS_ok _ _ _ _ _ hp)) (.nil _)
attribute [go_sem] g_meetsS_eq t_meetsS
def g_meetOfS : List AV → Prop × AV
  | [.agg [.ints o, .rows d], .ints ps, .ints set] => ((o.length ≤ 1048576000 ∧ d.length ≤ 1048576000 ∧ ∀ x ∈ d, x.length ≤ 1048576000) ∧ ps.length ≤ 1048576000 ∧ set.length ≤ 1048576000, .tup [.bool ((fairOK o d ps && opened o d set) && meetB o d ps set), .bool (fairOK o d ps && opened o d set)])
  | _ => (False, .undef)
theorem g_meetOfS_eq (o : List Int) (d : List (List Int)) (ps set : List Int) : g_meetOfS [.agg [.ints o, .rows d], .ints ps, .ints set] = ((o.length ≤ 1048576000 ∧ d.length ≤ 1048576000 ∧ ∀ x ∈ d, x.length ≤ 1048576000) ∧ ps.length ≤ 1048576000 ∧ set.length ≤ 1048576000, .tup [.bool ((fairOK o d ps && opened o d set) && meetB o d ps set), .bool (fairOK o d ps && opened o d set)]) := (rfl)
theorem meetOfS_ok (o : List Int) (d : List (List Int)) (ps set : List Int) (hp : (o.length ≤ 1048576000 ∧ d.length ≤ 1048576000 ∧ ∀ x ∈ d, x.length ≤ 1048576000) ∧ ps.length ≤ 1048576000 ∧ set.length ≤ 1048576000) : SpecOK Tryz.prog 44 [.agg [.ints o, .rows d], .ints ps, .ints set] (.tup [.bool ((fairOK o d ps && opened o d set) && meetB o d ps set), .bool (fairOK o d ps && opened o d set)]) [] := by
  refine fun_ok (C := t_bothS ++ t_claimS ++ t_meetsS) (hint := hintX [] [] 0 [] [] [] []) (((t_bothS_ok).append t_claimS_ok).append t_meetsS_ok) mixed Tryz.func44 rfl (by kernel_rfl) rfl ?_
  show codeA _ _ _ _ _ _ _ _
  simp only [go_sem, ↓reduceIte, Nat.reduceEqDiff, Nat.reduceBEq, Nat.reduceAdd, Nat.reduceSub, Nat.reduceLeDiff, Nat.reduceMul, Nat.reduceLT, Tryz.results44]
  refine ⟨hp, partB_intro (fun hg => ?_) (fun hg => ?_)⟩
  · rw [hg]
    simp only [Bool.and_eq_true] at hg
    have hf := fairOK_iff hg.1
    have h := opened_iff hp.2.2 hg.2
    have hl := h.len
    have hpl := hf.len
    have hm := hf.f.m7
    refine loop_intro (fun k : Nat => [(8, .int .i64 k), (1, .ints ps), (2, .ints set), (3, .iptr [.ints o, .rows d])]) (fun _ => []) 0 (fun k => k ≤ set.length ∧ ∀ q : Nat, q < k → meetT o d ps set q = true) (fun k => set.length - k) 0 ⟨by omega, fun q hq => absurd hq (Nat.not_lt_zero _)⟩ (by omega) ?_ ?_
    · simp only [go_sem, ↓reduceIte, Nat.reduceEqDiff, Nat.reduceBEq, Nat.reduceAdd, Nat.reduceSub, Nat.reduceLeDiff, Nat.reduceMul, Nat.reduceLT]
      repeat' (first | refine fork_intro (fun hb => ?_) (fun hb => ?_) | refine partB_intro (fun hb => ?_) (fun hb => ?_) | refine And.intro ?_ ?_)
      all_goals first | exact True.intro | omega | with_reducible rfl | exact congrArg (AV.int _) (by omega) | (first | rfl)
    · rintro k ⟨hk, ht⟩
      simp only [go_sem, ↓reduceIte, Nat.reduceEqDiff, Nat.reduceBEq, Nat.reduceAdd, Nat.reduceSub, Nat.reduceLeDiff, Nat.reduceMul, Nat.reduceLT]
      refine fork_intro (fun hc => ?_) (fun hc => ?_)
      · have hx := h.xin k (by omega)
        have hcl := hf.clm
        refine ⟨by omega, ⟨hcl, by omega, by omega⟩, by omega, by omega, fork_intro (fun hd => ?_) (fun hd => ?_)⟩
        · have hsu := below_succ (q := fun q : Nat => meetT o d ps set q = true) (k := k) ht (decide_eq_true hd)
          repeat' (first | refine fork_intro (fun hb => ?_) (fun hb => ?_) | refine partB_intro (fun hb => ?_) (fun hb => ?_) | refine And.intro ?_ ?_)
          all_goals first | exact True.intro | omega | with_reducible rfl | exact congrArg (AV.int _) (by omega) | (refine LoopEnd.intro (k + 1) (by first | omega | (first | exact ⟨by omega, hsu⟩)) (by first | omega | (dsimp only; omega)) (by omega) ?_; simp only [go_sem, ↓reduceIte, Nat.reduceEqDiff, Nat.reduceBEq, Nat.reduceAdd, Nat.reduceSub, Nat.reduceLeDiff, Nat.reduceMul, Nat.reduceLT]; (repeat' (first | refine fork_intro (fun hb => ?_) (fun hb => ?_) | refine partB_intro (fun hb => ?_) (fun hb => ?_) | refine And.intro ?_ ?_)); all_goals first | exact True.intro | omega | with_reducible rfl | exact congrArg (AV.int _) (by omega))
        · have hz : meetB o d ps set = false := by rw [meetB, allN_f (k := k) (by omega) (decide_eq_false hd)]; rfl
          rw [hz]
          repeat' (first | refine fork_intro (fun hb => ?_) (fun hb => ?_) | refine partB_intro (fun hb => ?_) (fun hb => ?_) | refine And.intro ?_ ?_)
          all_goals first | exact True.intro | omega | with_reducible rfl | exact congrArg (AV.int _) (by omega) | (first | rfl)
      · have hall := allN_t (p := meetT o d ps set) (n := set.length) (fun q hq => ht q (by omega))
        refine loop_intro (fun j : Nat => [(9, .int .i64 j), (1, .ints ps), (2, .ints set), (3, .iptr [.ints o, .rows d])]) (fun _ => []) 0 (fun j => j ≤ d.length ∧ ∀ q : Nat, q < j → meet1 d set (ix ps (q : Int)) q = true) (fun j => d.length - j) 0 ⟨by omega, fun q hq => absurd hq (Nat.not_lt_zero _)⟩ (by omega) ?_ ?_
        · simp only [go_sem, ↓reduceIte, Nat.reduceEqDiff, Nat.reduceBEq, Nat.reduceAdd, Nat.reduceSub, Nat.reduceLeDiff, Nat.reduceMul, Nat.reduceLT]
          repeat' (first | refine fork_intro (fun hb => ?_) (fun hb => ?_) | refine partB_intro (fun hb => ?_) (fun hb => ?_) | refine And.intro ?_ ?_)
          all_goals first | exact True.intro | omega | with_reducible rfl | exact congrArg (AV.int _) (by omega) | (first | rfl)
        · rintro j ⟨hj, hu⟩
          simp only [go_sem, ↓reduceIte, Nat.reduceEqDiff, Nat.reduceBEq, Nat.reduceAdd, Nat.reduceSub, Nat.reduceLeDiff, Nat.reduceMul, Nat.reduceLT]
          refine fork_intro (fun hd => ?_) (fun hd => ?_)
          · refine ⟨by omega, ⟨h, by omega, by omega⟩, partB_intro (fun he => ?_) (fun he => ?_)⟩
            · have hsu := below_succ (q := fun q : Nat => meet1 d set (ix ps (q : Int)) q = true) (k := j) hu he
              repeat' (first | refine fork_intro (fun hb => ?_) (fun hb => ?_) | refine partB_intro (fun hb => ?_) (fun hb => ?_) | refine And.intro ?_ ?_)
              all_goals first | exact True.intro | omega | with_reducible rfl | exact congrArg (AV.int _) (by omega) | (refine LoopEnd.intro (j + 1) (by first | omega | (first | exact ⟨by omega, hsu⟩)) (by first | omega | (dsimp only; omega)) (by omega) ?_; simp only [go_sem, ↓reduceIte, Nat.reduceEqDiff, Nat.reduceBEq, Nat.reduceAdd, Nat.reduceSub, Nat.reduceLeDiff, Nat.reduceMul, Nat.reduceLT]; (repeat' (first | refine fork_intro (fun hb => ?_) (fun hb => ?_) | refine partB_intro (fun hb => ?_) (fun hb => ?_) | refine And.intro ?_ ?_)); all_goals first | exact True.intro | omega | with_reducible rfl | exact congrArg (AV.int _) (by omega))
            · have hz : meetB o d ps set = false := by rw [meetB, allN_f (p := fun j => meet1 d set (ix ps (j : Int)) j) (k := j) (by omega) he, Bool.and_false]
              rw [hz]
              repeat' (first | refine fork_intro (fun hb => ?_) (fun hb => ?_) | refine partB_intro (fun hb => ?_) (fun hb => ?_) | refine And.intro ?_ ?_)
              all_goals first | exact True.intro | omega | with_reducible rfl | exact congrArg (AV.int _) (by omega) | (first | rfl)
          · have hz : meetB o d ps set = true := by rw [meetB, hall, allN_t (p := fun j => meet1 d set (ix ps (j : Int)) j) (fun q hq => hu q (by omega))]; rfl
            rw [hz]
            repeat' (first | refine fork_intro (fun hb => ?_) (fun hb => ?_) | refine partB_intro (fun hb => ?_) (fun hb => ?_) | refine And.intro ?_ ?_)
            all_goals first | exact True.intro | omega | with_reducible rfl | exact congrArg (AV.int _) (by omega) | (first | rfl)
  · rw [hg]; first | rfl | exact ⟨rfl, rfl⟩
def t_meetOfS : Table := [(44, pureC g_meetOfS)]
theorem t_meetOfS_ok : TabOK Tryz.prog t_meetOfS := .cons Tryz.func44 (by kernel_rfl) (.pure (by intro args hp; unfold g_meetOfS at hp ⊢; split at hp <;> first | exact hp.elim | exact meetOfS_ok _ _ _ _ hp)) (.nil _)
attribute [go_sem] g_meetOfS_eq t_meetOfS
def g_meetOfI : List AV → Prop × AV
  | [.agg [.ints o, .rows d], .ints ps, .ints set] => ((o.length ≤ 1048576000 ∧ d.length ≤ 1048576000 ∧ ∀ x ∈ d, x.length ≤ 1048576000) ∧ ps.length ≤ 1048576000 ∧ set.length ≤ 1048576000, .tup [.bool ((fairOK o d ps && opened o d set) && meetB o d ps set), .bool (fairOK o d ps && opened o d set)])
  | _ => (False, .undef)
theorem g_meetOfI_eq (o : List Int) (d : List (List Int)) (ps set : List Int) : g_meetOfI [.agg [.ints o, .rows d], .ints ps, .ints set] = ((o.length ≤ 1048576000 ∧ d.length ≤ 1048576000 ∧ ∀ x ∈ d, x.length ≤ 1048576000) ∧ ps.length ≤ 1048576000 ∧ set.length ≤ 1048576000, .tup [.bool ((fairOK o d ps && opened o d set) && meetB o d ps set), .bool (fairOK o d ps && opened o d set)]) := (rfl)
theorem meetOfI_ok (o : List Int) (d : List (List Int)) (ps set : List Int) (hp : (o.length ≤ 1048576000 ∧ d.length ≤ 1048576000 ∧ ∀ x ∈ d, x.length ≤ 1048576000) ∧ ps.length ≤ 1048576000 ∧ set.length ≤ 1048576000) : SpecOK Tryz.prog 43 [.agg [.ints o, .rows d], .ints ps, .ints set] (.tup [.bool ((fairOK o d ps && opened o d set) && meetB o d ps set), .bool (fairOK o d ps && opened o d set)]) [] := by
  refine fun_ok (C := t_isFairI ++ t_isSetI ++ t_bagI ++ t_tightI ++ t_servedI) (hint := hintX [] [] 0 [] [] [] []) (((((t_isFairI_ok).append t_isSetI_ok).append t_bagI_ok).append t_tightI_ok).append t_servedI_ok) mixed Tryz.func43 rfl (by kernel_rfl) rfl ?_
  show codeA _ _ _ _ _ _ _ _
  simp only [go_sem, ↓reduceIte, Nat.reduceEqDiff, Nat.reduceBEq, Nat.reduceAdd, Nat.reduceSub, Nat.reduceLeDiff, Nat.reduceMul, Nat.reduceLT, Tryz.results43]
  refine ⟨⟨hp.1, hp.2.1⟩, partB_intro (fun hg => ⟨by omega, partB_intro (fun hr => ?_) (fun hr => ?_)⟩) (fun hg => ?_)⟩
  · have hf := fairOK_iff hg
    have hgood : good o d = true := good_iff.2 hf.f
    have ho : opened o d set = true := by rw [opened, hgood, hr]; rfl
    have h := opened_iff hp.2.2 ho
    have hl := h.len
    have hpl := hf.len
    have hm := hf.f.m7
    have hn := hf.f.n7
    have h7 := h.seven
    have htl : ∀ x ∈ tightL o d ps, 0 ≤ x ∧ x < 7 := fun x hx => by
      obtain ⟨k, hk, _, rfl⟩ := mem_sel.1 hx
      omega
    have htn := sel_len (fun a => decide (clm d ps 1 (a : Int) = ix o (a : Int))) o.length
    have htn2 : (tightL o d ps).length ≤ 7 := by unfold tightL; omega
    have hb1 := bag_lt h7
    have hb2 := bag_lt htl
    have hts := tight_sub (ps := ps) h
    rw [hg, ho]
    simp only [bitN_andNot, Int.toNat_natCast]
    refine ⟨⟨hl, h7⟩, hf.clm, ⟨by omega, htl⟩, ⟨by omega, by omega⟩, fork_intro (fun hc => ?_) (fun hc => ?_)⟩
    · have hall := hts.1 (by omega)
      have hsl : (servedL d set).length = d.length := tab_len _ _
      refine ⟨h, ?_⟩
      refine loop_intro (fun j : Nat => [(32, .ints (servedL d set)), (33, .int .i64 d.length), (34, .int .i64 j), (1, .ints ps), (2, .ints set), (3, .iptr [.ints o, .rows d])]) (fun _ => []) 0 (fun j => j ≤ d.length ∧ ∀ q : Nat, q < j → meet1 d set (ix ps (q : Int)) q = true) (fun j => d.length - j) 0 ⟨by omega, fun q hq => absurd hq (Nat.not_lt_zero _)⟩ (by omega) ?_ ?_
      · simp only [go_sem, ↓reduceIte, Nat.reduceEqDiff, Nat.reduceBEq, Nat.reduceAdd, Nat.reduceSub, Nat.reduceLeDiff, Nat.reduceMul, Nat.reduceLT]
        repeat' (first | refine fork_intro (fun hb => ?_) (fun hb => ?_) | refine partB_intro (fun hb => ?_) (fun hb => ?_) | refine And.intro ?_ ?_)
        all_goals first | exact True.intro | omega | with_reducible rfl | exact congrArg (AV.int _) (by omega) | (first | rfl | rw [hsl])
      · rintro j ⟨hj, hu⟩
        simp only [go_sem, ↓reduceIte, Nat.reduceEqDiff, Nat.reduceBEq, Nat.reduceAdd, Nat.reduceSub, Nat.reduceLeDiff, Nat.reduceMul, Nat.reduceLT]
        refine fork_intro (fun hd => ?_) (fun hd => ?_)
        · have hsv : ix (servedL d set) (j : Int) = srv (ix d (j : Int)) set := tab_ix (by omega)
          have hrow := hf.f.d_len (k := (j : Int)) (by omega) (by omega)
          rw [hsv]
          refine ⟨by omega, ?_⟩
          refine loop_intro (fun k : Nat => [(39, .ints set), (40, .int .i64 set.length), (41, .int .i64 k), (8, .int .i64 j), (9, .int .i64 (srv (ix d (j : Int)) set)), (32, .ints (servedL d set)), (33, .int .i64 d.length), (34, .int .i64 j), (1, .ints ps), (2, .ints set), (3, .iptr [.ints o, .rows d])]) (fun _ => []) 0 (fun k => k ≤ set.length ∧ ∀ q : Nat, q < k → meetK d set (ix ps (j : Int)) j q = true) (fun k => set.length - k) 0 ⟨by omega, fun q hq => absurd hq (Nat.not_lt_zero _)⟩ (by omega) ?_ ?_
          · simp only [go_sem, ↓reduceIte, Nat.reduceEqDiff, Nat.reduceBEq, Nat.reduceAdd, Nat.reduceSub, Nat.reduceLeDiff, Nat.reduceMul, Nat.reduceLT]
            repeat' (first | refine fork_intro (fun hb => ?_) (fun hb => ?_) | refine partB_intro (fun hb => ?_) (fun hb => ?_) | refine And.intro ?_ ?_)
            all_goals first | exact True.intro | omega | with_reducible rfl | exact congrArg (AV.int _) (by omega) | (first | rfl)
          · rintro k ⟨hk, ht⟩
            simp only [go_sem, ↓reduceIte, Nat.reduceEqDiff, Nat.reduceBEq, Nat.reduceAdd, Nat.reduceSub, Nat.reduceLeDiff, Nat.reduceMul, Nat.reduceLT]
            refine fork_intro (fun he => ?_) (fun he => ?_)
            · have hx := h.xin k (by omega)
              have hz : ((ix set (k : Int) = srv (ix d (j : Int)) set ∧ ix ps (j : Int) < ix (ix d (j : Int)) (ix set (k : Int))) ∨ (ix set (k : Int) ≠ srv (ix d (j : Int)) set ∧ ix (ix d (j : Int)) (ix set (k : Int)) < ix ps (j : Int))) → meetB o d ps set = false := fun hh => by
                have h1 : meetK d set (ix ps (j : Int)) j k = false := by
                  unfold meetK
                  rcases hh with hh | hh
                  · rw [decide_eq_true hh.1, decide_eq_true hh.2]; rfl
                  · rw [decide_eq_true hh.1, decide_eq_true hh.2]; simp
                have h2 : meet1 d set (ix ps (j : Int)) j = false := by rw [← meet1_eq h.pos]; exact allN_f (k := k) (by omega) h1
                rw [meetB, allN_f (p := fun j => meet1 d set (ix ps (j : Int)) j) (k := j) (by omega) h2, Bool.and_false]
              have hsu := below_succ (q := fun q : Nat => meetK d set (ix ps (j : Int)) j q = true) (k := k) ht
              have hy : ¬ ((ix set (k : Int) = srv (ix d (j : Int)) set ∧ ix ps (j : Int) < ix (ix d (j : Int)) (ix set (k : Int))) ∨ (ix set (k : Int) ≠ srv (ix d (j : Int)) set ∧ ix (ix d (j : Int)) (ix set (k : Int)) < ix ps (j : Int))) → meetK d set (ix ps (j : Int)) j k = true := fun hh => by
                unfold meetK
                rw [Bool.not_eq_true', Bool.or_eq_false_iff, Bool.and_eq_false_iff, Bool.and_eq_false_iff, decide_eq_false_iff_not, decide_eq_false_iff_not, decide_eq_false_iff_not, decide_eq_false_iff_not]
                omega
              repeat' (first | refine fork_intro (fun hb => ?_) (fun hb => ?_) | refine partB_intro (fun hb => ?_) (fun hb => ?_) | refine And.intro ?_ ?_)
              all_goals first | exact True.intro | omega | with_reducible rfl | exact congrArg (AV.int _) (by omega) | (refine LoopEnd.intro (k + 1) (by first | omega | (first | exact ⟨by omega, hsu (hy (by omega))⟩)) (by first | omega | (dsimp only; omega)) (by omega) ?_; simp only [go_sem, ↓reduceIte, Nat.reduceEqDiff, Nat.reduceBEq, Nat.reduceAdd, Nat.reduceSub, Nat.reduceLeDiff, Nat.reduceMul, Nat.reduceLT]; (repeat' (first | refine fork_intro (fun hb => ?_) (fun hb => ?_) | refine partB_intro (fun hb => ?_) (fun hb => ?_) | refine And.intro ?_ ?_)); all_goals first | exact True.intro | omega | with_reducible rfl | exact congrArg (AV.int _) (by omega) | (first | (rw [hz (by omega)]; done) | (rw [hz (by omega)]; rfl))) | (first | (rw [hz (by omega)]; done) | (rw [hz (by omega)]; rfl))
            · have h2 : meet1 d set (ix ps (j : Int)) j = true := by rw [← meet1_eq h.pos]; exact allN_t (fun q hq => ht q (by omega))
              have hsu := below_succ (q := fun q : Nat => meet1 d set (ix ps (q : Int)) q = true) (k := j) hu h2
              repeat' (first | refine fork_intro (fun hb => ?_) (fun hb => ?_) | refine partB_intro (fun hb => ?_) (fun hb => ?_) | refine And.intro ?_ ?_)
              all_goals first | exact True.intro | omega | with_reducible rfl | exact congrArg (AV.int _) (by omega) | (refine LoopEnd.intro (j + 1) (by first | omega | (first | exact ⟨by omega, hsu⟩)) (by first | omega | (dsimp only; omega)) (by omega) ?_; simp only [go_sem, ↓reduceIte, Nat.reduceEqDiff, Nat.reduceBEq, Nat.reduceAdd, Nat.reduceSub, Nat.reduceLeDiff, Nat.reduceMul, Nat.reduceLT]; (repeat' (first | refine fork_intro (fun hb => ?_) (fun hb => ?_) | refine partB_intro (fun hb => ?_) (fun hb => ?_) | refine And.intro ?_ ?_)); all_goals first | exact True.intro | omega | with_reducible rfl | exact congrArg (AV.int _) (by omega))
        · have hz : meetB o d ps set = true := by rw [meetB, hall, allN_t (p := fun j => meet1 d set (ix ps (j : Int)) j) (fun q hq => hu q (by omega))]; rfl
          rw [hz]
          repeat' (first | refine fork_intro (fun hb => ?_) (fun hb => ?_) | refine partB_intro (fun hb => ?_) (fun hb => ?_) | refine And.intro ?_ ?_)
          all_goals first | exact True.intro | omega | with_reducible rfl | exact congrArg (AV.int _) (by omega) | (first | rfl)
    · have hz : meetB o d ps set = false := by
        rw [meetB]
        cases hall : allN (meetT o d ps set) set.length with
        | false => rfl
        | true => exact (hc (by rw [hts.2 hall]; rfl)).elim
      rw [hz]
      repeat' (first | refine fork_intro (fun hb => ?_) (fun hb => ?_) | refine partB_intro (fun hb => ?_) (fun hb => ?_) | refine And.intro ?_ ?_)
      all_goals first | exact True.intro | omega | with_reducible rfl | exact congrArg (AV.int _) (by omega) | (first | rfl)
  · have ho : opened o d set = false := by rw [opened, hr, Bool.and_false]
    rw [ho]; simp
  · rw [hg]; simp
def t_meetOfI : Table := [(43, pureC g_meetOfI)]
theorem t_meetOfI_ok : TabOK Tryz.prog t_meetOfI := .cons Tryz.func43 (by kernel_rfl) (.pure (by intro args hp; unfold g_meetOfI at hp ⊢; split at hp <;> first | exact hp.elim | exact meetOfI_ok _ _ _ _ hp)) (.nil _)
attribute [go_sem] g_meetOfI_eq t_meetOfI
end Go.Proofs.YteefjdbdknkcjaaGreat
