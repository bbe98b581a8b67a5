/- Sets as lists and as bits, idle sites, prices that meet a set: both packages say the same. -/
import Derived.Test.YteefjdbdknkcjaaA14
import Derived.Test.YteefjdbdknkcjaaA8
import Derived.Test.YteefjdbdknkcjaaPlB
namespace Go.Proofs.Yteefjdbdknkcjaa
open Go.Vc
set_option maxRecDepth 100000
set_option linter.unusedSimpArgs false
set_option linter.unusedVariables false

def g_bagI : List AV → Prop × AV
  | [.ints xs] => (xs.length ≤ 1048576000 ∧ ∀ x ∈ xs, 0 ≤ x ∧ x < 7, .int .u64 (bag xs))
  | _ => (False, .undef)
theorem g_bagI_eq (xs : List Int) : g_bagI [.ints xs] = (xs.length ≤ 1048576000 ∧ ∀ x ∈ xs, 0 ≤ x ∧ x < 7, .int .u64 (bag xs)) := (rfl)
theorem bagI_ok (xs : List Int) (hp : xs.length ≤ 1048576000 ∧ ∀ x ∈ xs, 0 ≤ x ∧ x < 7) : SpecOK Try.prog 61 [.ints xs] (.int .u64 (bag xs)) [] := by
  refine fun_ok (C := []) (hint := hintX [] [] 0 [] [] [] []) (TabOK.nil _) mixed Try.func61 rfl (by kernel_rfl) rfl ?_
  show codeA _ _ _ _ _ _ _ _
  simp only [go_sem, ↓reduceIte, Nat.reduceEqDiff, Nat.reduceBEq, Nat.reduceAdd, Nat.reduceSub, Nat.reduceLeDiff, Nat.reduceMul, Nat.reduceLT, Try.results61]
  obtain ⟨hl, hx⟩ := hp
  refine loop_intro (fun k : Nat => [(3, .int .u64 (bagF (xs.take k) 0)), (6, .ints xs), (7, .int .i64 xs.length), (8, .int .i64 k)]) (fun _ => []) 0 (fun k => k ≤ xs.length) (fun k => xs.length - k) 0 (by omega) (by omega) ?_ ?_
  · simp only [go_sem, ↓reduceIte, Nat.reduceEqDiff, Nat.reduceBEq, Nat.reduceAdd, Nat.reduceSub, Nat.reduceLeDiff, Nat.reduceMul, Nat.reduceLT]
    repeat' (first | refine fork_intro (fun hb => ?_) (fun hb => ?_) | refine partB_intro (fun hb => ?_) (fun hb => ?_) | refine And.intro ?_ ?_)
    all_goals first | exact True.intro | omega | with_reducible rfl | exact congrArg (AV.int _) (by omega) | (first | rfl)
  · intro k hk
    have hb := bagF_lt7 hx k
    simp only [go_sem, ↓reduceIte, Nat.reduceEqDiff, Nat.reduceBEq, Nat.reduceAdd, Nat.reduceSub, Nat.reduceLeDiff, Nat.reduceMul, Nat.reduceLT]
    refine fork_intro (fun hc => ?_) (fun hc => ?_)
    · have hm := hx _ (ix_mem xs (k := k) (by omega))
      obtain ⟨p1, p2, p3⟩ := pow7 (ix xs (k : Int)).toNat (by omega)
      have e := bagF_take xs 0 (k := k) (by omega)
      have hb2 := bagF_lt7 hx (k + 1)
      rw [p3, bitN_or, ← e]
      repeat' (first | refine fork_intro (fun hb => ?_) (fun hb => ?_) | refine partB_intro (fun hb => ?_) (fun hb => ?_) | refine And.intro ?_ ?_)
      all_goals first | exact True.intro | omega | with_reducible rfl | exact congrArg (AV.int _) (by omega) | (refine LoopEnd.intro (k + 1) (by first | omega) (by first | omega | (dsimp only; omega)) (by omega) ?_; simp only [go_sem, ↓reduceIte, Nat.reduceEqDiff, Nat.reduceBEq, Nat.reduceAdd, Nat.reduceSub, Nat.reduceLeDiff, Nat.reduceMul, Nat.reduceLT]; (repeat' (first | refine fork_intro (fun hb => ?_) (fun hb => ?_) | refine partB_intro (fun hb => ?_) (fun hb => ?_) | refine And.intro ?_ ?_)); all_goals first | exact True.intro | omega | with_reducible rfl | exact congrArg (AV.int _) (by omega) | (first | rfl)) | (first | rfl)
    · rw [show k = xs.length by omega, List.take_length]; rfl
def t_bagI : Table := [(61, pureC g_bagI)]
theorem t_bagI_ok : TabOK Try.prog t_bagI := .cons Try.func61 (by kernel_rfl) (.pure (by intro args hp; unfold g_bagI at hp ⊢; split at hp <;> first | exact hp.elim | exact bagI_ok _ hp)) (.nil _)
attribute [go_sem] g_bagI_eq t_bagI
def g_hasI : List AV → Prop × AV
  | [.int .u64 b, .int .i64 x] => ((0 ≤ b ∧ b < 128) ∧ 0 ≤ x ∧ x ≤ 63, .bool (b.toNat.testBit x.toNat))
  | _ => (False, .undef)
theorem g_hasI_eq (b x : Int) : g_hasI [.int .u64 b, .int .i64 x] = ((0 ≤ b ∧ b < 128) ∧ 0 ≤ x ∧ x ≤ 63, .bool (b.toNat.testBit x.toNat)) := (rfl)
theorem hasI_ok (b x : Int) (hp : (0 ≤ b ∧ b < 128) ∧ 0 ≤ x ∧ x ≤ 63) : SpecOK Try.prog 94 [.int .u64 b, .int .i64 x] (.bool (b.toNat.testBit x.toNat)) [] := by
  refine fun_ok (C := []) (hint := hintX [] [] 0 [] [] [] []) (TabOK.nil _) mixed Try.func94 rfl (by kernel_rfl) rfl ?_
  show codeA _ _ _ _ _ _ _ _
  simp only [go_sem, ↓reduceIte, Nat.reduceEqDiff, Nat.reduceBEq, Nat.reduceAdd, Nat.reduceSub, Nat.reduceLeDiff, Nat.reduceMul, Nat.reduceLT, Try.results94]
  obtain ⟨⟨h0, h1⟩, h2, h3⟩ := hp
  obtain ⟨b, rfl⟩ : ∃ n : Nat, b = n := ⟨b.toNat, by omega⟩
  obtain ⟨x, rfl⟩ : ∃ n : Nat, x = n := ⟨x.toNat, by omega⟩
  have hs := shr_le b x
  simp only [Int.toNat_natCast, shr_nat, bitN_and]
  have hb := bit_one b x
  repeat' (first | refine fork_intro (fun hb => ?_) (fun hb => ?_) | refine partB_intro (fun hb => ?_) (fun hb => ?_) | refine And.intro ?_ ?_)
  all_goals first | exact True.intro | omega | with_reducible rfl | exact congrArg (AV.int _) (by omega) | (first | (rw [← hb]; rfl) | (show _ ≤ _; decide) | decide)
def t_hasI : Table := [(94, pureC g_hasI)]
theorem t_hasI_ok : TabOK Try.prog t_hasI := .cons Try.func94 (by kernel_rfl) (.pure (by intro args hp; unfold g_hasI at hp ⊢; split at hp <;> first | exact hp.elim | exact hasI_ok _ _ hp)) (.nil _)
attribute [go_sem] g_hasI_eq t_hasI
def g_listI : List AV → Prop × AV × Heap
  | [.int .u64 b] => (0 ≤ b ∧ b < 128, .sl 0, [(0, .arr (.ints (bagL b.toNat)))])
  | _ => (False, .undef, [])
theorem g_listI_eq (b : Int) : g_listI [.int .u64 b] = (0 ≤ b ∧ b < 128, .sl 0, [(0, .arr (.ints (bagL b.toNat)))]) := (rfl)
theorem listI_ok (b : Int) (hp : 0 ≤ b ∧ b < 128) : SpecOK Try.prog 62 [.int .u64 b] (.sl 0) [(0, .arr (.ints (bagL b.toNat)))] := by
  refine fun_ok (C := t_hasI) (hint := hintX [5] [] 0 [] [] [] []) (t_hasI_ok) mixed Try.func62 rfl (by kernel_rfl) rfl ?_
  show codeA _ _ _ _ _ _ _ _
  simp only [go_sem, ↓reduceIte, Nat.reduceEqDiff, Nat.reduceBEq, Nat.reduceAdd, Nat.reduceSub, Nat.reduceLeDiff, Nat.reduceMul, Nat.reduceLT, Try.results62]
  obtain ⟨h0, h1⟩ := hp
  obtain ⟨b, rfl⟩ : ∃ n : Nat, b = n := ⟨b.toNat, by omega⟩
  simp only [Int.toNat_natCast]
  refine loop_intro (fun x : Nat => [(3, .sl 0), (4, .int .i64 x), (0, .int .u64 b)]) (fun x => [(0, .arr (.ints (sel b.testBit x)))]) 1 (fun x => x ≤ 7) (fun x => 7 - x) 0 (by omega) (by omega) ?_ ?_
  · simp only [go_sem, ↓reduceIte, Nat.reduceEqDiff, Nat.reduceBEq, Nat.reduceAdd, Nat.reduceSub, Nat.reduceLeDiff, Nat.reduceMul, Nat.reduceLT]
    repeat' (first | refine fork_intro (fun hb => ?_) (fun hb => ?_) | refine partB_intro (fun hb => ?_) (fun hb => ?_) | refine And.intro ?_ ?_)
    all_goals first | exact True.intro | omega | with_reducible rfl | exact congrArg (AV.int _) (by omega) | (first | rfl)
  · intro x hx
    have hs := shr_le b x
    have hsl := sel_len b.testBit x
    have hpos := shr_pos b x
    simp only [go_sem, ↓reduceIte, Nat.reduceEqDiff, Nat.reduceBEq, Nat.reduceAdd, Nat.reduceSub, Nat.reduceLeDiff, Nat.reduceMul, Nat.reduceLT]
    refine ⟨by omega, fork_intro (fun hc => ?_) (fun hc => ?_)⟩
    · have hx7 := lt_pow7 (show b < 128 by omega) (hpos.1 hc)
      refine ⟨⟨by omega, by omega⟩, partB_intro (fun hd => ?_) (fun hd => ?_)⟩
      · have e := sel_t (p := b.testBit) (n := x) hd
        repeat' (first | refine fork_intro (fun hb => ?_) (fun hb => ?_) | refine partB_intro (fun hb => ?_) (fun hb => ?_) | refine And.intro ?_ ?_)
        all_goals first | exact True.intro | omega | with_reducible rfl | exact congrArg (AV.int _) (by omega) | (refine LoopEnd.intro (x + 1) (by first | omega) (by first | omega | (dsimp only; omega)) (by omega) ?_; simp only [go_sem, ↓reduceIte, Nat.reduceEqDiff, Nat.reduceBEq, Nat.reduceAdd, Nat.reduceSub, Nat.reduceLeDiff, Nat.reduceMul, Nat.reduceLT]; (repeat' (first | refine fork_intro (fun hb => ?_) (fun hb => ?_) | refine partB_intro (fun hb => ?_) (fun hb => ?_) | refine And.intro ?_ ?_)); all_goals first | exact True.intro | omega | with_reducible rfl | exact congrArg (AV.int _) (by omega) | (first | rw [e])) | (first | rw [e])
      · have e := sel_f (p := b.testBit) (n := x) hd
        repeat' (first | refine fork_intro (fun hb => ?_) (fun hb => ?_) | refine partB_intro (fun hb => ?_) (fun hb => ?_) | refine And.intro ?_ ?_)
        all_goals first | exact True.intro | omega | with_reducible rfl | exact congrArg (AV.int _) (by omega) | (refine LoopEnd.intro (x + 1) (by first | omega) (by first | omega | (dsimp only; omega)) (by omega) ?_; simp only [go_sem, ↓reduceIte, Nat.reduceEqDiff, Nat.reduceBEq, Nat.reduceAdd, Nat.reduceSub, Nat.reduceLeDiff, Nat.reduceMul, Nat.reduceLT]; (repeat' (first | refine fork_intro (fun hb => ?_) (fun hb => ?_) | refine partB_intro (fun hb => ?_) (fun hb => ?_) | refine And.intro ?_ ?_)); all_goals first | exact True.intro | omega | with_reducible rfl | exact congrArg (AV.int _) (by omega) | (first | rw [e])) | (first | rw [e])
    · have hlt : b < 2 ^ x := Nat.lt_of_not_le (fun h => hc (hpos.2 h))
      rw [bagL_eq hlt (by omega)]
      repeat' (first | refine fork_intro (fun hb => ?_) (fun hb => ?_) | refine partB_intro (fun hb => ?_) (fun hb => ?_) | refine And.intro ?_ ?_)
      all_goals first | exact True.intro | omega | with_reducible rfl | exact congrArg (AV.int _) (by omega) | (first | rfl)
def t_listI : Table := [(62, ownC g_listI)]
theorem t_listI_ok : TabOK Try.prog t_listI := .cons Try.func62 (by kernel_rfl) (.own (by intro args hp; unfold g_listI at hp ⊢; split at hp <;> first | exact hp.elim | exact ⟨listI_ok _ hp, rfl⟩)) (.nil _)
attribute [go_sem] g_listI_eq t_listI
def g_clientsS : List AV → Prop × AV
  | [.agg [.ints o, .rows d], .ints set, .int .i64 s] => (OpenOK o d set, .ints (clientsL d set s))
  | _ => (False, .undef)
theorem g_clientsS_eq (o : List Int) (d : List (List Int)) (set : List Int) (s : Int) : g_clientsS [.agg [.ints o, .rows d], .ints set, .int .i64 s] = (OpenOK o d set, .ints (clientsL d set s)) := (rfl)
theorem clientsS_ok (o : List Int) (d : List (List Int)) (set : List Int) (s : Int) (hp : OpenOK o d set) : SpecOK Try.prog 60 [.agg [.ints o, .rows d], .ints set, .int .i64 s] (.ints (clientsL d set s)) [] := by
  refine fun_ok (C := t_siteS) (hint := hintX [9] [] 0 [] [] [] []) (t_siteS_ok) mixed Try.func60 rfl (by kernel_rfl) rfl ?_
  show codeA _ _ _ _ _ _ _ _
  simp only [go_sem, ↓reduceIte, Nat.reduceEqDiff, Nat.reduceBEq, Nat.reduceAdd, Nat.reduceSub, Nat.reduceLeDiff, Nat.reduceMul, Nat.reduceLT, Try.results60]
  have hm := hp.f.m7
  refine loop_intro (fun i : Nat => [(7, .sl 0), (8, .int .i64 i), (1, .ints set), (2, .int .i64 s), (3, .iptr [.ints o, .rows d])]) (fun i => [(0, .arr (.ints (sel (fun i => decide (srv (ix d (i : Int)) set = s)) i)))]) 1 (fun i => i ≤ d.length) (fun i => d.length - i) 0 (by omega) (by omega) ?_ ?_
  · simp only [go_sem, ↓reduceIte, Nat.reduceEqDiff, Nat.reduceBEq, Nat.reduceAdd, Nat.reduceSub, Nat.reduceLeDiff, Nat.reduceMul, Nat.reduceLT]
    repeat' (first | refine fork_intro (fun hb => ?_) (fun hb => ?_) | refine partB_intro (fun hb => ?_) (fun hb => ?_) | refine And.intro ?_ ?_)
    all_goals first | exact True.intro | omega | with_reducible rfl | exact congrArg (AV.int _) (by omega) | (first | rfl)
  · intro i hi
    have hsl := sel_len (fun i => decide (srv (ix d (i : Int)) set = s)) i
    simp only [go_sem, ↓reduceIte, Nat.reduceEqDiff, Nat.reduceBEq, Nat.reduceAdd, Nat.reduceSub, Nat.reduceLeDiff, Nat.reduceMul, Nat.reduceLT]
    refine fork_intro (fun hc => ?_) (fun hc => ?_)
    · refine ⟨⟨hp, by omega, by omega⟩, fork_intro (fun hd => ?_) (fun hd => ?_)⟩
      · have e := sel_t (p := fun i => decide (srv (ix d (i : Int)) set = s)) (n := i) (decide_eq_true hd)
        repeat' (first | refine fork_intro (fun hb => ?_) (fun hb => ?_) | refine partB_intro (fun hb => ?_) (fun hb => ?_) | refine And.intro ?_ ?_)
        all_goals first | exact True.intro | omega | with_reducible rfl | exact congrArg (AV.int _) (by omega) | (refine LoopEnd.intro (i + 1) (by first | omega) (by first | omega | (dsimp only; omega)) (by omega) ?_; simp only [go_sem, ↓reduceIte, Nat.reduceEqDiff, Nat.reduceBEq, Nat.reduceAdd, Nat.reduceSub, Nat.reduceLeDiff, Nat.reduceMul, Nat.reduceLT]; (repeat' (first | refine fork_intro (fun hb => ?_) (fun hb => ?_) | refine partB_intro (fun hb => ?_) (fun hb => ?_) | refine And.intro ?_ ?_)); all_goals first | exact True.intro | omega | with_reducible rfl | exact congrArg (AV.int _) (by omega) | (first | rw [e])) | (first | rw [e])
      · have e := sel_f (p := fun i => decide (srv (ix d (i : Int)) set = s)) (n := i) (decide_eq_false hd)
        repeat' (first | refine fork_intro (fun hb => ?_) (fun hb => ?_) | refine partB_intro (fun hb => ?_) (fun hb => ?_) | refine And.intro ?_ ?_)
        all_goals first | exact True.intro | omega | with_reducible rfl | exact congrArg (AV.int _) (by omega) | (refine LoopEnd.intro (i + 1) (by first | omega) (by first | omega | (dsimp only; omega)) (by omega) ?_; simp only [go_sem, ↓reduceIte, Nat.reduceEqDiff, Nat.reduceBEq, Nat.reduceAdd, Nat.reduceSub, Nat.reduceLeDiff, Nat.reduceMul, Nat.reduceLT]; (repeat' (first | refine fork_intro (fun hb => ?_) (fun hb => ?_) | refine partB_intro (fun hb => ?_) (fun hb => ?_) | refine And.intro ?_ ?_)); all_goals first | exact True.intro | omega | with_reducible rfl | exact congrArg (AV.int _) (by omega) | (first | rw [e])) | (first | rw [e])
    · rw [show i = d.length by omega]; rfl
def t_clientsS : Table := [(60, pureC g_clientsS)]
theorem t_clientsS_ok : TabOK Try.prog t_clientsS := .cons Try.func60 (by kernel_rfl) (.pure (by intro args hp; unfold g_clientsS at hp ⊢; split at hp <;> first | exact hp.elim | exact clientsS_ok _ _ _ _ hp)) (.nil _)
attribute [go_sem] g_clientsS_eq t_clientsS
def g_idleS : List AV → Prop × AV
  | [.agg [.ints o, .rows d], .ints set] => ((o.length ≤ 1048576000 ∧ d.length ≤ 1048576000 ∧ ∀ x ∈ d, x.length ≤ 1048576000) ∧ set.length ≤ 1048576000, .tup [.ints (bif opened o d set then idleL d set else []), .bool (opened o d set)])
  | _ => (False, .undef)
theorem g_idleS_eq (o : List Int) (d : List (List Int)) (set : List Int) : g_idleS [.agg [.ints o, .rows d], .ints set] = ((o.length ≤ 1048576000 ∧ d.length ≤ 1048576000 ∧ ∀ x ∈ d, x.length ≤ 1048576000) ∧ set.length ≤ 1048576000, .tup [.ints (bif opened o d set then idleL d set else []), .bool (opened o d set)]) := (rfl)
theorem idleS_ok (o : List Int) (d : List (List Int)) (set : List Int) (hp : (o.length ≤ 1048576000 ∧ d.length ≤ 1048576000 ∧ ∀ x ∈ d, x.length ≤ 1048576000) ∧ set.length ≤ 1048576000) : SpecOK Try.prog 22 [.agg [.ints o, .rows d], .ints set] (.tup [.ints (bif opened o d set then idleL d set else []), .bool (opened o d set)]) [] := by
  refine fun_ok (C := t_twoS ++ t_clientsS) (hint := hintX [8] [] 0 [] [] [] []) ((t_twoS_ok).append t_clientsS_ok) mixed Try.func22 rfl (by kernel_rfl) rfl ?_
  show codeA _ _ _ _ _ _ _ _
  simp only [go_sem, ↓reduceIte, Nat.reduceEqDiff, Nat.reduceBEq, Nat.reduceAdd, Nat.reduceSub, Nat.reduceLeDiff, Nat.reduceMul, Nat.reduceLT, Try.results22]
  refine ⟨hp, partB_intro (fun hg => ?_) (fun hg => ?_)⟩
  · have h := opened_iff hp.2 hg
    have hl := h.len
    refine loop_intro (fun k : Nat => [(6, .sl 0), (7, .int .i64 k), (1, .ints set), (2, .iptr [.ints o, .rows d])]) (fun k => [(0, .arr (.ints ((set.take k).filter fun s => decide ((clientsL d set s).length = 0))))]) 1 (fun k => k ≤ set.length) (fun k => set.length - k) 0 (by omega) (by omega) ?_ ?_
    · simp only [go_sem, ↓reduceIte, Nat.reduceEqDiff, Nat.reduceBEq, Nat.reduceAdd, Nat.reduceSub, Nat.reduceLeDiff, Nat.reduceMul, Nat.reduceLT]
      repeat' (first | refine fork_intro (fun hb => ?_) (fun hb => ?_) | refine partB_intro (fun hb => ?_) (fun hb => ?_) | refine And.intro ?_ ?_)
      all_goals first | exact True.intro | omega | with_reducible rfl | exact congrArg (AV.int _) (by omega) | (first | rfl)
    · intro k hk
      have hfl := filter_len (fun s => decide ((clientsL d set s).length = 0)) set k
      simp only [go_sem, ↓reduceIte, Nat.reduceEqDiff, Nat.reduceBEq, Nat.reduceAdd, Nat.reduceSub, Nat.reduceLeDiff, Nat.reduceMul, Nat.reduceLT]
      refine fork_intro (fun hc => ?_) (fun hc => ?_)
      · refine ⟨by omega, h, fork_intro (fun hd => ?_) (fun hd => ?_)⟩
        · have e := filter_take_t (p := fun s => decide ((clientsL d set s).length = 0)) (xs := set) (k := k) (by omega) (decide_eq_true (by omega))
          repeat' (first | refine fork_intro (fun hb => ?_) (fun hb => ?_) | refine partB_intro (fun hb => ?_) (fun hb => ?_) | refine And.intro ?_ ?_)
          all_goals first | exact True.intro | omega | with_reducible rfl | exact congrArg (AV.int _) (by omega) | (refine LoopEnd.intro (k + 1) (by first | omega) (by first | omega | (dsimp only; omega)) (by omega) ?_; simp only [go_sem, ↓reduceIte, Nat.reduceEqDiff, Nat.reduceBEq, Nat.reduceAdd, Nat.reduceSub, Nat.reduceLeDiff, Nat.reduceMul, Nat.reduceLT]; (repeat' (first | refine fork_intro (fun hb => ?_) (fun hb => ?_) | refine partB_intro (fun hb => ?_) (fun hb => ?_) | refine And.intro ?_ ?_)); all_goals first | exact True.intro | omega | with_reducible rfl | exact congrArg (AV.int _) (by omega) | (first | rw [e])) | (first | rw [e])
        · have e := filter_take_f (p := fun s => decide ((clientsL d set s).length = 0)) (xs := set) (k := k) (by omega) (decide_eq_false (by omega))
          repeat' (first | refine fork_intro (fun hb => ?_) (fun hb => ?_) | refine partB_intro (fun hb => ?_) (fun hb => ?_) | refine And.intro ?_ ?_)
          all_goals first | exact True.intro | omega | with_reducible rfl | exact congrArg (AV.int _) (by omega) | (refine LoopEnd.intro (k + 1) (by first | omega) (by first | omega | (dsimp only; omega)) (by omega) ?_; simp only [go_sem, ↓reduceIte, Nat.reduceEqDiff, Nat.reduceBEq, Nat.reduceAdd, Nat.reduceSub, Nat.reduceLeDiff, Nat.reduceMul, Nat.reduceLT]; (repeat' (first | refine fork_intro (fun hb => ?_) (fun hb => ?_) | refine partB_intro (fun hb => ?_) (fun hb => ?_) | refine And.intro ?_ ?_)); all_goals first | exact True.intro | omega | with_reducible rfl | exact congrArg (AV.int _) (by omega) | (first | rw [e])) | (first | rw [e])
      · rw [hg, show k = set.length by omega, List.take_length]; exact ⟨rfl, rfl⟩
  · rw [hg]; first | rfl | exact ⟨rfl, rfl⟩
def t_idleS : Table := [(22, pureC g_idleS)]
theorem t_idleS_ok : TabOK Try.prog t_idleS := .cons Try.func22 (by kernel_rfl) (.pure (by intro args hp; unfold g_idleS at hp ⊢; split at hp <;> first | exact hp.elim | exact idleS_ok _ _ _ hp)) (.nil _)
attribute [go_sem] g_idleS_eq t_idleS
def g_idleI : List AV → Prop × AV × Heap
  | [.agg [.ints o, .rows d], .ints set] => ((o.length ≤ 1048576000 ∧ d.length ≤ 1048576000 ∧ ∀ x ∈ d, x.length ≤ 1048576000) ∧ set.length ≤ 1048576000, .tup [.sl 1, .bool (opened o d set)], [(1, .arr (.ints (bif opened o d set then idleL d set else [])))])
  | _ => (False, .undef, [])
theorem g_idleI_eq (o : List Int) (d : List (List Int)) (set : List Int) : g_idleI [.agg [.ints o, .rows d], .ints set] = ((o.length ≤ 1048576000 ∧ d.length ≤ 1048576000 ∧ ∀ x ∈ d, x.length ≤ 1048576000) ∧ set.length ≤ 1048576000, .tup [.sl 1, .bool (opened o d set)], [(1, .arr (.ints (bif opened o d set then idleL d set else [])))]) := (rfl)
theorem idleI_ok (o : List Int) (d : List (List Int)) (set : List Int) (hp : (o.length ≤ 1048576000 ∧ d.length ≤ 1048576000 ∧ ∀ x ∈ d, x.length ≤ 1048576000) ∧ set.length ≤ 1048576000) : SpecOK Try.prog 21 [.agg [.ints o, .rows d], .ints set] (.tup [.sl 1, .bool (opened o d set)]) [(1, .arr (.ints (bif opened o d set then idleL d set else [])))] := by
  refine fun_ok (C := t_openI ++ t_bagI ++ t_servedI ++ t_listI) (hint := hintX [17] [(2, [.post, .skip, .up 4 (.arr (.ints []))])] 0 [] [] [] []) ((((t_openI_ok).append t_bagI_ok).append t_servedI_ok).append t_listI_ok) mixed Try.func21 rfl (by kernel_rfl) rfl ?_
  show codeA _ _ _ _ _ _ _ _
  simp only [go_sem, ↓reduceIte, Nat.reduceEqDiff, Nat.reduceBEq, Nat.reduceAdd, Nat.reduceSub, Nat.reduceLeDiff, Nat.reduceMul, Nat.reduceLT, Try.results21]
  refine ⟨hp, partB_intro (fun hg => ?_) (fun hg => ?_)⟩
  · have h := opened_iff hp.2 hg
    have h7 := h.seven
    have hm := h.f.m7
    have hu : Up set := by
      simp only [opened, Bool.and_eq_true] at hg
      exact ris_up hg.2.1
    have hs : ∀ x ∈ servedL d set, 0 ≤ x ∧ x < 7 := fun x hx => by
      obtain ⟨k, hk, rfl⟩ := mem_tab.1 hx
      exact h7 _ (srv_mem _ h.pos)
    have hsl : (servedL d set).length = d.length := tab_len _ _
    have hb1 := bag_lt h7
    have hb2 := bag_lt hs
    have hb3 := andNot_lt (bag (servedL d set)) hb1
    have he := idle_eq h hu
    rw [hg]
    simp only [bitN_andNot]
    refine ⟨⟨hp.2, h7⟩, h, ⟨by omega, hs⟩, ⟨by omega, by omega⟩, ⟨by omega, by omega⟩, ?_⟩
    rw [he]
    repeat' (first | refine fork_intro (fun hb => ?_) (fun hb => ?_) | refine partB_intro (fun hb => ?_) (fun hb => ?_) | refine And.intro ?_ ?_)
    all_goals first | exact True.intro | omega | with_reducible rfl | exact congrArg (AV.int _) (by omega) | (first | rfl)
  · rw [hg]; first | rfl | exact ⟨rfl, rfl⟩
def t_idleI : Table := [(21, ownC g_idleI)]
theorem t_idleI_ok : TabOK Try.prog t_idleI := .cons Try.func21 (by kernel_rfl) (.own (by intro args hp; unfold g_idleI at hp ⊢; split at hp <;> first | exact hp.elim | exact ⟨idleI_ok _ _ _ hp, rfl⟩)) (.nil _)
attribute [go_sem] g_idleI_eq t_idleI
end Go.Proofs.Yteefjdbdknkcjaa
