/- LineField: both packages say the same. -/
import Derived.Test.YtibomnplkclkmaaA5
import Derived.Test.YtibomnplkclkmaaA6
namespace Go.Proofs.Ytibomnplkclkmaa
open Go.Vc
set_option maxRecDepth 100000
set_option linter.unusedSimpArgs false
set_option linter.unusedVariables false

def clP (c : List Int) (k : Nat) : Prop := (0 ≤ ix c (k : Int) ∧ ix c (k : Int) ≤ 99) ∧ (0 < k → ix c ((k : Int) - 1) ≤ ix c (k : Int))
def srt (c : List Int) : Bool := decide (∀ k, k < c.length → 0 < k → ix c ((k : Int) - 1) ≤ ix c (k : Int))
def lineB (s c : List Int) : Bool := (rowOK 99 c && srt c) && (decide (1 ≤ (s.length : Int) ∧ (s.length : Int) ≤ 7) && (ris 0 99 s && decide ((c.length : Int) ≤ 7)))
def laidD (s c : List Int) : List (List Int) := tab c.length fun i => tab s.length fun a => max (ix c (i : Int) - ix s (a : Int)) (ix s (a : Int) - ix c (i : Int))
theorem clP_no {c : List Int} {k : Nat} (hk : k < c.length) (h : ¬ clP c k) : (rowOK 99 c && srt c) = false := by
  cases e : (rowOK 99 c && srt c) with
  | false => rfl
  | true =>
    simp only [Bool.and_eq_true] at e
    exact (h ⟨rowOK_iff.1 e.1 _ (ix_mem c hk), fun h0 => (of_decide_eq_true e.2) k hk h0⟩).elim
theorem clP_all {c : List Int} (h : ∀ k, k < c.length → clP c k) : (rowOK 99 c && srt c) = true := by
  rw [Bool.and_eq_true]
  refine ⟨rowOK_iff.2 (fun x hx => ?_), decide_eq_true (fun k hk h0 => (h k hk).2 h0)⟩
  obtain ⟨k, hk, rfl⟩ := mem_ix hx
  exact (h k hk).1
structure LineOK (s c : List Int) : Prop where
  n1 : 1 ≤ s.length
  n7 : s.length ≤ 7
  m7 : c.length ≤ 7
  s99 : ∀ k : Nat, k < s.length → 0 ≤ ix s (k : Int) ∧ ix s (k : Int) ≤ 99
  c99 : ∀ k : Nat, k < c.length → 0 ≤ ix c (k : Int) ∧ ix c (k : Int) ≤ 99
theorem lineB_iff {s c : List Int} (h : lineB s c = true) : LineOK s c := by
  simp only [lineB, Bool.and_eq_true, decide_eq_true_eq] at h
  obtain ⟨⟨h1, h2⟩, h3, h4, h5⟩ := h
  exact ⟨by omega, by omega, by omega, fun k hk => ris_mem h4 hk, fun k hk => rowOK_iff.1 h1 _ (ix_mem c hk)⟩

def g_lineS : List AV → Prop × AV
  | [.ints s, .ints c] => (s.length ≤ 1048576000 ∧ c.length ≤ 1048576000, .bool (lineB s c))
  | _ => (False, .undef)
theorem g_lineS_eq (s c : List Int) : g_lineS [.ints s, .ints c] = (s.length ≤ 1048576000 ∧ c.length ≤ 1048576000, .bool (lineB s c)) := (rfl)
theorem lineS_ok (s c : List Int) (hp : s.length ≤ 1048576000 ∧ c.length ≤ 1048576000) : SpecOK Try.prog 95 [.ints s, .ints c] (.bool (lineB s c)) [] := by
  refine fun_ok (C := t_l1In ++ t_risS) (hint := hintX [] [] 0 [] [] [] []) ((t_l1In_ok).append t_risS_ok) mixed Try.func95 rfl (by kernel_rfl) rfl ?_
  show codeA _ _ _ _ _ _ _ _
  simp only [go_sem, ↓reduceIte, Nat.reduceEqDiff, Nat.reduceBEq, Nat.reduceAdd, Nat.reduceSub, Nat.reduceLeDiff, Nat.reduceMul, Nat.reduceLT, Try.results95]
  obtain ⟨hs, hc⟩ := hp
  refine loop_intro (fun k : Nat => [(5, .int .i64 k), (0, .ints s), (1, .ints c)]) (fun _ => []) 0 (fun k => k ≤ c.length ∧ ∀ j : Nat, j < k → clP c j) (fun k => c.length - k) 0 ⟨Nat.zero_le _, fun j h => absurd h (Nat.not_lt_zero _)⟩ (Nat.zero_le _) ?_ ?_
  · simp only [go_sem, ↓reduceIte, Nat.reduceEqDiff, Nat.reduceBEq, Nat.reduceAdd, Nat.reduceSub, Nat.reduceLeDiff, Nat.reduceMul, Nat.reduceLT]
    repeat' (first | refine fork_intro (fun hb => ?_) (fun hb => ?_) | refine partB_intro (fun hb => ?_) (fun hb => ?_) | refine And.intro ?_ ?_)
    all_goals first | exact True.intro | omega | with_reducible rfl | exact congrArg (AV.int _) (by omega)
  · rintro k ⟨hk, ht⟩
    simp only [go_sem, ↓reduceIte, Nat.reduceEqDiff, Nat.reduceBEq, Nat.reduceAdd, Nat.reduceSub, Nat.reduceLeDiff, Nat.reduceMul, Nat.reduceLT]
    refine fork_intro (fun hb => ?_) (fun hb => ?_)
    · have hz : ¬ clP c k → lineB s c = false := fun h => by rw [lineB, clP_no (by omega) h]; rfl
      have hsu := below_succ (q := clP c) (k := k) ht
      repeat' (first | refine fork_intro (fun hb => ?_) (fun hb => ?_) | refine partB_intro (fun hb => ?_) (fun hb => ?_) | refine And.intro ?_ ?_)
      all_goals first | exact True.intro | omega | with_reducible rfl | exact congrArg (AV.int _) (by omega) | (refine LoopEnd.intro (k + 1) (by first | omega | (first | exact ⟨by omega, hsu ⟨by omega, fun _ => by omega⟩⟩)) (by first | omega | (dsimp only; omega)) (by omega) ?_; simp only [go_sem, ↓reduceIte, Nat.reduceEqDiff, Nat.reduceBEq, Nat.reduceAdd, Nat.reduceSub, Nat.reduceLeDiff, Nat.reduceMul, Nat.reduceLT]; (repeat' (first | refine fork_intro (fun hb => ?_) (fun hb => ?_) | refine partB_intro (fun hb => ?_) (fun hb => ?_) | refine And.intro ?_ ?_)); all_goals first | exact True.intro | omega | with_reducible rfl | exact congrArg (AV.int _) (by omega) | (first | rw [hz (fun h => by have h1 := h.1; have h2 := h.2; omega)])) | (first | rw [hz (fun h => by have h1 := h.1; have h2 := h.2; omega)])
    · have hy := clP_all (c := c) (fun k hk => ht k (by omega))
      rw [lineB, hy]
      repeat' (first | refine fork_intro (fun hb => ?_) (fun hb => ?_) | refine partB_intro (fun hb => ?_) (fun hb => ?_) | refine And.intro ?_ ?_)
      all_goals first | exact True.intro | omega | with_reducible rfl | exact congrArg (AV.int _) (by omega) | (first | simp [*])
def t_lineS : Table := [(95, pureC g_lineS)]
theorem t_lineS_ok : TabOK Try.prog t_lineS := .cons Try.func95 (by kernel_rfl) (.pure (by intro args hp; unfold g_lineS at hp ⊢; split at hp <;> first | exact hp.elim | exact lineS_ok _ _ hp)) (.nil _)
attribute [go_sem] g_lineS_eq t_lineS
def g_isNaN : List AV → Prop × AV
  | [.int .i64 x] => (True, .bool false)
  | _ => (False, .undef)
theorem g_isNaN_eq (x : Int) : g_isNaN [.int .i64 x] = (True, .bool false) := (rfl)
theorem isNaN_ok (x : Int) (hp : True) : SpecOK Try.prog 149 [.int .i64 x] (.bool false) [] := by
  refine fun_ok (C := []) (hint := hintX [] [] 0 [] [] [] []) (TabOK.nil _) mixed Try.func149 rfl (by kernel_rfl) rfl ?_
  show codeA _ _ _ _ _ _ _ _
  simp only [go_sem, ↓reduceIte, Nat.reduceEqDiff, Nat.reduceBEq, Nat.reduceAdd, Nat.reduceSub, Nat.reduceLeDiff, Nat.reduceMul, Nat.reduceLT, Try.results149]
  simp
def t_isNaN : Table := [(149, pureC g_isNaN)]
theorem t_isNaN_ok : TabOK Try.prog t_isNaN := .cons Try.func149 (by kernel_rfl) (.pure (by intro args hp; unfold g_isNaN at hp ⊢; split at hp <;> first | exact hp.elim | exact isNaN_ok _ hp)) (.nil _)
attribute [go_sem] g_isNaN_eq t_isNaN
def g_cmpLess : List AV → Prop × AV
  | [.int .i64 x, .int .i64 y] => (True, .bool (decide (x < y)))
  | _ => (False, .undef)
theorem g_cmpLess_eq (x y : Int) : g_cmpLess [.int .i64 x, .int .i64 y] = (True, .bool (decide (x < y))) := (rfl)
theorem cmpLess_ok (x y : Int) (hp : True) : SpecOK Try.prog 167 [.int .i64 x, .int .i64 y] (.bool (decide (x < y))) [] := by
  refine fun_ok (C := t_isNaN) (hint := hintX [] [] 0 [] [] [] []) (t_isNaN_ok) mixed Try.func167 rfl (by kernel_rfl) rfl ?_
  show codeA _ _ _ _ _ _ _ _
  simp only [go_sem, ↓reduceIte, Nat.reduceEqDiff, Nat.reduceBEq, Nat.reduceAdd, Nat.reduceSub, Nat.reduceLeDiff, Nat.reduceMul, Nat.reduceLT, Try.results167]

def t_cmpLess : Table := [(167, pureC g_cmpLess)]
theorem t_cmpLess_ok : TabOK Try.prog t_cmpLess := .cons Try.func167 (by kernel_rfl) (.pure (by intro args hp; unfold g_cmpLess at hp ⊢; split at hp <;> first | exact hp.elim | exact cmpLess_ok _ _ hp)) (.nil _)
attribute [go_sem] g_cmpLess_eq t_cmpLess
def g_sortedI : List AV → Prop × AV
  | [.ints c] => (c.length ≤ 1048576000, .bool (srt c))
  | _ => (False, .undef)
theorem g_sortedI_eq (c : List Int) : g_sortedI [.ints c] = (c.length ≤ 1048576000, .bool (srt c)) := (rfl)
theorem sortedI_ok (c : List Int) (hp : c.length ≤ 1048576000) : SpecOK Try.prog 143 [.ints c] (.bool (srt c)) [] := by
  refine fun_ok (C := t_cmpLess) (hint := hintX [] [] 0 [] [] [] []) (t_cmpLess_ok) mixed Try.func143 rfl (by kernel_rfl) rfl ?_
  show codeA _ _ _ _ _ _ _ _
  simp only [go_sem, ↓reduceIte, Nat.reduceEqDiff, Nat.reduceBEq, Nat.reduceAdd, Nat.reduceSub, Nat.reduceLeDiff, Nat.reduceMul, Nat.reduceLT, Try.results143]
  refine ⟨by omega, ?_⟩
  refine loop_intro (fun k : Nat => [(3, .int .i64 ((k : Int) - 1)), (0, .ints c)]) (fun _ => []) 0 (fun k => k ≤ c.length ∧ ∀ j : Nat, j < c.length → k ≤ j → 0 < j → ix c ((j : Int) - 1) ≤ ix c (j : Int)) (fun k => k) c.length ⟨by omega, fun j h1 h2 => by omega⟩ (Nat.zero_le _) ?_ ?_
  · simp only [go_sem, ↓reduceIte, Nat.reduceEqDiff, Nat.reduceBEq, Nat.reduceAdd, Nat.reduceSub, Nat.reduceLeDiff, Nat.reduceMul, Nat.reduceLT]
    repeat' (first | refine fork_intro (fun hb => ?_) (fun hb => ?_) | refine partB_intro (fun hb => ?_) (fun hb => ?_) | refine And.intro ?_ ?_)
    all_goals first | exact True.intro | omega | with_reducible rfl | exact congrArg (AV.int _) (by omega)
  · rintro k ⟨hk, ht⟩
    simp only [go_sem, ↓reduceIte, Nat.reduceEqDiff, Nat.reduceBEq, Nat.reduceAdd, Nat.reduceSub, Nat.reduceLeDiff, Nat.reduceMul, Nat.reduceLT]
    refine fork_intro (fun hb => ?_) (fun hb => ?_)
    · have e1 : (((k - 1 : Nat) : Nat) : Int) = (k : Int) - 1 := by omega
      refine ⟨by omega, by omega, by omega, fork_intro (fun hd => ?_) (fun hd => ?_)⟩
      · rw [show srt c = false from decide_eq_false (fun h => by have := h (k - 1) (by omega) (by omega); rw [e1] at this; omega)]
      · have hs : ∀ j : Nat, j < c.length → k - 1 ≤ j → 0 < j → ix c ((j : Int) - 1) ≤ ix c (j : Int) := fun j h1 h2 h3 => by
          by_cases h4 : k ≤ j
          · exact ht j h1 h4 h3
          · rw [show j = k - 1 by omega, e1]; omega
        repeat' (first | refine fork_intro (fun hb => ?_) (fun hb => ?_) | refine partB_intro (fun hb => ?_) (fun hb => ?_) | refine And.intro ?_ ?_)
        all_goals first | exact True.intro | omega | with_reducible rfl | exact congrArg (AV.int _) (by omega) | (refine LoopEnd.intro (k - 1) (by first | omega | (first | exact ⟨by omega, hs⟩)) (by first | omega | (dsimp only; omega)) (by omega) ?_; simp only [go_sem, ↓reduceIte, Nat.reduceEqDiff, Nat.reduceBEq, Nat.reduceAdd, Nat.reduceSub, Nat.reduceLeDiff, Nat.reduceMul, Nat.reduceLT]; (repeat' (first | refine fork_intro (fun hb => ?_) (fun hb => ?_) | refine partB_intro (fun hb => ?_) (fun hb => ?_) | refine And.intro ?_ ?_)); all_goals first | exact True.intro | omega | with_reducible rfl | exact congrArg (AV.int _) (by omega))
    · rw [show srt c = true from decide_eq_true (fun j h1 h2 => ht j h1 (by omega) h2)]
def t_sortedI : Table := [(143, pureC g_sortedI)]
theorem t_sortedI_ok : TabOK Try.prog t_sortedI := .cons Try.func143 (by kernel_rfl) (.pure (by intro args hp; unfold g_sortedI at hp ⊢; split at hp <;> first | exact hp.elim | exact sortedI_ok _ hp)) (.nil _)
attribute [go_sem] g_sortedI_eq t_sortedI
def g_laidS : List AV → Prop × AV
  | [.ints s, .ints c] => (LineOK s c, .agg [.ints (List.replicate s.length 0), .rows (laidD s c)])
  | _ => (False, .undef)
theorem g_laidS_eq (s c : List Int) : g_laidS [.ints s, .ints c] = (LineOK s c, .agg [.ints (List.replicate s.length 0), .rows (laidD s c)]) := (rfl)
theorem laidS_ok (s c : List Int) (hp : LineOK s c) : SpecOK Try.prog 97 [.ints s, .ints c] (.agg [.ints (List.replicate s.length 0), .rows (laidD s c)]) [] := by
  refine fun_ok (C := t_most2) (hint := hintX [4, 5, 12, 20] [(10, [.fz [7]])] 0 [] [] [] []) (t_most2_ok) mixed Try.func97 rfl (by kernel_rfl) rfl ?_
  show codeA _ _ _ _ _ _ _ _
  simp only [go_sem, ↓reduceIte, Nat.reduceEqDiff, Nat.reduceBEq, Nat.reduceAdd, Nat.reduceSub, Nat.reduceLeDiff, Nat.reduceMul, Nat.reduceLT, Try.results97]
  have n7 := hp.n7
  have m7 := hp.m7
  refine ⟨by omega, ?_⟩
  refine loop_intro (fun i : Nat => [(4, .bx 0 0), (5, .bx 2 0), (6, .int .i64 i), (0, .ints s), (1, .ints c)]) (fun i => [(0, .box [.nils, .nils]), (1, .arr (.rows (tab i fun i => tab s.length fun a => max (ix c (i : Int) - ix s (a : Int)) (ix s (a : Int) - ix c (i : Int))))), (2, .box [.ints (List.replicate s.length 0), .sl 1])]) 3 (fun i => i ≤ c.length) (fun i => c.length - i) 0 (by omega) (by omega) ?_ ?_
  · simp only [go_sem, ↓reduceIte, Nat.reduceEqDiff, Nat.reduceBEq, Nat.reduceAdd, Nat.reduceSub, Nat.reduceLeDiff, Nat.reduceMul, Nat.reduceLT]
    repeat' (first | refine fork_intro (fun hb => ?_) (fun hb => ?_) | refine partB_intro (fun hb => ?_) (fun hb => ?_) | refine And.intro ?_ ?_)
    all_goals first | exact True.intro | omega | with_reducible rfl | exact congrArg (AV.int _) (by omega) | (first | rfl)
  · intro i hi
    have hl : (tab i fun i => tab s.length fun a => max (ix c (i : Int) - ix s (a : Int)) (ix s (a : Int) - ix c (i : Int))).length = i := tab_len _ _
    simp only [go_sem, ↓reduceIte, Nat.reduceEqDiff, Nat.reduceBEq, Nat.reduceAdd, Nat.reduceSub, Nat.reduceLeDiff, Nat.reduceMul, Nat.reduceLT]
    refine fork_intro (fun hb => ?_) (fun hb => ?_)
    · refine loop_intro (fun a : Nat => [(7, .sl 3), (8, .int .i64 a), (4, .bx 0 0), (5, .bx 2 0), (6, .int .i64 i), (0, .ints s), (1, .ints c)]) (fun a => [(0, .box [.nils, .nils]), (1, .arr (.rows (tab i fun i => tab s.length fun a => max (ix c (i : Int) - ix s (a : Int)) (ix s (a : Int) - ix c (i : Int))))), (2, .box [.ints (List.replicate s.length 0), .sl 1]), (3, .arr (.ints (tab a fun a => max (ix c (i : Int) - ix s (a : Int)) (ix s (a : Int) - ix c (i : Int)))))]) 4 (fun a => a ≤ s.length) (fun a => s.length - a) 0 (by omega) (by omega) ?_ ?_
      · simp only [go_sem, ↓reduceIte, Nat.reduceEqDiff, Nat.reduceBEq, Nat.reduceAdd, Nat.reduceSub, Nat.reduceLeDiff, Nat.reduceMul, Nat.reduceLT]
        repeat' (first | refine fork_intro (fun hb => ?_) (fun hb => ?_) | refine partB_intro (fun hb => ?_) (fun hb => ?_) | refine And.intro ?_ ?_)
        all_goals first | exact True.intro | omega | with_reducible rfl | exact congrArg (AV.int _) (by omega) | (first | rfl)
      · intro a ha
        have hl2 : (tab a fun a => max (ix c (i : Int) - ix s (a : Int)) (ix s (a : Int) - ix c (i : Int))).length = a := tab_len _ _
        have hci := hp.c99 i (by omega)
        simp only [go_sem, ↓reduceIte, Nat.reduceEqDiff, Nat.reduceBEq, Nat.reduceAdd, Nat.reduceSub, Nat.reduceLeDiff, Nat.reduceMul, Nat.reduceLT]
        refine fork_intro (fun hd => ?_) (fun hd => ?_)
        · have hsa := hp.s99 a (by omega)
          have e := tab_succ a (fun a => max (ix c (i : Int) - ix s (a : Int)) (ix s (a : Int) - ix c (i : Int)))
          repeat' (first | refine fork_intro (fun hb => ?_) (fun hb => ?_) | refine partB_intro (fun hb => ?_) (fun hb => ?_) | refine And.intro ?_ ?_)
          all_goals first | exact True.intro | omega | with_reducible rfl | exact congrArg (AV.int _) (by omega) | (refine LoopEnd.intro (a + 1) (by first | omega) (by first | omega | (dsimp only; omega)) (by omega) ?_; simp only [go_sem, ↓reduceIte, Nat.reduceEqDiff, Nat.reduceBEq, Nat.reduceAdd, Nat.reduceSub, Nat.reduceLeDiff, Nat.reduceMul, Nat.reduceLT]; (repeat' (first | refine fork_intro (fun hb => ?_) (fun hb => ?_) | refine partB_intro (fun hb => ?_) (fun hb => ?_) | refine And.intro ?_ ?_)); all_goals first | exact True.intro | omega | with_reducible rfl | exact congrArg (AV.int _) (by omega) | (first | rw [e])) | (first | rw [e])
        · have e := tab_succ i (fun i => tab s.length fun a => max (ix c (i : Int) - ix s (a : Int)) (ix s (a : Int) - ix c (i : Int)))
          have ea : a = s.length := by omega
          repeat' (first | refine fork_intro (fun hb => ?_) (fun hb => ?_) | refine partB_intro (fun hb => ?_) (fun hb => ?_) | refine And.intro ?_ ?_)
          all_goals first | exact True.intro | omega | with_reducible rfl | exact congrArg (AV.int _) (by omega) | (refine LoopEnd.intro (i + 1) (by first | omega) (by first | omega | (dsimp only; omega)) (by omega) ?_; simp only [go_sem, ↓reduceIte, Nat.reduceEqDiff, Nat.reduceBEq, Nat.reduceAdd, Nat.reduceSub, Nat.reduceLeDiff, Nat.reduceMul, Nat.reduceLT]; (repeat' (first | refine fork_intro (fun hb => ?_) (fun hb => ?_) | refine partB_intro (fun hb => ?_) (fun hb => ?_) | refine And.intro ?_ ?_)); all_goals first | exact True.intro | omega | with_reducible rfl | exact congrArg (AV.int _) (by omega) | (first | rw [e, ea])) | (first | rw [e, ea])
    · rw [show i = c.length by omega]; rfl
def t_laidS : Table := [(97, pureC g_laidS)]
theorem t_laidS_ok : TabOK Try.prog t_laidS := .cons Try.func97 (by kernel_rfl) (.pure (by intro args hp; unfold g_laidS at hp ⊢; split at hp <;> first | exact hp.elim | exact laidS_ok _ _ hp)) (.nil _)
attribute [go_sem] g_laidS_eq t_laidS
def g_lineFieldI : List AV → Prop × AV × Heap
  | [.ints s, .ints c] => (s.length ≤ 1048576000 ∧ c.length ≤ 1048576000, .tup [.agg [.sl 1, .mt 3], .bool (lineB s c)], [(1, .arr (.ints (bif lineB s c then List.replicate s.length 0 else []))), (3, .mat (bif lineB s c then laidD s c else []))])
  | _ => (False, .undef, [])
theorem g_lineFieldI_eq (s c : List Int) : g_lineFieldI [.ints s, .ints c] = (s.length ≤ 1048576000 ∧ c.length ≤ 1048576000, .tup [.agg [.sl 1, .mt 3], .bool (lineB s c)], [(1, .arr (.ints (bif lineB s c then List.replicate s.length 0 else []))), (3, .mat (bif lineB s c then laidD s c else []))]) := (rfl)
theorem lineFieldI_ok (s c : List Int) (hp : s.length ≤ 1048576000 ∧ c.length ≤ 1048576000) : SpecOK Try.prog 99 [.ints s, .ints c] (.tup [.agg [.sl 1, .mt 3], .bool (lineB s c)]) [(1, .arr (.ints (bif lineB s c then List.replicate s.length 0 else []))), (3, .mat (bif lineB s c then laidD s c else []))] := by
  refine fun_ok (C := t_between ++ t_risI ++ t_areBtw ++ t_sortedI) (hint := hintX [4, 6, 39, 47] [(2, [.post, .upf 4 0 (.arr (.ints [])), .skip, .upf 4 1 (.mat [])]), (4, [.upf 6 1 (.mat [])])] 0 [] [] [] []) ((((t_between_ok).append t_risI_ok).append t_areBtw_ok).append t_sortedI_ok) mixed Try.func99 rfl (by kernel_rfl) rfl ?_
  show codeA _ _ _ _ _ _ _ _
  simp only [go_sem, ↓reduceIte, Nat.reduceEqDiff, Nat.reduceBEq, Nat.reduceAdd, Nat.reduceSub, Nat.reduceLeDiff, Nat.reduceMul, Nat.reduceLT, Try.results99]
  obtain ⟨hs, hc⟩ := hp
  have hno : lineB s c = true → ((1 ≤ (s.length : Int) ∧ (s.length : Int) ≤ 7) ∧ ris 0 99 s = true ∧ (c.length : Int) ≤ 7 ∧ rowOK 99 c = true ∧ srt c = true) := fun h => by
    simp only [lineB, Bool.and_eq_true, decide_eq_true_eq] at h
    exact ⟨h.2.1, h.2.2.1, h.2.2.2, h.1.1, h.1.2⟩
  refine fork_intro (fun h1 => ⟨⟨hs, by omega, by omega⟩, partB_intro (fun h2 => fork_intro (fun h3 => ?_) (fun h3 => ⟨hc, partB_intro (fun h4 => ⟨hc, partB_intro (fun h5 => ?_) (fun h5 => ?_)⟩) (fun h4 => ?_)⟩)) (fun h2 => ?_)⟩) (fun h1 => ?_)
  · have hz : lineB s c = false := by cases e : lineB s c <;> first | rfl | (have := hno e; omega)
    rw [hz]
    repeat' (first | refine fork_intro (fun hb => ?_) (fun hb => ?_) | refine partB_intro (fun hb => ?_) (fun hb => ?_) | refine And.intro ?_ ?_)
    all_goals first | exact True.intro | omega | with_reducible rfl | exact congrArg (AV.int _) (by omega) | (first | rfl)
  · have h2' : ris 0 99 s = true := h2
    have h4' : rowOK 99 c = true := h4
    have hg : lineB s c = true := by rw [lineB, h2', h4', h5, decide_eq_true h1, decide_eq_true (show (c.length : Int) ≤ 7 by omega)]; rfl
    have h := lineB_iff hg
    have n7 := h.n7
    have m7 := h.m7
    rw [hg]
    refine ⟨by omega, ?_⟩
    refine loop_intro (fun i : Nat => [(41, .ints c), (42, .int .i64 c.length), (43, .int .i64 i), (4, .bx 0 0), (6, .bx 2 0), (0, .ints s)]) (fun i => [(0, .box [.nils, .nils]), (1, .arr (.ints (List.replicate s.length 0))), (2, .box [.sl 1, .mt 3]), (3, .mat (tab i fun i => tab s.length fun a => max (ix c (i : Int) - ix s (a : Int)) (ix s (a : Int) - ix c (i : Int))))]) 4 (fun i => i ≤ c.length) (fun i => c.length - i) 0 (by omega) (by omega) ?_ ?_
    · simp only [go_sem, ↓reduceIte, Nat.reduceEqDiff, Nat.reduceBEq, Nat.reduceAdd, Nat.reduceSub, Nat.reduceLeDiff, Nat.reduceMul, Nat.reduceLT]
      repeat' (first | refine fork_intro (fun hb => ?_) (fun hb => ?_) | refine partB_intro (fun hb => ?_) (fun hb => ?_) | refine And.intro ?_ ?_)
      all_goals first | exact True.intro | omega | with_reducible rfl | exact congrArg (AV.int _) (by omega) | (first | rfl)
    · intro i hi
      have hl : (tab i fun i => tab s.length fun a => max (ix c (i : Int) - ix s (a : Int)) (ix s (a : Int) - ix c (i : Int))).length = i := tab_len _ _
      simp only [go_sem, ↓reduceIte, Nat.reduceEqDiff, Nat.reduceBEq, Nat.reduceAdd, Nat.reduceSub, Nat.reduceLeDiff, Nat.reduceMul, Nat.reduceLT]
      refine fork_intro (fun hb => ?_) (fun hb => ?_)
      · refine ⟨by omega, ?_⟩
        refine loop_intro (fun a : Nat => [(48, .ints s), (49, .int .i64 s.length), (50, .int .i64 a), (8, .int .i64 (ix c (i : Int))), (9, .sl 4), (41, .ints c), (42, .int .i64 c.length), (43, .int .i64 i), (4, .bx 0 0), (6, .bx 2 0), (0, .ints s)]) (fun a => [(0, .box [.nils, .nils]), (1, .arr (.ints (List.replicate s.length 0))), (2, .box [.sl 1, .mt 3]), (3, .mat (tab i fun i => tab s.length fun a => max (ix c (i : Int) - ix s (a : Int)) (ix s (a : Int) - ix c (i : Int)))), (4, .arr (.ints (tab a fun a => max (ix c (i : Int) - ix s (a : Int)) (ix s (a : Int) - ix c (i : Int)))))]) 5 (fun a => a ≤ s.length) (fun a => s.length - a) 0 (by omega) (by omega) ?_ ?_
        · simp only [go_sem, ↓reduceIte, Nat.reduceEqDiff, Nat.reduceBEq, Nat.reduceAdd, Nat.reduceSub, Nat.reduceLeDiff, Nat.reduceMul, Nat.reduceLT]
          repeat' (first | refine fork_intro (fun hb => ?_) (fun hb => ?_) | refine partB_intro (fun hb => ?_) (fun hb => ?_) | refine And.intro ?_ ?_)
          all_goals first | exact True.intro | omega | with_reducible rfl | exact congrArg (AV.int _) (by omega) | (first | rfl)
        · intro a ha
          have hl2 : (tab a fun a => max (ix c (i : Int) - ix s (a : Int)) (ix s (a : Int) - ix c (i : Int))).length = a := tab_len _ _
          have hci := h.c99 i (by omega)
          simp only [go_sem, ↓reduceIte, Nat.reduceEqDiff, Nat.reduceBEq, Nat.reduceAdd, Nat.reduceSub, Nat.reduceLeDiff, Nat.reduceMul, Nat.reduceLT]
          refine fork_intro (fun hd => ?_) (fun hd => ?_)
          · have hsa := h.s99 a (by omega)
            have e := tab_succ a (fun a => max (ix c (i : Int) - ix s (a : Int)) (ix s (a : Int) - ix c (i : Int)))
            repeat' (first | refine fork_intro (fun hb => ?_) (fun hb => ?_) | refine partB_intro (fun hb => ?_) (fun hb => ?_) | refine And.intro ?_ ?_)
            all_goals first | exact True.intro | omega | with_reducible rfl | exact congrArg (AV.int _) (by omega) | (refine LoopEnd.intro (a + 1) (by first | omega) (by first | omega | (dsimp only; omega)) (by omega) ?_; simp only [go_sem, ↓reduceIte, Nat.reduceEqDiff, Nat.reduceBEq, Nat.reduceAdd, Nat.reduceSub, Nat.reduceLeDiff, Nat.reduceMul, Nat.reduceLT]; (repeat' (first | refine fork_intro (fun hb => ?_) (fun hb => ?_) | refine partB_intro (fun hb => ?_) (fun hb => ?_) | refine And.intro ?_ ?_)); all_goals first | exact True.intro | omega | with_reducible rfl | exact congrArg (AV.int _) (by omega) | (first | rw [e])) | (first | rw [e])
          · have e := tab_succ i (fun i => tab s.length fun a => max (ix c (i : Int) - ix s (a : Int)) (ix s (a : Int) - ix c (i : Int)))
            have ea : a = s.length := by omega
            repeat' (first | refine fork_intro (fun hb => ?_) (fun hb => ?_) | refine partB_intro (fun hb => ?_) (fun hb => ?_) | refine And.intro ?_ ?_)
            all_goals first | exact True.intro | omega | with_reducible rfl | exact congrArg (AV.int _) (by omega) | (refine LoopEnd.intro (i + 1) (by first | omega) (by first | omega | (dsimp only; omega)) (by omega) ?_; simp only [go_sem, ↓reduceIte, Nat.reduceEqDiff, Nat.reduceBEq, Nat.reduceAdd, Nat.reduceSub, Nat.reduceLeDiff, Nat.reduceMul, Nat.reduceLT]; (repeat' (first | refine fork_intro (fun hb => ?_) (fun hb => ?_) | refine partB_intro (fun hb => ?_) (fun hb => ?_) | refine And.intro ?_ ?_)); all_goals first | exact True.intro | omega | with_reducible rfl | exact congrArg (AV.int _) (by omega) | (first | rw [e, ea])) | (first | rw [e, ea])
      · rw [show i = c.length by omega]
        repeat' (first | refine fork_intro (fun hb => ?_) (fun hb => ?_) | refine partB_intro (fun hb => ?_) (fun hb => ?_) | refine And.intro ?_ ?_)
        all_goals first | exact True.intro | omega | with_reducible rfl | exact congrArg (AV.int _) (by omega) | (first | rfl)
  · have hz : lineB s c = false := by cases e : lineB s c <;> first | rfl | (have h0 := (hno e).2.2.2.2; rw [h5] at h0; cases h0)
    rw [hz]
    repeat' (first | refine fork_intro (fun hb => ?_) (fun hb => ?_) | refine partB_intro (fun hb => ?_) (fun hb => ?_) | refine And.intro ?_ ?_)
    all_goals first | exact True.intro | omega | with_reducible rfl | exact congrArg (AV.int _) (by omega) | (first | rfl)
  · have h4' : rowOK 99 c = false := h4
    have hz : lineB s c = false := by cases e : lineB s c <;> first | rfl | (have h0 := (hno e).2.2.2.1; rw [h4'] at h0; cases h0)
    rw [hz]
    repeat' (first | refine fork_intro (fun hb => ?_) (fun hb => ?_) | refine partB_intro (fun hb => ?_) (fun hb => ?_) | refine And.intro ?_ ?_)
    all_goals first | exact True.intro | omega | with_reducible rfl | exact congrArg (AV.int _) (by omega) | (first | rfl)
  · have h2' : ris 0 99 s = false := h2
    have hz : lineB s c = false := by cases e : lineB s c <;> first | rfl | (have h0 := (hno e).2.1; rw [h2'] at h0; cases h0)
    rw [hz]
    repeat' (first | refine fork_intro (fun hb => ?_) (fun hb => ?_) | refine partB_intro (fun hb => ?_) (fun hb => ?_) | refine And.intro ?_ ?_)
    all_goals first | exact True.intro | omega | with_reducible rfl | exact congrArg (AV.int _) (by omega) | (first | rfl)
  · have hz : lineB s c = false := by cases e : lineB s c <;> first | rfl | (have := hno e; omega)
    rw [hz]
    repeat' (first | refine fork_intro (fun hb => ?_) (fun hb => ?_) | refine partB_intro (fun hb => ?_) (fun hb => ?_) | refine And.intro ?_ ?_)
    all_goals first | exact True.intro | omega | with_reducible rfl | exact congrArg (AV.int _) (by omega) | (first | rfl)
def t_lineFieldI : Table := [(99, ownC g_lineFieldI)]
theorem t_lineFieldI_ok : TabOK Try.prog t_lineFieldI := .cons Try.func99 (by kernel_rfl) (.own (by intro args hp; unfold g_lineFieldI at hp ⊢; split at hp <;> first | exact hp.elim | exact ⟨lineFieldI_ok _ _ hp, rfl⟩)) (.nil _)
attribute [go_sem] g_lineFieldI_eq t_lineFieldI
end Go.Proofs.Ytibomnplkclkmaa
