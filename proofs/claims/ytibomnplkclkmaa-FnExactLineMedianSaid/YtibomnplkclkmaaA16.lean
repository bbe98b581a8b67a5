/- Sets as lists and as bits, idle sites, prices that meet a set: both packages say the same. -/
import Derived.Test.YtibomnplkclkmaaA14
import Derived.Test.YtibomnplkclkmaaA8
import Derived.Test.YtibomnplkclkmaaPlB
namespace Go.Proofs.Ytibomnplkclkmaa
open Go.Vc
set_option maxRecDepth 100000
set_option linter.unusedSimpArgs false
set_option linter.unusedVariables false

def g_bagI : List AV → Prop × AV
  | [.ints xs] => (xs.length ≤ 1048576000 ∧ ∀ x ∈ xs, 0 ≤ x ∧ x < 7, .int .u64 (bag xs))
  | _ => (False, .undef)
theorem g_bagI_eq (xs : List Int) : g_bagI [.ints xs] = (xs.length ≤ 1048576000 ∧ ∀ x ∈ xs, 0 ≤ x ∧ x < 7, .int .u64 (bag xs)) := (rfl)
theorem bagI_ok (xs : List Int) (hp : xs.length ≤ 1048576000 ∧ ∀ x ∈ xs, 0 ≤ x ∧ x < 7) : SpecOK Try.prog 123 [.ints xs] (.int .u64 (bag xs)) [] := by
  refine fun_ok (C := []) (hint := hintX [] [] 0 [] [] [] []) (TabOK.nil _) mixed Try.func123 rfl (by kernel_rfl) rfl ?_
  show codeA _ _ _ _ _ _ _ _
  simp only [go_sem, ↓reduceIte, Nat.reduceEqDiff, Nat.reduceBEq, Nat.reduceAdd, Nat.reduceSub, Nat.reduceLeDiff, Nat.reduceMul, Nat.reduceLT, Try.results123]
  obtain ⟨hl, hx⟩ := hp
  refine loop_intro (fun k : Nat => [(3, .int .u64 (bagF (xs.take k) 0)), (6, .ints xs), (7, .int .i64 xs.length), (8, .int .i64 k)]) (fun _ => []) 0 (fun k => k ≤ xs.length) (fun k => xs.length - k) 0 (by omega) (by omega) ?_ ?_
  · simp only [go_sem, ↓reduceIte, Nat.reduceEqDiff, Nat.reduceBEq, Nat.reduceAdd, Nat.reduceSub, Nat.reduceLeDiff, Nat.reduceMul, Nat.reduceLT]
    repeat' (first | refine fork_intro (fun hb => ?_) (fun hb => ?_) | refine partB_intro (fun hb => ?_) (fun hb => ?_) | refine And.intro ?_ ?_)
    all_goals first | exact True.intro | omega | with_reducible rfl | exact congrArg (AV.int _) (by omega) | (first | rfl)
  · intro k hk
    have hb := bagF_lt7 hx k
    simp only [go_sem, ↓reduceIte, Nat.reduceEqDiff, Nat.reduceBEq, Nat.reduceAdd, Nat.reduceSub, Nat.reduceLeDiff, Nat.reduceMul, Nat.reduceLT]
    refine fork_intro (fun hc => ?_) (fun hc => ?_)
    · have hm := hx _ (ix_mem xs (k := k) (by omega))
      obtain ⟨p1, p2, p3⟩ := pow7 (ix xs (k : Int)).toNat (by omega)
      have e := bagF_take xs 0 (k := k) (by omega)
      have hb2 := bagF_lt7 hx (k + 1)
      rw [p3, bitN_or, ← e]
      repeat' (first | refine fork_intro (fun hb => ?_) (fun hb => ?_) | refine partB_intro (fun hb => ?_) (fun hb => ?_) | refine And.intro ?_ ?_)
      all_goals first | exact True.intro | omega | with_reducible rfl | exact congrArg (AV.int _) (by omega) | (refine LoopEnd.intro (k + 1) (by first | omega) (by first | omega | (dsimp only; omega)) (by omega) ?_; simp only [go_sem, ↓reduceIte, Nat.reduceEqDiff, Nat.reduceBEq, Nat.reduceAdd, Nat.reduceSub, Nat.reduceLeDiff, Nat.reduceMul, Nat.reduceLT]; (repeat' (first | refine fork_intro (fun hb => ?_) (fun hb => ?_) | refine partB_intro (fun hb => ?_) (fun hb => ?_) | refine And.intro ?_ ?_)); all_goals first | exact True.intro | omega | with_reducible rfl | exact congrArg (AV.int _) (by omega) | (first | rfl)) | (first | rfl)
    · rw [show k = xs.length by omega, List.take_length]; rfl
def t_bagI : Table := [(123, pureC g_bagI)]
theorem t_bagI_ok : TabOK Try.prog t_bagI := .cons Try.func123 (by kernel_rfl) (.pure (by intro args hp; unfold g_bagI at hp ⊢; split at hp <;> first | exact hp.elim | exact bagI_ok _ hp)) (.nil _)
attribute [go_sem] g_bagI_eq t_bagI
def g_hasI : List AV → Prop × AV
  | [.int .u64 b, .int .i64 x] => ((0 ≤ b ∧ b < 128) ∧ 0 ≤ x ∧ x ≤ 63, .bool (b.toNat.testBit x.toNat))
  | _ => (False, .undef)
theorem g_hasI_eq (b x : Int) : g_hasI [.int .u64 b, .int .i64 x] = ((0 ≤ b ∧ b < 128) ∧ 0 ≤ x ∧ x ≤ 63, .bool (b.toNat.testBit x.toNat)) := (rfl)
theorem hasI_ok (b x : Int) (hp : (0 ≤ b ∧ b < 128) ∧ 0 ≤ x ∧ x ≤ 63) : SpecOK Try.prog 90 [.int .u64 b, .int .i64 x] (.bool (b.toNat.testBit x.toNat)) [] := by
  refine fun_ok (C := []) (hint := hintX [] [] 0 [] [] [] []) (TabOK.nil _) mixed Try.func90 rfl (by kernel_rfl) rfl ?_
  show codeA _ _ _ _ _ _ _ _
  simp only [go_sem, ↓reduceIte, Nat.reduceEqDiff, Nat.reduceBEq, Nat.reduceAdd, Nat.reduceSub, Nat.reduceLeDiff, Nat.reduceMul, Nat.reduceLT, Try.results90]
  obtain ⟨⟨h0, h1⟩, h2, h3⟩ := hp
  obtain ⟨b, rfl⟩ : ∃ n : Nat, b = n := ⟨b.toNat, by omega⟩
  obtain ⟨x, rfl⟩ : ∃ n : Nat, x = n := ⟨x.toNat, by omega⟩
  have hs := shr_le b x
  simp only [Int.toNat_natCast, shr_nat, bitN_and]
  have hb := bit_one b x
  repeat' (first | refine fork_intro (fun hb => ?_) (fun hb => ?_) | refine partB_intro (fun hb => ?_) (fun hb => ?_) | refine And.intro ?_ ?_)
  all_goals first | exact True.intro | omega | with_reducible rfl | exact congrArg (AV.int _) (by omega) | (first | (rw [← hb]; rfl) | (show _ ≤ _; decide) | decide)
def t_hasI : Table := [(90, pureC g_hasI)]
theorem t_hasI_ok : TabOK Try.prog t_hasI := .cons Try.func90 (by kernel_rfl) (.pure (by intro args hp; unfold g_hasI at hp ⊢; split at hp <;> first | exact hp.elim | exact hasI_ok _ _ hp)) (.nil _)
attribute [go_sem] g_hasI_eq t_hasI
def g_listI : List AV → Prop × AV × Heap
  | [.int .u64 b] => (0 ≤ b ∧ b < 128, .sl 0, [(0, .arr (.ints (bagL b.toNat)))])
  | _ => (False, .undef, [])
theorem g_listI_eq (b : Int) : g_listI [.int .u64 b] = (0 ≤ b ∧ b < 128, .sl 0, [(0, .arr (.ints (bagL b.toNat)))]) := (rfl)
theorem listI_ok (b : Int) (hp : 0 ≤ b ∧ b < 128) : SpecOK Try.prog 59 [.int .u64 b] (.sl 0) [(0, .arr (.ints (bagL b.toNat)))] := by
  refine fun_ok (C := t_hasI) (hint := hintX [5] [] 0 [] [] [] []) (t_hasI_ok) mixed Try.func59 rfl (by kernel_rfl) rfl ?_
  show codeA _ _ _ _ _ _ _ _
  simp only [go_sem, ↓reduceIte, Nat.reduceEqDiff, Nat.reduceBEq, Nat.reduceAdd, Nat.reduceSub, Nat.reduceLeDiff, Nat.reduceMul, Nat.reduceLT, Try.results59]
  obtain ⟨h0, h1⟩ := hp
  obtain ⟨b, rfl⟩ : ∃ n : Nat, b = n := ⟨b.toNat, by omega⟩
  simp only [Int.toNat_natCast]
  refine loop_intro (fun x : Nat => [(3, .sl 0), (4, .int .i64 x), (0, .int .u64 b)]) (fun x => [(0, .arr (.ints (sel b.testBit x)))]) 1 (fun x => x ≤ 7) (fun x => 7 - x) 0 (by omega) (by omega) ?_ ?_
  · simp only [go_sem, ↓reduceIte, Nat.reduceEqDiff, Nat.reduceBEq, Nat.reduceAdd, Nat.reduceSub, Nat.reduceLeDiff, Nat.reduceMul, Nat.reduceLT]
    repeat' (first | refine fork_intro (fun hb => ?_) (fun hb => ?_) | refine partB_intro (fun hb => ?_) (fun hb => ?_) | refine And.intro ?_ ?_)
    all_goals first | exact True.intro | omega | with_reducible rfl | exact congrArg (AV.int _) (by omega) | (first | rfl)
  · intro x hx
    have hs := shr_le b x
    have hsl := sel_len b.testBit x
    have hpos := shr_pos b x
    simp only [go_sem, ↓reduceIte, Nat.reduceEqDiff, Nat.reduceBEq, Nat.reduceAdd, Nat.reduceSub, Nat.reduceLeDiff, Nat.reduceMul, Nat.reduceLT]
    refine ⟨by omega, fork_intro (fun hc => ?_) (fun hc => ?_)⟩
    · have hx7 := lt_pow7 (show b < 128 by omega) (hpos.1 hc)
      refine ⟨⟨by omega, by omega⟩, partB_intro (fun hd => ?_) (fun hd => ?_)⟩
      · have e := sel_t (p := b.testBit) (n := x) hd
        repeat' (first | refine fork_intro (fun hb => ?_) (fun hb => ?_) | refine partB_intro (fun hb => ?_) (fun hb => ?_) | refine And.intro ?_ ?_)
        all_goals first | exact True.intro | omega | with_reducible rfl | exact congrArg (AV.int _) (by omega) | (refine LoopEnd.intro (x + 1) (by first | omega) (by first | omega | (dsimp only; omega)) (by omega) ?_; simp only [go_sem, ↓reduceIte, Nat.reduceEqDiff, Nat.reduceBEq, Nat.reduceAdd, Nat.reduceSub, Nat.reduceLeDiff, Nat.reduceMul, Nat.reduceLT]; (repeat' (first | refine fork_intro (fun hb => ?_) (fun hb => ?_) | refine partB_intro (fun hb => ?_) (fun hb => ?_) | refine And.intro ?_ ?_)); all_goals first | exact True.intro | omega | with_reducible rfl | exact congrArg (AV.int _) (by omega) | (first | rw [e])) | (first | rw [e])
      · have e := sel_f (p := b.testBit) (n := x) hd
        repeat' (first | refine fork_intro (fun hb => ?_) (fun hb => ?_) | refine partB_intro (fun hb => ?_) (fun hb => ?_) | refine And.intro ?_ ?_)
        all_goals first | exact True.intro | omega | with_reducible rfl | exact congrArg (AV.int _) (by omega) | (refine LoopEnd.intro (x + 1) (by first | omega) (by first | omega | (dsimp only; omega)) (by omega) ?_; simp only [go_sem, ↓reduceIte, Nat.reduceEqDiff, Nat.reduceBEq, Nat.reduceAdd, Nat.reduceSub, Nat.reduceLeDiff, Nat.reduceMul, Nat.reduceLT]; (repeat' (first | refine fork_intro (fun hb => ?_) (fun hb => ?_) | refine partB_intro (fun hb => ?_) (fun hb => ?_) | refine And.intro ?_ ?_)); all_goals first | exact True.intro | omega | with_reducible rfl | exact congrArg (AV.int _) (by omega) | (first | rw [e])) | (first | rw [e])
    · have hlt : b < 2 ^ x := Nat.lt_of_not_le (fun h => hc (hpos.2 h))
      rw [bagL_eq hlt (by omega)]
      repeat' (first | refine fork_intro (fun hb => ?_) (fun hb => ?_) | refine partB_intro (fun hb => ?_) (fun hb => ?_) | refine And.intro ?_ ?_)
      all_goals first | exact True.intro | omega | with_reducible rfl | exact congrArg (AV.int _) (by omega) | (first | rfl)
def t_listI : Table := [(59, ownC g_listI)]
theorem t_listI_ok : TabOK Try.prog t_listI := .cons Try.func59 (by kernel_rfl) (.own (by intro args hp; unfold g_listI at hp ⊢; split at hp <;> first | exact hp.elim | exact ⟨listI_ok _ hp, rfl⟩)) (.nil _)
attribute [go_sem] g_listI_eq t_listI
def g_bothS : List AV → Prop × AV
  | [.agg [.ints o, .rows d], .ints ps, .ints set] => ((o.length ≤ 1048576000 ∧ d.length ≤ 1048576000 ∧ ∀ x ∈ d, x.length ≤ 1048576000) ∧ ps.length ≤ 1048576000 ∧ set.length ≤ 1048576000, .bool (fairOK o d ps && opened o d set))
  | _ => (False, .undef)
theorem g_bothS_eq (o : List Int) (d : List (List Int)) (ps set : List Int) : g_bothS [.agg [.ints o, .rows d], .ints ps, .ints set] = ((o.length ≤ 1048576000 ∧ d.length ≤ 1048576000 ∧ ∀ x ∈ d, x.length ≤ 1048576000) ∧ ps.length ≤ 1048576000 ∧ set.length ≤ 1048576000, .bool (fairOK o d ps && opened o d set)) := (rfl)
theorem bothS_ok (o : List Int) (d : List (List Int)) (ps set : List Int) (hp : (o.length ≤ 1048576000 ∧ d.length ≤ 1048576000 ∧ ∀ x ∈ d, x.length ≤ 1048576000) ∧ ps.length ≤ 1048576000 ∧ set.length ≤ 1048576000) : SpecOK Try.prog 63 [.agg [.ints o, .rows d], .ints ps, .ints set] (.bool (fairOK o d ps && opened o d set)) [] := by
  refine fun_ok (C := t_fairS ++ t_twoS) (hint := hintX [] [] 0 [] [] [] []) ((t_fairS_ok).append t_twoS_ok) mixed Try.func63 rfl (by kernel_rfl) rfl ?_
  show codeA _ _ _ _ _ _ _ _
  simp only [go_sem, ↓reduceIte, Nat.reduceEqDiff, Nat.reduceBEq, Nat.reduceAdd, Nat.reduceSub, Nat.reduceLeDiff, Nat.reduceMul, Nat.reduceLT, Try.results63]
  have hfo : (pricesOK o d ps && fairB o d ps) = fairOK o d ps := rfl
  rw [hfo]
  refine ⟨⟨hp.1, hp.2.1⟩, partB_intro (fun hg => ?_) (fun hg => ?_)⟩
  · rw [hg]; exact ⟨⟨hp.1, hp.2.2⟩, rfl⟩
  · rw [hg]; rfl
def t_bothS : Table := [(63, pureC g_bothS)]
theorem t_bothS_ok : TabOK Try.prog t_bothS := .cons Try.func63 (by kernel_rfl) (.pure (by intro args hp; unfold g_bothS at hp ⊢; split at hp <;> first | exact hp.elim | exact bothS_ok _ _ _ _ hp)) (.nil _)
attribute [go_sem] g_bothS_eq t_bothS
end Go.Proofs.Ytibomnplkclkmaa
