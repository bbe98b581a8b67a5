/- AscentPrices: both packages say the same. -/
import Derived.Test.YteefjdbdknkcjaaGreatA7
import Derived.Test.YteefjdbdknkcjaaGreatPlA
namespace Go.Proofs.YteefjdbdknkcjaaGreat
open Go.Vc
set_option maxRecDepth 100000
set_option linter.unusedSimpArgs false
set_option linter.unusedVariables false

def g_least2 : List AV → Prop × AV
  | [.int .i64 a, .int .i64 b] => (True, .int .i64 (min a b))
  | _ => (False, .undef)
theorem g_least2_eq (a b : Int) : g_least2 [.int .i64 a, .int .i64 b] = (True, .int .i64 (min a b)) := (rfl)
theorem least2_ok (a b : Int) (hp : True) : SpecOK Tryz.prog 74 [.int .i64 a, .int .i64 b] (.int .i64 (min a b)) [] := by
  refine fun_ok (C := []) (hint := hintX [] [] 0 [] [] [] []) (TabOK.nil _) mixed Tryz.func74 rfl (by kernel_rfl) rfl ?_
  show codeA _ _ _ _ _ _ _ _
  simp only [go_sem, ↓reduceIte, Nat.reduceEqDiff, Nat.reduceBEq, Nat.reduceAdd, Nat.reduceSub, Nat.reduceLeDiff, Nat.reduceMul, Nat.reduceLT, Tryz.results74]
  repeat' (first | refine fork_intro (fun hb => ?_) (fun hb => ?_) | refine partB_intro (fun hb => ?_) (fun hb => ?_) | refine And.intro ?_ ?_)
  all_goals first | exact True.intro | omega | with_reducible rfl | exact congrArg (AV.int _) (by omega)
def t_least2 : Table := [(74, pureC g_least2)]
theorem t_least2_ok : TabOK Tryz.prog t_least2 := .cons Tryz.func74 (by kernel_rfl) (.pure (by intro args hp; unfold g_least2 at hp ⊢; split at hp <;> first | exact hp.elim | exact least2_ok _ _ hp)) (.nil _)
attribute [go_sem] g_least2_eq t_least2
def g_nextS : List AV → Prop × AV
  | [.agg [.ints o, .rows d], .ints p, .int .i64 j] => (AscOK o d p ∧ 0 ≤ j ∧ j < d.length, .int .i64 (stepA o d p j.toNat))
  | _ => (False, .undef)
theorem g_nextS_eq (o : List Int) (d : List (List Int)) (p : List Int) (j : Int) : g_nextS [.agg [.ints o, .rows d], .ints p, .int .i64 j] = (AscOK o d p ∧ 0 ≤ j ∧ j < d.length, .int .i64 (stepA o d p j.toNat)) := (rfl)
theorem nextS_ok (o : List Int) (d : List (List Int)) (p : List Int) (j : Int) (hp : AscOK o d p ∧ 0 ≤ j ∧ j < d.length) : SpecOK Tryz.prog 176 [.agg [.ints o, .rows d], .ints p, .int .i64 j] (.int .i64 (stepA o d p j.toNat)) [] := by
  refine fun_ok (C := t_claimS) (hint := hintX [] [] 0 [] [] [] []) (t_claimS_ok) mixed Tryz.func176 rfl (by kernel_rfl) rfl ?_
  show codeA _ _ _ _ _ _ _ _
  simp only [go_sem, ↓reduceIte, Nat.reduceEqDiff, Nat.reduceBEq, Nat.reduceAdd, Nat.reduceSub, Nat.reduceLeDiff, Nat.reduceMul, Nat.reduceLT, Tryz.results176]
  obtain ⟨h, h0, h1⟩ := hp
  obtain ⟨j, rfl⟩ : ∃ n : Nat, j = n := ⟨j.toNat, by omega⟩
  simp only [Int.toNat_natCast]
  have hl := h.len
  have hn := h.f.n7
  have hrow := h.f.d_len h0 h1
  have hb := h.bd (j := j) (by omega)
  have hc := h.clm
  refine ⟨by omega, ?_⟩
  refine loop_intro (fun a : Nat => [(7, .int .i64 (ix p (j : Int))), (8, .int .i64 (minN (gapA o d p j) a)), (9, .int .i64 a), (1, .ints p), (2, .int .i64 j), (3, .iptr [.ints o, .rows d])]) (fun _ => []) 0 (fun a => a ≤ o.length) (fun a => o.length - a) 0 (by omega) (by omega) ?_ ?_
  · simp only [go_sem, ↓reduceIte, Nat.reduceEqDiff, Nat.reduceBEq, Nat.reduceAdd, Nat.reduceSub, Nat.reduceLeDiff, Nat.reduceMul, Nat.reduceLT]
    repeat' (first | refine fork_intro (fun hb => ?_) (fun hb => ?_) | refine partB_intro (fun hb => ?_) (fun hb => ?_) | refine And.intro ?_ ?_)
    all_goals first | exact True.intro | omega | with_reducible rfl | exact congrArg (AV.int _) (by omega) | (first | rfl)
  · intro a ha
    simp only [go_sem, ↓reduceIte, Nat.reduceEqDiff, Nat.reduceBEq, Nat.reduceAdd, Nat.reduceSub, Nat.reduceLeDiff, Nat.reduceMul, Nat.reduceLT]
    refine fork_intro (fun hd => ?_) (fun hd => ?_)
    · have hdx := h.f.d_ix (k := (j : Int)) (a := (a : Int)) (by omega) (by omega) (by omega) (by omega)
      have hox := h.f.o_ix (a := (a : Int)) (by omega) (by omega)
      have hcb := hc.bd (a := (a : Int)) (by omega) (by omega)
      have hcc : ClmOK o d p 1 ∧ (0 : Int) ≤ a ∧ (a : Int) < o.length := ⟨hc, by omega, by omega⟩
      have hm : minN (gapA o d p j) (a + 1) = if minN (gapA o d p j) a < 0 ∨ gapA o d p j a < minN (gapA o d p j) a then gapA o d p j a else minN (gapA o d p j) a := rfl
      have hg : gapA o d p j a = if ix (ix d (j : Int)) (a : Int) ≤ ix p (j : Int) then ix o (a : Int) - clm d p 1 (a : Int) else ix (ix d (j : Int)) (a : Int) - ix p (j : Int) := rfl
      repeat' (first | refine fork_intro (fun hb => ?_) (fun hb => ?_) | refine partB_intro (fun hb => ?_) (fun hb => ?_) | refine And.intro ?_ ?_)
      all_goals first | exact True.intro | omega | with_reducible rfl | exact congrArg (AV.int _) (by omega) | (refine LoopEnd.intro (a + 1) (by first | omega) (by first | omega | (dsimp only; omega)) (by omega) ?_; simp only [go_sem, ↓reduceIte, Nat.reduceEqDiff, Nat.reduceBEq, Nat.reduceAdd, Nat.reduceSub, Nat.reduceLeDiff, Nat.reduceMul, Nat.reduceLT]; (repeat' (first | refine fork_intro (fun hb => ?_) (fun hb => ?_) | refine partB_intro (fun hb => ?_) (fun hb => ?_) | refine And.intro ?_ ?_)); all_goals first | exact True.intro | omega | with_reducible rfl | exact congrArg (AV.int _) (by omega) | (first | exact hc)) | (first | exact hc)
    · rw [show a = o.length by omega]; rfl
def t_nextS : Table := [(176, pureC g_nextS)]
theorem t_nextS_ok : TabOK Tryz.prog t_nextS := .cons Tryz.func176 (by kernel_rfl) (.pure (by intro args hp; unfold g_nextS at hp ⊢; split at hp <;> first | exact hp.elim | exact nextS_ok _ _ _ _ hp)) (.nil _)
attribute [go_sem] g_nextS_eq t_nextS
end Go.Proofs.YteefjdbdknkcjaaGreat
