/- RestCosts, ClosedSites: both packages say the same. -/
import Derived.Test.YteefjdbdknkcjaaGreatA7
import Derived.Test.YteefjdbdknkcjaaGreatA9
namespace Go.Proofs.YteefjdbdknkcjaaGreat
open Go.Vc
set_option maxRecDepth 100000
set_option linter.unusedSimpArgs false
set_option linter.unusedVariables false

def fairOK (o : List Int) (d : List (List Int)) (ps : List Int) : Bool := pricesOK o d ps && fairB o d ps
theorem fairOK_iff {o : List Int} {d : List (List Int)} {ps : List Int} (h : fairOK o d ps = true) : PricesOK o d ps := by
  simp only [fairOK, Bool.and_eq_true] at h
  exact pricesOK_iff h.1
def sumP (o : List Int) (d : List (List Int)) (ps : List Int) : Prop := ps.length ≤ 1000000 ∧ ∀ x ∈ ps, -1000000000 ≤ x ∧ x ≤ 1000000000
theorem prices_sum {o : List Int} {d : List (List Int)} {ps : List Int} (h : PricesOK o d ps) : (ps.length ≤ 1000000 ∧ ∀ x ∈ ps, -1000000000 ≤ x ∧ x ≤ 1000000000) ∧ 0 ≤ ps.sum ∧ ps.sum ≤ 3500 := by
  have hm := h.f.m7
  have hl := h.len
  refine ⟨⟨by omega, fun x hx => ?_⟩, ?_⟩
  · obtain ⟨k, hk, rfl⟩ := mem_ix hx
    have := h.p0 k hk; omega
  · have e : ps.sum = sumN (fun k => ix ps (k : Int)) ps.length := by rw [← sum_tab, tab_of]
    have := sumN_bd (f := fun k => ix ps (k : Int)) (lo := 0) (hi := 500) (n := ps.length) (fun i hi => h.p0 i hi)
    omega
def closedOK (o : List Int) (d : List (List Int)) (ps : List Int) (v : Int) : Bool := fairOK o d ps && decide (0 ≤ v ∧ v ≤ 1400)
def closedL (o : List Int) (d : List (List Int)) (ps : List Int) (v : Int) : List Int := sel (fun a => decide (v < ps.sum + (ix o (a : Int) - clm d ps 1 (a : Int)))) o.length

def g_sumS : List AV → Prop × AV
  | [.ints xs] => (xs.length ≤ 1000000 ∧ ∀ x ∈ xs, -1000000000 ≤ x ∧ x ≤ 1000000000, .int .i64 xs.sum)
  | _ => (False, .undef)
theorem g_sumS_eq (xs : List Int) : g_sumS [.ints xs] = (xs.length ≤ 1000000 ∧ ∀ x ∈ xs, -1000000000 ≤ x ∧ x ≤ 1000000000, .int .i64 xs.sum) := (rfl)
theorem sumS_ok (xs : List Int) (hp : xs.length ≤ 1000000 ∧ ∀ x ∈ xs, -1000000000 ≤ x ∧ x ≤ 1000000000) : SpecOK Tryz.prog 99 [.ints xs] (.int .i64 xs.sum) [] := by
  refine fun_ok (C := []) (hint := hintX [] [] 0 [] [] [] []) (TabOK.nil _) mixed Tryz.func99 rfl (by kernel_rfl) rfl ?_
  show codeA _ _ _ _ _ _ _ _
  simp only [go_sem, ↓reduceIte, Nat.reduceEqDiff, Nat.reduceBEq, Nat.reduceAdd, Nat.reduceSub, Nat.reduceLeDiff, Nat.reduceMul, Nat.reduceLT, Tryz.results99]
  obtain ⟨hl, hx⟩ := hp
  refine loop_intro (fun k : Nat => [(3, .int .i64 (xs.take k).sum), (4, .int .i64 k), (0, .ints xs)]) (fun _ => []) 0 (fun k => k ≤ xs.length ∧ -1000000000 * (k : Int) ≤ (xs.take k).sum ∧ (xs.take k).sum ≤ 1000000000 * (k : Int)) (fun k => xs.length - k) 0 (by simp) (by omega) ?_ ?_
  · simp only [go_sem, ↓reduceIte, Nat.reduceEqDiff, Nat.reduceBEq, Nat.reduceAdd, Nat.reduceSub, Nat.reduceLeDiff, Nat.reduceMul, Nat.reduceLT]
    repeat' (first | refine fork_intro (fun hb => ?_) (fun hb => ?_) | refine partB_intro (fun hb => ?_) (fun hb => ?_) | refine And.intro ?_ ?_)
    all_goals first | exact True.intro | omega | with_reducible rfl | exact congrArg (AV.int _) (by omega) | (first | rfl)
  · rintro k ⟨hk, h1, h2⟩
    simp only [go_sem, ↓reduceIte, Nat.reduceEqDiff, Nat.reduceBEq, Nat.reduceAdd, Nat.reduceSub, Nat.reduceLeDiff, Nat.reduceMul, Nat.reduceLT]
    refine fork_intro (fun hc => ?_) (fun hc => ?_)
    · have e := sum_take xs (k := k) (by omega)
      have hb := hx _ (ix_mem xs (k := k) (by omega))
      repeat' (first | refine fork_intro (fun hb => ?_) (fun hb => ?_) | refine partB_intro (fun hb => ?_) (fun hb => ?_) | refine And.intro ?_ ?_)
      all_goals first | exact True.intro | omega | with_reducible rfl | exact congrArg (AV.int _) (by omega) | (refine LoopEnd.intro (k + 1) (by first | omega) (by first | omega | (dsimp only; omega)) (by omega) ?_; simp only [go_sem, ↓reduceIte, Nat.reduceEqDiff, Nat.reduceBEq, Nat.reduceAdd, Nat.reduceSub, Nat.reduceLeDiff, Nat.reduceMul, Nat.reduceLT]; (repeat' (first | refine fork_intro (fun hb => ?_) (fun hb => ?_) | refine partB_intro (fun hb => ?_) (fun hb => ?_) | refine And.intro ?_ ?_)); all_goals first | exact True.intro | omega | with_reducible rfl | exact congrArg (AV.int _) (by omega))
    · rw [show k = xs.length by omega, List.take_length]
def t_sumS : Table := [(99, pureC g_sumS)]
theorem t_sumS_ok : TabOK Tryz.prog t_sumS := .cons Tryz.func99 (by kernel_rfl) (.pure (by intro args hp; unfold g_sumS at hp ⊢; split at hp <;> first | exact hp.elim | exact sumS_ok _ hp)) (.nil _)
attribute [go_sem] g_sumS_eq t_sumS
def g_isFairI : List AV → Prop × AV
  | [.agg [.ints o, .rows d], .ints ps] => ((o.length ≤ 1048576000 ∧ d.length ≤ 1048576000 ∧ ∀ x ∈ d, x.length ≤ 1048576000) ∧ ps.length ≤ 1048576000, .bool (fairOK o d ps))
  | _ => (False, .undef)
theorem g_isFairI_eq (o : List Int) (d : List (List Int)) (ps : List Int) : g_isFairI [.agg [.ints o, .rows d], .ints ps] = ((o.length ≤ 1048576000 ∧ d.length ≤ 1048576000 ∧ ∀ x ∈ d, x.length ≤ 1048576000) ∧ ps.length ≤ 1048576000, .bool (fairOK o d ps)) := (rfl)
theorem isFairI_ok (o : List Int) (d : List (List Int)) (ps : List Int) (hp : (o.length ≤ 1048576000 ∧ d.length ≤ 1048576000 ∧ ∀ x ∈ d, x.length ≤ 1048576000) ∧ ps.length ≤ 1048576000) : SpecOK Tryz.prog 95 [.agg [.ints o, .rows d], .ints ps] (.bool (fairOK o d ps)) [] := by
  refine fun_ok (C := t_pricesI ++ t_areFairI) (hint := hintX [] [] 0 [] [] [] []) ((t_pricesI_ok).append t_areFairI_ok) mixed Tryz.func95 rfl (by kernel_rfl) rfl ?_
  show codeA _ _ _ _ _ _ _ _
  simp only [go_sem, ↓reduceIte, Nat.reduceEqDiff, Nat.reduceBEq, Nat.reduceAdd, Nat.reduceSub, Nat.reduceLeDiff, Nat.reduceMul, Nat.reduceLT, Tryz.results95]
  refine ⟨hp, partB_intro (fun hg => ?_) (fun hg => ?_)⟩
  · rw [fairOK, hg]; exact ⟨(pricesOK_iff hg).clm, rfl⟩
  · rw [fairOK, hg]; rfl
def t_isFairI : Table := [(95, pureC g_isFairI)]
theorem t_isFairI_ok : TabOK Tryz.prog t_isFairI := .cons Tryz.func95 (by kernel_rfl) (.pure (by intro args hp; unfold g_isFairI at hp ⊢; split at hp <;> first | exact hp.elim | exact isFairI_ok _ _ _ hp)) (.nil _)
attribute [go_sem] g_isFairI_eq t_isFairI
end Go.Proofs.YteefjdbdknkcjaaGreat
