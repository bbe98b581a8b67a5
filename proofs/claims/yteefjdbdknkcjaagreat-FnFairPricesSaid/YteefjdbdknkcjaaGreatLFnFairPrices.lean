/- Fair prices: what the law asks. -/
import Derived.Test.YteefjdbdknkcjaaGreatGD
import Derived.Test.YteefjdbdknkcjaaGreatEA
import Derived.Test.YteefjdbdknkcjaaGreatPlW
import Derived.Test.YteefjdbdknkcjaaGreatA20
import Derived.Test.YteefjdbdknkcjaaGreatA16
import Derived.Test.YteefjdbdknkcjaaGreatA8
import Derived.Test.YteefjdbdknkcjaaGreatA24i
namespace Go.Proofs.YteefjdbdknkcjaaGreat
open Go.Vc
set_option maxRecDepth 100000
set_option maxHeartbeats 1600000
set_option linter.unusedSimpArgs false
set_option linter.unusedVariables false

def g_lawFnFairPrices : List AV → Prop × AV
  | [.bytes code] => (code.length ≤ 9223372036854775807, .bool true)
  | _ => (False, .undef)
theorem g_lawFnFairPrices_eq (code : List UInt8) : g_lawFnFairPrices [.bytes code] = (code.length ≤ 9223372036854775807, .bool true) := (rfl)
theorem lawFnFairPrices_ok (code : List UInt8) (hp : code.length ≤ 9223372036854775807) : SpecOK Tryz.prog 5 [.bytes code] (.bool true) [] := by
  refine fun_ok (C := t_vBig ++ t_drawGap ++ t_gapI ++ t_gapS ++ t_meetOfI ++ t_meetOfS ++ t_areFairOfI ++ t_areFairS ++ t_claimsOfI ++ t_claimsOfS ++ t_tightOfI ++ t_tightS ++ t_vInts ++ t_vHas ++ t_vSum ++ t_totalOfI ++ t_bestTotalI) (hint := hintX [3] [(4, [.frb 3, .cut [3, 4, 5]]), (5, [.cut [3, 4, 5, 6, 7]]), (6, [.cut [3, 4, 5, 6, 7, 8, 9]]), (7, [.cut [3, 4, 5, 6, 7, 8, 9, 10, 11]]), (8, [.cut [3, 4, 5, 6, 7, 8, 9, 10, 11, 12, 13]]), (9, [.cut [3, 4, 5, 6, 7, 8, 9, 10, 11, 12, 13, 14, 15]]), (10, [.cut [3, 4, 5, 6, 7, 8, 9, 10, 11, 12, 13, 14, 15, 16, 17]]), (11, [.cut [3, 4, 5, 6, 7, 8, 9, 10, 11, 12, 13, 14, 15, 16, 17, 18, 19]]), (12, [.cut [3, 4, 5, 6, 7, 8, 9, 10, 11, 12, 13, 14, 15, 16, 17, 18, 19, 20, 21]]), (13, [.cut [3, 4, 5, 6, 7, 8, 9, 10, 11, 12, 13, 14, 15, 16, 17, 18, 19, 20, 21, 22, 23]]), (14, [.cut [3, 4, 5, 6, 7, 8, 9, 10, 11, 12, 13, 14, 15, 16, 17, 18, 19, 20, 21, 22, 23, 24, 25]]), (16, [.cut [3, 4, 5, 6, 7, 10, 11, 14, 15, 18, 22]]), (21, [.cut [3, 4, 5, 6, 7, 10, 11, 14]]), (24, [.cut [3, 4, 6, 10, 11, 14, 27, 28]]), (25, [.cut [4, 6, 10, 11, 14, 27, 28, 29]])] 0 [40, 1000040] [] [] []) (((((((((((((((((t_vBig_ok).append t_drawGap_ok).append t_gapI_ok).append t_gapS_ok).append t_meetOfI_ok).append t_meetOfS_ok).append t_areFairOfI_ok).append t_areFairS_ok).append t_claimsOfI_ok).append t_claimsOfS_ok).append t_tightOfI_ok).append t_tightS_ok).append t_vInts_ok).append t_vHas_ok).append t_vSum_ok).append t_totalOfI_ok).append t_bestTotalI_ok) mixed Tryz.func5 rfl (by kernel_rfl) rfl ?_
  show codeA _ _ _ _ _ _ _ _
  simp only [go_sem, ↓reduceIte, Nat.reduceEqDiff, Nat.reduceBEq, Nat.reduceAdd, Nat.reduceSub, Nat.reduceLeDiff, Nat.reduceMul, Nat.reduceLT, Tryz.results5]
  refine ⟨hp, fork_intro (fun _ => trivial) (fun hc => ⟨by omega, fun z hz => ?_⟩)⟩
  obtain ⟨⟨b1, b2, b3⟩, b4, b5⟩ := hz
  generalize z.xs = o at *
  generalize z.xss = d at *
  generalize z.ys = ps at *
  generalize z.zs = S at *
  have hpre : o.length ≤ 1048576000 ∧ d.length ≤ 1048576000 ∧ ∀ x ∈ d, x.length ≤ 1048576000 := ⟨by omega, by omega, fun x hx => by have := b3 x hx; omega⟩
  have hp2 : (o.length ≤ 1048576000 ∧ d.length ≤ 1048576000 ∧ ∀ x ∈ d, x.length ≤ 1048576000) ∧ ps.length ≤ 1048576000 := ⟨hpre, by omega⟩
  have hp3 : (o.length ≤ 1048576000 ∧ d.length ≤ 1048576000 ∧ ∀ x ∈ d, x.length ≤ 1048576000) ∧ ps.length ≤ 1048576000 ∧ S.length ≤ 1048576000 := ⟨hpre, by omega, by omega⟩
  have hp4 : (o.length ≤ 1048576000 ∧ d.length ≤ 1048576000 ∧ ∀ x ∈ d, x.length ≤ 1048576000) ∧ S.length ≤ 1048576000 := ⟨hpre, by omega⟩
  refine stop_intro ?_
  simp only [go_sem, ↓reduceIte, Nat.reduceEqDiff, Nat.reduceBEq, Nat.reduceAdd, Nat.reduceSub, Nat.reduceLeDiff, Nat.reduceMul, Nat.reduceLT]
  refine ⟨hp3, ?_⟩
  refine stop_intro ?_
  simp only [go_sem, ↓reduceIte, Nat.reduceEqDiff, Nat.reduceBEq, Nat.reduceAdd, Nat.reduceSub, Nat.reduceLeDiff, Nat.reduceMul, Nat.reduceLT]
  refine ⟨hp3, ?_⟩
  refine stop_intro ?_
  simp only [go_sem, ↓reduceIte, Nat.reduceEqDiff, Nat.reduceBEq, Nat.reduceAdd, Nat.reduceSub, Nat.reduceLeDiff, Nat.reduceMul, Nat.reduceLT]
  refine ⟨hp3, ?_⟩
  refine stop_intro ?_
  simp only [go_sem, ↓reduceIte, Nat.reduceEqDiff, Nat.reduceBEq, Nat.reduceAdd, Nat.reduceSub, Nat.reduceLeDiff, Nat.reduceMul, Nat.reduceLT]
  refine ⟨hp3, ?_⟩
  refine stop_intro ?_
  simp only [go_sem, ↓reduceIte, Nat.reduceEqDiff, Nat.reduceBEq, Nat.reduceAdd, Nat.reduceSub, Nat.reduceLeDiff, Nat.reduceMul, Nat.reduceLT]
  refine ⟨hp2, ?_⟩
  refine stop_intro ?_
  simp only [go_sem, ↓reduceIte, Nat.reduceEqDiff, Nat.reduceBEq, Nat.reduceAdd, Nat.reduceSub, Nat.reduceLeDiff, Nat.reduceMul, Nat.reduceLT]
  refine ⟨hp2, ?_⟩
  refine stop_intro ?_
  simp only [go_sem, ↓reduceIte, Nat.reduceEqDiff, Nat.reduceBEq, Nat.reduceAdd, Nat.reduceSub, Nat.reduceLeDiff, Nat.reduceMul, Nat.reduceLT]
  refine ⟨hp2, ?_⟩
  refine stop_intro ?_
  simp only [go_sem, ↓reduceIte, Nat.reduceEqDiff, Nat.reduceBEq, Nat.reduceAdd, Nat.reduceSub, Nat.reduceLeDiff, Nat.reduceMul, Nat.reduceLT]
  refine ⟨hp2, ?_⟩
  refine stop_intro ?_
  simp only [go_sem, ↓reduceIte, Nat.reduceEqDiff, Nat.reduceBEq, Nat.reduceAdd, Nat.reduceSub, Nat.reduceLeDiff, Nat.reduceMul, Nat.reduceLT]
  refine ⟨hp2, ?_⟩
  refine stop_intro ?_
  simp only [go_sem, ↓reduceIte, Nat.reduceEqDiff, Nat.reduceBEq, Nat.reduceAdd, Nat.reduceSub, Nat.reduceLeDiff, Nat.reduceMul, Nat.reduceLT]
  refine ⟨hp2, ?_⟩
  refine stop_intro ?_
  simp only [go_sem, ↓reduceIte, Nat.reduceEqDiff, Nat.reduceBEq, Nat.reduceAdd, Nat.reduceSub, Nat.reduceLeDiff, Nat.reduceMul, Nat.reduceLT, ↓partB_true, ↓partB_false, decide_true, Bool.not_true, Bool.not_false, beq_self_eq_true, eq_self]
  have l1 : (bif pricesOK o d ps then clms d ps 1 o.length else []).length ≤ 1048576000 := by
    cases pricesOK o d ps
    · simp
    · rw [cond_true, show (clms d ps 1 o.length).length = o.length from tab_len _ _]; omega
  have l2 : (bif pricesOK o d ps then tightL o d ps else []).length ≤ 1048576000 := by
    have : (tightL o d ps).length ≤ o.length := sel_len _ _
    cases pricesOK o d ps
    · simp
    · rw [cond_true]; omega
  refine ⟨⟨l1, l1⟩, ⟨l2, l2⟩, ?_⟩
  refine stop_intro ?_
  simp only [go_sem, ↓reduceIte, Nat.reduceEqDiff, Nat.reduceBEq, Nat.reduceAdd, Nat.reduceSub, Nat.reduceLeDiff, Nat.reduceMul, Nat.reduceLT]
  cases hpo : pricesOK o d ps with
  | false =>
    have hfo : fairOK o d ps = false := by unfold fairOK; rw [hpo]; rfl
    rw [hfo]
    refine loop_intro (fun a : Nat => [(26, .int .i64 a), (3, .iptr [.ints o, .rows d]), (4, .ints ps), (5, .ints S), (6, .int .i64 0), (7, .bool false), (10, .bool false), (11, .bool false), (14, .bool false), (15, .bool false), (18, .ints []), (22, .ints [])]) (fun _ => []) 5 (fun a => a = 0) (fun a => 0) 0 rfl (by omega) ?_ ?_
    · simp only [go_sem, ↓reduceIte, Nat.reduceEqDiff, Nat.reduceBEq, Nat.reduceAdd, Nat.reduceSub, Nat.reduceLeDiff, Nat.reduceMul, Nat.reduceLT]
      repeat' (first | refine fork_intro (fun hb => ?_) (fun hb => ?_) | refine partB_intro (fun hb => ?_) (fun hb => ?_) | refine And.intro ?_ ?_)
      all_goals first | exact True.intro | omega | with_reducible rfl | exact congrArg (AV.int _) (by omega) | (first | rfl)
    rintro a rfl
    simp only [go_sem, ↓reduceIte, Nat.reduceEqDiff, Nat.reduceBEq, Nat.reduceAdd, Nat.reduceSub, Nat.reduceLeDiff, Nat.reduceMul, Nat.reduceLT, ↓partB_true, ↓partB_false, decide_true, Bool.not_true, Bool.not_false, beq_self_eq_true, eq_self]
    refine stop_intro ?_
    simp only [go_sem, ↓reduceIte, Nat.reduceEqDiff, Nat.reduceBEq, Nat.reduceAdd, Nat.reduceSub, Nat.reduceLeDiff, Nat.reduceMul, Nat.reduceLT, ↓partB_true, ↓partB_false, decide_true, Bool.not_true, Bool.not_false, beq_self_eq_true, eq_self]
  | true =>
    have hfo : fairOK o d ps = fairB o d ps := by unfold fairOK; rw [hpo]; rfl
    rw [cond_true, cond_true, hfo]
    have hcl : (clms d ps 1 o.length).length = o.length := tab_len _ _
    have hP := pricesOK_iff hpo
    have hn := hP.f.n7
    refine loop_intro (fun a : Nat => [(26, .int .i64 a), (3, .iptr [.ints o, .rows d]), (4, .ints ps), (5, .ints S), (6, .int .i64 (bif fairB o d ps && opened o d S then total o d S - ps.sum else 0)), (7, .bool (fairB o d ps && opened o d S)), (10, .bool ((fairB o d ps && opened o d S) && meetB o d ps S)), (11, .bool (fairB o d ps && opened o d S)), (14, .bool (fairB o d ps)), (15, .bool true), (18, .ints (clms d ps 1 o.length)), (22, .ints (tightL o d ps))]) (fun _ => []) 5 (fun a => a ≤ o.length) (fun a => o.length - a) 0 (by omega) (by omega) ?_ ?_
    · simp only [go_sem, ↓reduceIte, Nat.reduceEqDiff, Nat.reduceBEq, Nat.reduceAdd, Nat.reduceSub, Nat.reduceLeDiff, Nat.reduceMul, Nat.reduceLT]
      repeat' (first | refine fork_intro (fun hb => ?_) (fun hb => ?_) | refine partB_intro (fun hb => ?_) (fun hb => ?_) | refine And.intro ?_ ?_)
      all_goals first | exact True.intro | omega | with_reducible rfl | exact congrArg (AV.int _) (by omega) | (first | rfl)
    intro a ha
    simp only [go_sem, ↓reduceIte, Nat.reduceEqDiff, Nat.reduceBEq, Nat.reduceAdd, Nat.reduceSub, Nat.reduceLeDiff, Nat.reduceMul, Nat.reduceLT, ↓partB_true, ↓partB_false, decide_true, Bool.not_true, Bool.not_false, beq_self_eq_true, eq_self]
    refine fork_intro (fun hd => ?_) (fun hd => ?_)
    · have hac : ix (clms d ps 1 o.length) (a : Int) = clm d ps 1 (a : Int) := tab_ix (by omega)
      have hat : decide ((a : Int) ∈ tightL o d ps) = decide (clm d ps 1 (a : Int) = ix o (a : Int)) := decide_eq_decide.2 ⟨fun h => by
        obtain ⟨k, _, h1, h2⟩ := mem_sel.1 h
        have h3 := of_decide_eq_true h1
        rw [h2] at h3
        exact h3, fun h => mem_sel.2 ⟨a, by omega, decide_eq_true h, rfl⟩⟩
      have hle : fairB o d ps = true → clm d ps 1 (a : Int) ≤ ix o (a : Int) := fun h => of_decide_eq_true (allN_iff.1 h a (by omega))
      rw [hac, hat]
      have htl : (tightL o d ps).length ≤ o.length := sel_len _ _
      refine ⟨by omega, by omega, by omega, partB_self (partB_intro (fun hfb => ⟨by omega, by omega, fork_intro (fun hx => absurd (hle hfb) (by omega)) (fun _ => ?_)⟩) (fun hfb => ?_))⟩
      · repeat' (first | refine fork_intro (fun hb => ?_) (fun hb => ?_) | refine partB_intro (fun hb => ?_) (fun hb => ?_) | refine And.intro ?_ ?_)
        all_goals first | exact True.intro | omega | with_reducible rfl | exact congrArg (AV.int _) (by omega) | (refine LoopEnd.intro (a + 1) (by first | omega) (by first | omega | (dsimp only; omega)) (by omega) ?_; simp only [go_sem, ↓reduceIte, Nat.reduceEqDiff, Nat.reduceBEq, Nat.reduceAdd, Nat.reduceSub, Nat.reduceLeDiff, Nat.reduceMul, Nat.reduceLT]; (repeat' (first | refine fork_intro (fun hb => ?_) (fun hb => ?_) | refine partB_intro (fun hb => ?_) (fun hb => ?_) | refine And.intro ?_ ?_)); all_goals first | exact True.intro | omega | with_reducible rfl | exact congrArg (AV.int _) (by omega) | (first | rfl)) | (first | rfl)
      · repeat' (first | refine fork_intro (fun hb => ?_) (fun hb => ?_) | refine partB_intro (fun hb => ?_) (fun hb => ?_) | refine And.intro ?_ ?_)
        all_goals first | exact True.intro | omega | with_reducible rfl | exact congrArg (AV.int _) (by omega) | (refine LoopEnd.intro (a + 1) (by first | omega) (by first | omega | (dsimp only; omega)) (by omega) ?_; simp only [go_sem, ↓reduceIte, Nat.reduceEqDiff, Nat.reduceBEq, Nat.reduceAdd, Nat.reduceSub, Nat.reduceLeDiff, Nat.reduceMul, Nat.reduceLT]; (repeat' (first | refine fork_intro (fun hb => ?_) (fun hb => ?_) | refine partB_intro (fun hb => ?_) (fun hb => ?_) | refine And.intro ?_ ?_)); all_goals first | exact True.intro | omega | with_reducible rfl | exact congrArg (AV.int _) (by omega) | (first | rfl)) | (first | rfl)
    · refine stop_intro ?_
      simp only [go_sem, ↓reduceIte, Nat.reduceEqDiff, Nat.reduceBEq, Nat.reduceAdd, Nat.reduceSub, Nat.reduceLeDiff, Nat.reduceMul, Nat.reduceLT, ↓partB_true, ↓partB_false, decide_true, Bool.not_true, Bool.not_false, beq_self_eq_true, eq_self]
      refine partB_intro (fun hok => ?_) (fun _ => trivial)
      obtain ⟨hfb, hop⟩ := (Bool.and_eq_true _ _ ▸ hok)
      rw [hfb, hop]
      refine ⟨hp4, ?_⟩
      refine stop_intro ?_
      simp only [go_sem, ↓reduceIte, Nat.reduceEqDiff, Nat.reduceBEq, Nat.reduceAdd, Nat.reduceSub, Nat.reduceLeDiff, Nat.reduceMul, Nat.reduceLT]
      refine ⟨hpre, ?_⟩
      refine stop_intro ?_
      simp only [go_sem, ↓reduceIte, Nat.reduceEqDiff, Nat.reduceBEq, Nat.reduceAdd, Nat.reduceSub, Nat.reduceLeDiff, Nat.reduceMul, Nat.reduceLT, ↓partB_true, ↓partB_false, decide_true, Bool.not_true, Bool.not_false, beq_self_eq_true, eq_self]
      have h := opened_iff hp4.2 hop
      have hu := opened_up hop
      have hlp := hP.len
      have hm7 := hP.f.m7
      have hgo : good o d = true := good_iff.2 hP.f
      have g1 := gap_nn h hlp hfb
      have g2 := gap_zero h hu hlp hfb
      have g3 := gap_nn (bestL_open hP.f) hlp hfb
      have hps : ∀ x ∈ ps, -1000000000 ≤ x ∧ x ≤ 1000000000 := fun x hx => by
        obtain ⟨k, hk, rfl⟩ := mem_ix hx
        have := hP.p0 k hk
        omega
      have hsb := sum_take_bd hps (Nat.le_refl ps.length)
      rw [List.take_length] at hsb
      have hbt := h.svc_bd
      have hbp := h.pay.bd (Nat.le_refl _)
      rw [List.take_length] at hbp
      have htt : total o d S = pay o S + svc d S := rfl
      have hmt : meetB o d ps S = decide (total o d S - ps.sum = 0) := by
        cases hb : meetB o d ps S
        · rw [decide_eq_false (fun e => by have := g2.1 e; rw [hb] at this; cases this)]
        · rw [decide_eq_true (g2.2 hb)]
      rw [hmt, hgo, cond_true, decide_eq_true g3]
      exact ⟨⟨by omega, hps⟩, ⟨by omega, by omega⟩, fork_intro (fun _ => partB_self ⟨⟨by omega, hps⟩, rfl⟩) (fun hx => by omega)⟩
def t_lawFnFairPrices : Table := [(5, pureC g_lawFnFairPrices)]
theorem t_lawFnFairPrices_ok : TabOK Tryz.prog t_lawFnFairPrices := .cons Tryz.func5 (by kernel_rfl) (.pure (by intro args hp; unfold g_lawFnFairPrices at hp ⊢; split at hp <;> first | exact hp.elim | exact lawFnFairPrices_ok _ hp)) (.nil _)
attribute [go_sem] g_lawFnFairPrices_eq t_lawFnFairPrices
end Go.Proofs.YteefjdbdknkcjaaGreat
