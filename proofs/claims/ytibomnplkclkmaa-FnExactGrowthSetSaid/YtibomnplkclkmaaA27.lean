/- Growth in the reference: settling, steps. -/
import Derived.Test.YtibomnplkclkmaaA26
import Derived.Test.YtibomnplkclkmaaPlP
namespace Go.Proofs.Ytibomnplkclkmaa
open Go.Vc
set_option maxRecDepth 100000
set_option linter.unusedSimpArgs false
set_option linter.unusedVariables false

def g_stepS : List AV → Prop × AV
  | [.agg [.ints o, .rows d], .agg [.int .i64 now, .ints p, .bools bs, .ints wt, .ints t]] => (∃ s, GInv o d s ∧ now = s.now ∧ p = (gsett o d s).p ∧ bs = stB (gsett o d s).w ∧ wt = stW (gsett o d s).w ∧ t = (gsett o d s).t, .int .i64 (gstep o d ⟨now, p, unW bs wt, t⟩))
  | _ => (False, .undef)
theorem g_stepS_eq (o : List Int) (d : List (List Int)) (now : Int) (p : List Int) (bs : List Bool) (wt t : List Int) : g_stepS [.agg [.ints o, .rows d], .agg [.int .i64 now, .ints p, .bools bs, .ints wt, .ints t]] = (∃ s, GInv o d s ∧ now = s.now ∧ p = (gsett o d s).p ∧ bs = stB (gsett o d s).w ∧ wt = stW (gsett o d s).w ∧ t = (gsett o d s).t, .int .i64 (gstep o d ⟨now, p, unW bs wt, t⟩)) := (rfl)
theorem stepS_ok (o : List Int) (d : List (List Int)) (now : Int) (p : List Int) (bs : List Bool) (wt t : List Int) (hp : ∃ s, GInv o d s ∧ now = s.now ∧ p = (gsett o d s).p ∧ bs = stB (gsett o d s).w ∧ wt = stW (gsett o d s).w ∧ t = (gsett o d s).t) : SpecOK Try.prog 127 [.agg [.ints o, .rows d], .agg [.int .i64 now, .ints p, .bools bs, .ints wt, .ints t]] (.int .i64 (gstep o d ⟨now, p, unW bs wt, t⟩)) [] := by
  refine fun_ok (C := t_breakS ++ t_grownS ++ t_speedS ++ t_claimS) (hint := hintX [] [] 0 [] [] [] []) ((((t_breakS_ok).append t_grownS_ok).append t_speedS_ok).append t_claimS_ok) mixed Try.func127 rfl (by kernel_rfl) rfl ?_
  show codeA _ _ _ _ _ _ _ _
  simp only [go_sem, ↓reduceIte, Nat.reduceEqDiff, Nat.reduceBEq, Nat.reduceAdd, Nat.reduceSub, Nat.reduceLeDiff, Nat.reduceMul, Nat.reduceLT, Try.results127]
  obtain ⟨s, h, rfl, rfl, rfl, rfl, rfl⟩ := hp
  have e0 : St.mk s.now (gsett o d s).p (unW (stB (gsett o d s).w) (stW (gsett o d s).w)) (gsett o d s).t = gsett o d s := h.un2
  rw [e0]
  have hf := h.f
  have hm := hf.m7
  have hn := hf.n7
  have hn0 := h.n0
  have lp : (gsett o d s).p.length = d.length := tab_len _ _
  have lw : (gsett o d s).w.length = d.length := tab_len _ _
  have lt : (gsett o d s).t.length = o.length := tab_len _ _
  have lb : (stB (gsett o d s).w).length = d.length := by rw [stB_len, lw]
  have hstep := h.step_is
  have hclm := h.clm
  rw [← gpr_gsett (o := o)] at hclm
  have ev : (tab (gsett o d s).p.length fun j => if ix (stB (gsett o d s).w) (j : Int) = true then ix (gsett o d s).p (j : Int) else s.now) = gpr d (gsett o d s) := gpr_view lp lw
  have hbrk : IsMn (mn (brkL o d s.now (stB (gsett o d s).w)) (-1)) (candA o d (gsett o d s) 0) := (brk_is o d _ hn0.1).congr (fun c => by rw [candA_zero]; exact brk_cand (t := gsett o d s) lw c)
  have hnow : (gsett o d s).now = s.now := rfl
  have hquo := fun {a : Nat} (ha : a < o.length) ht hs => h.quo (a := a) ha ht hs
  have hcb := fun {k : Nat} (hk : k ≤ o.length) {c : Int} hc => h.cand_bd (k := k) hk (c := c) hc
  have hgsp := fun (a : Nat) => (show cN (fun j => !(ix (stB (gsett o d s).w) (j : Int)) && decide (2520 * ix (ix d (j : Int)) (a : Int) ≤ s.now)) d.length = gsp d (gsett o d s) a from gsp_view (t := gsett o d s) lw a)
  have hs7 := gsp7 hm (gsett o d s)
  have hgcl := fun {a : Nat} (ha : a < o.length) => gcl_bd h ha
  simp only [← gcl_gsett (o := o) (d := d) (s := s)] at hgcl
  have hopn := fun {a : Nat} (ha : a < o.length) => h.opn ha
  have hlt := gsp_le (d := d) (gsett o d s)
  rw [ev]
  generalize gsett o d s = σ at *
  refine ⟨⟨hf, lb, hn0.1⟩, ⟨by omega, by omega⟩, ?_⟩
  generalize mn (brkL o d s.now (stB σ.w)) (-1) = x0 at *
  refine loop_intro (fun g : Nat × Int => [(5, .int .i64 g.2), (6, .ints (gpr d σ)), (7, .int .i64 g.1), (2, .iptr [.ints o, .rows d]), (3, .iptr [.int .i64 s.now, .ints σ.p, .bools (stB σ.w), .ints (stW σ.w), .ints σ.t])]) (fun _ => []) 0 (fun g => g.1 ≤ o.length ∧ IsMn g.2 (candA o d σ g.1)) (fun g => o.length - g.1) (0, x0) ⟨Nat.zero_le _, hbrk⟩ (by omega) ?_ ?_
  · simp only [go_sem, ↓reduceIte, Nat.reduceEqDiff, Nat.reduceBEq, Nat.reduceAdd, Nat.reduceSub, Nat.reduceLeDiff, Nat.reduceMul, Nat.reduceLT]
    repeat' (first | refine fork_intro (fun hb => ?_) (fun hb => ?_) | refine partB_intro (fun hb => ?_) (fun hb => ?_) | refine And.intro ?_ ?_)
    all_goals first | exact True.intro | omega | with_reducible rfl | exact congrArg (AV.int _) (by omega) | (first | rfl)
  · rintro ⟨a, x⟩ ⟨ha, hx⟩
    have hxl := hx.le (by decide) (fun c hc => hcb ha hc)
    have hxg := hx.ge
    simp only [go_sem, ↓reduceIte, Nat.reduceEqDiff, Nat.reduceBEq, Nat.reduceAdd, Nat.reduceSub, Nat.reduceLeDiff, Nat.reduceMul, Nat.reduceLT]
    refine fork_intro (fun hc => ?_) (fun hc => ?_)
    · have hao : a < o.length := by omega
      have hg := hgcl hao
      have ho := hopn hao
      have h7 := hs7 a
      have er : grest o d σ a = 2520 * ix o (a : Int) - gcl d σ a := rfl
      have ec : clm d (gpr d σ) 2520 (a : Int) = gcl d σ a := rfl
      have hm7 := mul7 (y := x - s.now) h7 (by omega) (by omega)
      simp only [hgsp, ec]
      refine ⟨⟨hf, lb, by omega, by omega⟩, by omega, by omega, ⟨hclm, by omega, by omega⟩, by omega, by omega, ?_⟩
      have hyes : ix σ.t (a : Int) < 0 ∧ 0 < gsp d σ a → ∃ q, (2520 * ix o (a : Int) - gcl d σ a) / (gsp d σ a) = q ∧ (1 ≤ q ∧ q ≤ 249480 ∧ 0 ≤ 2520 * ix o (a : Int) - gcl d σ a) ∧ (2520 * ix o (a : Int) - gcl d σ a < (gsp d σ a : Int) * (x - s.now) ↔ s.now + q < x) ∧ IsMn (mnU x (s.now + q)) (candA o d σ (a + 1)) := fun hh => by
        obtain ⟨q, e1, e2, e3, _⟩ := hquo hao hh.1 hh.2
        rw [er] at e1 e2
        have hpos : (0 : Int) < (gsp d σ a : Nat) := by omega
        have h5 := Int.mul_le_mul_of_nonneg_right (show (1 : Int) ≤ (gsp d σ a : Nat) by omega) (show 0 ≤ q by omega)
        have h0 : 0 ≤ 2520 * ix o (a : Int) - gcl d σ a := by omega
        rw [Int.tdiv_eq_ediv_of_nonneg h0] at e2
        refine ⟨q, e2, ⟨e3, by omega, h0⟩, ?_, hx.upd (by omega) (fun c => ?_)⟩
        · rw [e1, Int.mul_lt_mul_left hpos]; omega
        · rw [candA_yes hh, er, Int.tdiv_eq_ediv_of_nonneg h0, e2, hnow]
      have hno : ¬ (ix σ.t (a : Int) < 0 ∧ 0 < gsp d σ a) → IsMn x (candA o d σ (a + 1)) := fun hh => hx.congr (candA_no hh)
      unfold mnU at hyes
      refine fork_intro (fun h1 => fork_intro (fun h2 => ?_) (fun h2 => ?_)) (fun h1 => ?_)
      · obtain ⟨q, e1, e2, e3, e4⟩ := hyes ⟨h1, by omega⟩
        simp only [e1]
        refine fork_intro (fun h3 => ?_) (fun h3 => ?_)
        · rw [if_pos (.inl h3)] at e4
          repeat' (first | refine fork_intro (fun hb => ?_) (fun hb => ?_) | refine partB_intro (fun hb => ?_) (fun hb => ?_) | refine And.intro ?_ ?_)
          all_goals first | exact True.intro | omega | with_reducible rfl | exact congrArg (AV.int _) (by omega) | (refine LoopEnd.intro ((a + 1, s.now + q)) (by first | omega | (first | exact ⟨by omega, e4⟩)) (by first | omega | (dsimp only; omega)) (by omega) ?_; simp only [go_sem, ↓reduceIte, Nat.reduceEqDiff, Nat.reduceBEq, Nat.reduceAdd, Nat.reduceSub, Nat.reduceLeDiff, Nat.reduceMul, Nat.reduceLT]; (repeat' (first | refine fork_intro (fun hb => ?_) (fun hb => ?_) | refine partB_intro (fun hb => ?_) (fun hb => ?_) | refine And.intro ?_ ?_)); all_goals first | exact True.intro | omega | with_reducible rfl | exact congrArg (AV.int _) (by omega) | (first | rfl)) | (first | rfl)
        · refine ⟨by omega, by omega, fork_intro (fun h4 => ?_) (fun h4 => ?_)⟩
          · rw [if_pos (.inr (e3.1 h4))] at e4
            repeat' (first | refine fork_intro (fun hb => ?_) (fun hb => ?_) | refine partB_intro (fun hb => ?_) (fun hb => ?_) | refine And.intro ?_ ?_)
            all_goals first | exact True.intro | omega | with_reducible rfl | exact congrArg (AV.int _) (by omega) | (refine LoopEnd.intro ((a + 1, s.now + q)) (by first | omega | (first | exact ⟨by omega, e4⟩)) (by first | omega | (dsimp only; omega)) (by omega) ?_; simp only [go_sem, ↓reduceIte, Nat.reduceEqDiff, Nat.reduceBEq, Nat.reduceAdd, Nat.reduceSub, Nat.reduceLeDiff, Nat.reduceMul, Nat.reduceLT]; (repeat' (first | refine fork_intro (fun hb => ?_) (fun hb => ?_) | refine partB_intro (fun hb => ?_) (fun hb => ?_) | refine And.intro ?_ ?_)); all_goals first | exact True.intro | omega | with_reducible rfl | exact congrArg (AV.int _) (by omega) | (first | rfl)) | (first | rfl)
          · rw [if_neg (fun h => by rcases h with h | h; exact h3 h; exact h4 (e3.2 h))] at e4
            repeat' (first | refine fork_intro (fun hb => ?_) (fun hb => ?_) | refine partB_intro (fun hb => ?_) (fun hb => ?_) | refine And.intro ?_ ?_)
            all_goals first | exact True.intro | omega | with_reducible rfl | exact congrArg (AV.int _) (by omega) | (refine LoopEnd.intro ((a + 1, x)) (by first | omega | (first | exact ⟨by omega, e4⟩)) (by first | omega | (dsimp only; omega)) (by omega) ?_; simp only [go_sem, ↓reduceIte, Nat.reduceEqDiff, Nat.reduceBEq, Nat.reduceAdd, Nat.reduceSub, Nat.reduceLeDiff, Nat.reduceMul, Nat.reduceLT]; (repeat' (first | refine fork_intro (fun hb => ?_) (fun hb => ?_) | refine partB_intro (fun hb => ?_) (fun hb => ?_) | refine And.intro ?_ ?_)); all_goals first | exact True.intro | omega | with_reducible rfl | exact congrArg (AV.int _) (by omega) | (first | rfl)) | (first | rfl)
      · have hz := hno (fun h => by omega)
        repeat' (first | refine fork_intro (fun hb => ?_) (fun hb => ?_) | refine partB_intro (fun hb => ?_) (fun hb => ?_) | refine And.intro ?_ ?_)
        all_goals first | exact True.intro | omega | with_reducible rfl | exact congrArg (AV.int _) (by omega) | (refine LoopEnd.intro ((a + 1, x)) (by first | omega | (first | exact ⟨by omega, hz⟩)) (by first | omega | (dsimp only; omega)) (by omega) ?_; simp only [go_sem, ↓reduceIte, Nat.reduceEqDiff, Nat.reduceBEq, Nat.reduceAdd, Nat.reduceSub, Nat.reduceLeDiff, Nat.reduceMul, Nat.reduceLT]; (repeat' (first | refine fork_intro (fun hb => ?_) (fun hb => ?_) | refine partB_intro (fun hb => ?_) (fun hb => ?_) | refine And.intro ?_ ?_)); all_goals first | exact True.intro | omega | with_reducible rfl | exact congrArg (AV.int _) (by omega) | (first | rfl)) | (first | rfl)
      · have hz := hno (fun h => h1 h.1)
        repeat' (first | refine fork_intro (fun hb => ?_) (fun hb => ?_) | refine partB_intro (fun hb => ?_) (fun hb => ?_) | refine And.intro ?_ ?_)
        all_goals first | exact True.intro | omega | with_reducible rfl | exact congrArg (AV.int _) (by omega) | (refine LoopEnd.intro ((a + 1, x)) (by first | omega | (first | exact ⟨by omega, hz⟩)) (by first | omega | (dsimp only; omega)) (by omega) ?_; simp only [go_sem, ↓reduceIte, Nat.reduceEqDiff, Nat.reduceBEq, Nat.reduceAdd, Nat.reduceSub, Nat.reduceLeDiff, Nat.reduceMul, Nat.reduceLT]; (repeat' (first | refine fork_intro (fun hb => ?_) (fun hb => ?_) | refine partB_intro (fun hb => ?_) (fun hb => ?_) | refine And.intro ?_ ?_)); all_goals first | exact True.intro | omega | with_reducible rfl | exact congrArg (AV.int _) (by omega) | (first | rfl)) | (first | rfl)
    · have ea : a = o.length := by omega
      subst ea
      exact congrArg (AV.int _) (hx.unique hstep)
def t_stepS : Table := [(127, pureC g_stepS)]
theorem t_stepS_ok : TabOK Try.prog t_stepS := .cons Try.func127 (by kernel_rfl) (.pure (by intro args hp; unfold g_stepS at hp ⊢; split at hp <;> first | exact hp.elim | exact stepS_ok _ _ _ _ _ _ _ hp)) (.nil _)
attribute [go_sem] g_stepS_eq t_stepS
end Go.Proofs.Ytibomnplkclkmaa
