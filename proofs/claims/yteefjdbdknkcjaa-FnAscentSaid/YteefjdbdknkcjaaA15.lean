/- AscentPrices: both packages say the same. -/
import Derived.Test.YteefjdbdknkcjaaA7
import Derived.Test.YteefjdbdknkcjaaPlA
namespace Go.Proofs.Yteefjdbdknkcjaa
open Go.Vc
set_option maxRecDepth 100000
set_option linter.unusedSimpArgs false
set_option linter.unusedVariables false

def g_least2 : List AV → Prop × AV
  | [.int .i64 a, .int .i64 b] => (True, .int .i64 (min a b))
  | _ => (False, .undef)
theorem g_least2_eq (a b : Int) : g_least2 [.int .i64 a, .int .i64 b] = (True, .int .i64 (min a b)) := (rfl)
theorem least2_ok (a b : Int) (hp : True) : SpecOK Try.prog 80 [.int .i64 a, .int .i64 b] (.int .i64 (min a b)) [] := by
  refine fun_ok (C := []) (hint := hintX [] [] 0 [] [] [] []) (TabOK.nil _) mixed Try.func80 rfl (by kernel_rfl) rfl ?_
  show codeA _ _ _ _ _ _ _ _
  simp only [go_sem, ↓reduceIte, Nat.reduceEqDiff, Nat.reduceBEq, Nat.reduceAdd, Nat.reduceSub, Nat.reduceLeDiff, Nat.reduceMul, Nat.reduceLT, Try.results80]
  repeat' (first | refine fork_intro (fun hb => ?_) (fun hb => ?_) | refine partB_intro (fun hb => ?_) (fun hb => ?_) | refine And.intro ?_ ?_)
  all_goals first | exact True.intro | omega | with_reducible rfl | exact congrArg (AV.int _) (by omega)
def t_least2 : Table := [(80, pureC g_least2)]
theorem t_least2_ok : TabOK Try.prog t_least2 := .cons Try.func80 (by kernel_rfl) (.pure (by intro args hp; unfold g_least2 at hp ⊢; split at hp <;> first | exact hp.elim | exact least2_ok _ _ hp)) (.nil _)
attribute [go_sem] g_least2_eq t_least2
def g_nextS : List AV → Prop × AV
  | [.agg [.ints o, .rows d], .ints p, .int .i64 j] => (AscOK o d p ∧ 0 ≤ j ∧ j < d.length, .int .i64 (stepA o d p j.toNat))
  | _ => (False, .undef)
theorem g_nextS_eq (o : List Int) (d : List (List Int)) (p : List Int) (j : Int) : g_nextS [.agg [.ints o, .rows d], .ints p, .int .i64 j] = (AscOK o d p ∧ 0 ≤ j ∧ j < d.length, .int .i64 (stepA o d p j.toNat)) := (rfl)
theorem nextS_ok (o : List Int) (d : List (List Int)) (p : List Int) (j : Int) (hp : AscOK o d p ∧ 0 ≤ j ∧ j < d.length) : SpecOK Try.prog 96 [.agg [.ints o, .rows d], .ints p, .int .i64 j] (.int .i64 (stepA o d p j.toNat)) [] := by
  refine fun_ok (C := t_claimS) (hint := hintX [] [] 0 [] [] [] []) (t_claimS_ok) mixed Try.func96 rfl (by kernel_rfl) rfl ?_
  show codeA _ _ _ _ _ _ _ _
  simp only [go_sem, ↓reduceIte, Nat.reduceEqDiff, Nat.reduceBEq, Nat.reduceAdd, Nat.reduceSub, Nat.reduceLeDiff, Nat.reduceMul, Nat.reduceLT, Try.results96]
  obtain ⟨h, h0, h1⟩ := hp
  obtain ⟨j, rfl⟩ : ∃ n : Nat, j = n := ⟨j.toNat, by omega⟩
  simp only [Int.toNat_natCast]
  have hl := h.len
  have hn := h.f.n7
  have hrow := h.f.d_len h0 h1
  have hb := h.bd (j := j) (by omega)
  have hc := h.clm
  refine ⟨by omega, ?_⟩
  refine loop_intro (fun a : Nat => [(7, .int .i64 (ix p (j : Int))), (8, .int .i64 (minN (gapA o d p j) a)), (9, .int .i64 a), (1, .ints p), (2, .int .i64 j), (3, .iptr [.ints o, .rows d])]) (fun _ => []) 0 (fun a => a ≤ o.length) (fun a => o.length - a) 0 (by omega) (by omega) ?_ ?_
  · simp only [go_sem, ↓reduceIte, Nat.reduceEqDiff, Nat.reduceBEq, Nat.reduceAdd, Nat.reduceSub, Nat.reduceLeDiff, Nat.reduceMul, Nat.reduceLT]
    repeat' (first | refine fork_intro (fun hb => ?_) (fun hb => ?_) | refine partB_intro (fun hb => ?_) (fun hb => ?_) | refine And.intro ?_ ?_)
    all_goals first | exact True.intro | omega | with_reducible rfl | exact congrArg (AV.int _) (by omega) | (first | rfl)
  · intro a ha
    simp only [go_sem, ↓reduceIte, Nat.reduceEqDiff, Nat.reduceBEq, Nat.reduceAdd, Nat.reduceSub, Nat.reduceLeDiff, Nat.reduceMul, Nat.reduceLT]
    refine fork_intro (fun hd => ?_) (fun hd => ?_)
    · have hdx := h.f.d_ix (k := (j : Int)) (a := (a : Int)) (by omega) (by omega) (by omega) (by omega)
      have hox := h.f.o_ix (a := (a : Int)) (by omega) (by omega)
      have hcb := hc.bd (a := (a : Int)) (by omega) (by omega)
      have hcc : ClmOK o d p 1 ∧ (0 : Int) ≤ a ∧ (a : Int) < o.length := ⟨hc, by omega, by omega⟩
      have hm : minN (gapA o d p j) (a + 1) = if minN (gapA o d p j) a < 0 ∨ gapA o d p j a < minN (gapA o d p j) a then gapA o d p j a else minN (gapA o d p j) a := rfl
      have hg : gapA o d p j a = if ix (ix d (j : Int)) (a : Int) ≤ ix p (j : Int) then ix o (a : Int) - clm d p 1 (a : Int) else ix (ix d (j : Int)) (a : Int) - ix p (j : Int) := rfl
      repeat' (first | refine fork_intro (fun hb => ?_) (fun hb => ?_) | refine partB_intro (fun hb => ?_) (fun hb => ?_) | refine And.intro ?_ ?_)
      all_goals first | exact True.intro | omega | with_reducible rfl | exact congrArg (AV.int _) (by omega) | (refine LoopEnd.intro (a + 1) (by first | omega) (by first | omega | (dsimp only; omega)) (by omega) ?_; simp only [go_sem, ↓reduceIte, Nat.reduceEqDiff, Nat.reduceBEq, Nat.reduceAdd, Nat.reduceSub, Nat.reduceLeDiff, Nat.reduceMul, Nat.reduceLT]; (repeat' (first | refine fork_intro (fun hb => ?_) (fun hb => ?_) | refine partB_intro (fun hb => ?_) (fun hb => ?_) | refine And.intro ?_ ?_)); all_goals first | exact True.intro | omega | with_reducible rfl | exact congrArg (AV.int _) (by omega) | (first | exact hc)) | (first | exact hc)
    · rw [show a = o.length by omega]; rfl
def t_nextS : Table := [(96, pureC g_nextS)]
theorem t_nextS_ok : TabOK Try.prog t_nextS := .cons Try.func96 (by kernel_rfl) (.pure (by intro args hp; unfold g_nextS at hp ⊢; split at hp <;> first | exact hp.elim | exact nextS_ok _ _ _ _ hp)) (.nil _)
attribute [go_sem] g_nextS_eq t_nextS
def g_ascS : List AV → Prop × AV
  | [.agg [.ints o, .rows d]] => (FieldOK o d, .ints (ascentL o d (firstP d)))
  | _ => (False, .undef)
theorem g_ascS_eq (o : List Int) (d : List (List Int)) : g_ascS [.agg [.ints o, .rows d]] = (FieldOK o d, .ints (ascentL o d (firstP d))) := (rfl)
theorem ascS_ok (o : List Int) (d : List (List Int)) (hp : FieldOK o d) : SpecOK Try.prog 65 [.agg [.ints o, .rows d]] (.ints (ascentL o d (firstP d))) [] := by
  refine fun_ok (C := t_nextS ++ t_least2) (hint := hintX [10] [] 0 [] [] [] []) ((t_nextS_ok).append t_least2_ok) mixed Try.func65 rfl (by kernel_rfl) rfl ?_
  show codeA _ _ _ _ _ _ _ _
  simp only [go_sem, ↓reduceIte, Nat.reduceEqDiff, Nat.reduceBEq, Nat.reduceAdd, Nat.reduceSub, Nat.reduceLeDiff, Nat.reduceMul, Nat.reduceLT, Try.results65]
  have hn := hp.n7
  have hn1 := hp.n1
  have hm := hp.m7
  have h1 := firstP_ok hp
  refine loop_intro (fun j : Nat => [(3, .sl 0), (4, .int .i64 j), (1, .iptr [.ints o, .rows d])]) (fun j => [(0, .arr (.ints (tab j fun j => minL (ix d (j : Int)))))]) 1 (fun j => j ≤ d.length) (fun j => d.length - j) 0 (by omega) (by omega) ?_ ?_
  · simp only [go_sem, ↓reduceIte, Nat.reduceEqDiff, Nat.reduceBEq, Nat.reduceAdd, Nat.reduceSub, Nat.reduceLeDiff, Nat.reduceMul, Nat.reduceLT]
    repeat' (first | refine fork_intro (fun hb => ?_) (fun hb => ?_) | refine partB_intro (fun hb => ?_) (fun hb => ?_) | refine And.intro ?_ ?_)
    all_goals first | exact True.intro | omega | with_reducible rfl | exact congrArg (AV.int _) (by omega) | (first | rfl)
  · intro j hj
    have hlen : (tab j fun j => minL (ix d (j : Int))).length = j := tab_len _ _
    simp only [go_sem, ↓reduceIte, Nat.reduceEqDiff, Nat.reduceBEq, Nat.reduceAdd, Nat.reduceSub, Nat.reduceLeDiff, Nat.reduceMul, Nat.reduceLT]
    refine fork_intro (fun hc => ?_) (fun hc => ?_)
    · have hrow := hp.d_len (k := (j : Int)) (by omega) (by omega)
      refine ⟨by omega, by omega, ?_⟩
      refine loop_intro (fun a : Nat => [(5, .int .i64 (minF ((ix d (j : Int)).take a) (ix (ix d (j : Int)) 0))), (6, .int .i64 a), (3, .sl 0), (4, .int .i64 j), (1, .iptr [.ints o, .rows d])]) (fun a => [(0, .arr (.ints (tab j fun j => minL (ix d (j : Int)))))]) 1 (fun a => a ≤ o.length) (fun a => o.length - a) 0 (by omega) (by omega) ?_ ?_
      · simp only [go_sem, ↓reduceIte, Nat.reduceEqDiff, Nat.reduceBEq, Nat.reduceAdd, Nat.reduceSub, Nat.reduceLeDiff, Nat.reduceMul, Nat.reduceLT]
        repeat' (first | refine fork_intro (fun hb => ?_) (fun hb => ?_) | refine partB_intro (fun hb => ?_) (fun hb => ?_) | refine And.intro ?_ ?_)
        all_goals first | exact True.intro | omega | with_reducible rfl | exact congrArg (AV.int _) (by omega) | (first | rfl)
      · intro a ha
        simp only [go_sem, ↓reduceIte, Nat.reduceEqDiff, Nat.reduceBEq, Nat.reduceAdd, Nat.reduceSub, Nat.reduceLeDiff, Nat.reduceMul, Nat.reduceLT]
        refine fork_intro (fun hd => ?_) (fun hd => ?_)
        · have e := minF_take (ix d (j : Int)) (ix (ix d (j : Int)) 0) (k := a) (by omega)
          repeat' (first | refine fork_intro (fun hb => ?_) (fun hb => ?_) | refine partB_intro (fun hb => ?_) (fun hb => ?_) | refine And.intro ?_ ?_)
          all_goals first | exact True.intro | omega | with_reducible rfl | exact congrArg (AV.int _) (by omega) | (refine LoopEnd.intro (a + 1) (by first | omega) (by first | omega | (dsimp only; omega)) (by omega) ?_; simp only [go_sem, ↓reduceIte, Nat.reduceEqDiff, Nat.reduceBEq, Nat.reduceAdd, Nat.reduceSub, Nat.reduceLeDiff, Nat.reduceMul, Nat.reduceLT]; (repeat' (first | refine fork_intro (fun hb => ?_) (fun hb => ?_) | refine partB_intro (fun hb => ?_) (fun hb => ?_) | refine And.intro ?_ ?_)); all_goals first | exact True.intro | omega | with_reducible rfl | exact congrArg (AV.int _) (by omega))
        · have e := tab_succ j (fun j => minL (ix d (j : Int)))
          have e2 : minF ((ix d (j : Int)).take a) (ix (ix d (j : Int)) 0) = minL (ix d (j : Int)) := by rw [List.take_of_length_le (by omega), minL_full (by omega)]
          rw [e2]
          repeat' (first | refine fork_intro (fun hb => ?_) (fun hb => ?_) | refine partB_intro (fun hb => ?_) (fun hb => ?_) | refine And.intro ?_ ?_)
          all_goals first | exact True.intro | omega | with_reducible rfl | exact congrArg (AV.int _) (by omega) | (refine LoopEnd.intro (j + 1) (by first | omega) (by first | omega | (dsimp only; omega)) (by omega) ?_; simp only [go_sem, ↓reduceIte, Nat.reduceEqDiff, Nat.reduceBEq, Nat.reduceAdd, Nat.reduceSub, Nat.reduceLeDiff, Nat.reduceMul, Nat.reduceLT]; (repeat' (first | refine fork_intro (fun hb => ?_) (fun hb => ?_) | refine partB_intro (fun hb => ?_) (fun hb => ?_) | refine And.intro ?_ ?_)); all_goals first | exact True.intro | omega | with_reducible rfl | exact congrArg (AV.int _) (by omega) | (first | rw [e])) | (first | rw [e])
    · refine loop_intro (fun g : Nat × Bool => [(7, .bool g.2), (3, .sl 0), (1, .iptr [.ints o, .rows d])]) (fun g => [(0, .arr (.ints (passes o d (firstP d) g.1)))]) 1 (fun g => (g.2 = false → passA o d (passes o d (firstP d) g.1) d.length = passes o d (firstP d) g.1) ∧ (g.1 : Int) ≤ psum (passes o d (firstP d) g.1) + (if g.2 = true then 0 else 1)) (fun g => 2 * (2000 - psum (passes o d (firstP d) g.1)).toNat + (if g.2 = true then 1 else 0)) (0, true) ⟨fun h => (by cases h), by have h9 := h1.psum; show (0 : Int) ≤ psum (firstP d) + (if true = true then 0 else 1); rw [if_pos rfl]; omega⟩ (by omega) ?_ ?_
      · have e : (tab j fun j => minL (ix d (j : Int))) = passes o d (firstP d) 0 := by rw [show j = d.length by omega]; rfl
        simp only [go_sem, ↓reduceIte, Nat.reduceEqDiff, Nat.reduceBEq, Nat.reduceAdd, Nat.reduceSub, Nat.reduceLeDiff, Nat.reduceMul, Nat.reduceLT]
        repeat' (first | refine fork_intro (fun hb => ?_) (fun hb => ?_) | refine partB_intro (fun hb => ?_) (fun hb => ?_) | refine And.intro ?_ ?_)
        all_goals first | exact True.intro | omega | with_reducible rfl | exact congrArg (AV.int _) (by omega) | (first | rw [e] | rfl)
      · rintro ⟨k, r⟩ ⟨hf, hkb⟩
        simp only at hf hkb
        have hk := h1.passes k
        have hps := hk.psum
        simp only [go_sem, ↓reduceIte, Nat.reduceEqDiff, Nat.reduceBEq, Nat.reduceAdd, Nat.reduceSub, Nat.reduceLeDiff, Nat.reduceMul, Nat.reduceLT]
        refine partB_intro (fun hr => ?_) (fun hr => ?_)
        · subst hr
          refine loop_intro (fun g : Nat × Bool => [(8, .int .i64 g.1), (7, .bool g.2), (3, .sl 0), (1, .iptr [.ints o, .rows d])]) (fun g => [(0, .arr (.ints (passA o d (passes o d (firstP d) k) g.1)))]) 1 (fun g => g.1 ≤ d.length ∧ (g.2 = false → passA o d (passes o d (firstP d) k) g.1 = passes o d (firstP d) k) ∧ psum (passes o d (firstP d) k) ≤ psum (passA o d (passes o d (firstP d) k) g.1) ∧ (g.2 = true → psum (passes o d (firstP d) k) < psum (passA o d (passes o d (firstP d) k) g.1))) (fun g => d.length - g.1) (0, false) ⟨Nat.zero_le _, fun _ => rfl, Int.le_refl _, fun h => by cases h⟩ (by omega) ?_ ?_
          · simp only [go_sem, ↓reduceIte, Nat.reduceEqDiff, Nat.reduceBEq, Nat.reduceAdd, Nat.reduceSub, Nat.reduceLeDiff, Nat.reduceMul, Nat.reduceLT]
            repeat' (first | refine fork_intro (fun hb => ?_) (fun hb => ?_) | refine partB_intro (fun hb => ?_) (fun hb => ?_) | refine And.intro ?_ ?_)
            all_goals first | exact True.intro | omega | with_reducible rfl | exact congrArg (AV.int _) (by omega) | (first | rfl)
          · rintro ⟨q, b⟩ ⟨hq, hq1, hq2, hq3⟩
            simp only at hq hq1 hq2 hq3
            have ha := hk.pass hq
            have hal := ha.len
            simp only [go_sem, ↓reduceIte, Nat.reduceEqDiff, Nat.reduceBEq, Nat.reduceAdd, Nat.reduceSub, Nat.reduceLeDiff, Nat.reduceMul, Nat.reduceLT]
            refine fork_intro (fun hd => ?_) (fun hd => ?_)
            · have hst := ha.step_nn q
              have hpr := psum_raise (o := o) (d := d) (p := passA o d (passes o d (firstP d) k) q) (j := q) (by omega)
              have hbd := ha.bd (j := q) (by omega)
              have hra := ha.raise (j := q) (by omega)
              have hbd2 := hra.bd (j := q) (by omega)
              rw [ix_raise (by omega), if_pos rfl] at hbd2
              have hpa : passA o d (passes o d (firstP d) k) (q + 1) = raise o d (passA o d (passes o d (firstP d) k) q) q := rfl
              have hset : (passA o d (passes o d (firstP d) k) q).set q (ix (passA o d (passes o d (firstP d) k) q) (q : Int) + stepA o d (passA o d (passes o d (firstP d) k) q) q) = passA o d (passes o d (firstP d) k) (q + 1) := rfl
              have hpre : AscOK o d (passA o d (passes o d (firstP d) k) q) ∧ (0 : Int) ≤ q ∧ (q : Int) < d.length := ⟨ha, by omega, by omega⟩
              refine ⟨hpre, fork_intro (fun he => ?_) (fun he => ?_)⟩
              · have hinv : q + 1 ≤ d.length ∧ (true = false → passA o d (passes o d (firstP d) k) (q + 1) = passes o d (firstP d) k) ∧ psum (passes o d (firstP d) k) ≤ psum (passA o d (passes o d (firstP d) k) (q + 1)) ∧ (true = true → psum (passes o d (firstP d) k) < psum (passA o d (passes o d (firstP d) k) (q + 1))) := by
                  rw [hpa]; exact ⟨by omega, fun h => (by cases h), by omega, fun _ => by omega⟩
                repeat' (first | refine fork_intro (fun hb => ?_) (fun hb => ?_) | refine partB_intro (fun hb => ?_) (fun hb => ?_) | refine And.intro ?_ ?_)
                all_goals first | exact True.intro | omega | with_reducible rfl | exact congrArg (AV.int _) (by omega) | (refine LoopEnd.intro ((q + 1, true)) (by first | omega | (first | exact hinv)) (by first | omega | (dsimp only; omega)) (by omega) ?_; simp only [go_sem, ↓reduceIte, Nat.reduceEqDiff, Nat.reduceBEq, Nat.reduceAdd, Nat.reduceSub, Nat.reduceLeDiff, Nat.reduceMul, Nat.reduceLT, hset]; (repeat' (first | refine fork_intro (fun hb => ?_) (fun hb => ?_) | refine partB_intro (fun hb => ?_) (fun hb => ?_) | refine And.intro ?_ ?_)); all_goals first | exact True.intro | omega | with_reducible rfl | exact congrArg (AV.int _) (by omega) | (first | rfl)) | (first | rfl)
              · have hz := raise_zero (o := o) (d := d) (p := passA o d (passes o d (firstP d) k) q) (j := q) (by omega) (by omega)
                have hpz : passA o d (passes o d (firstP d) k) (q + 1) = passA o d (passes o d (firstP d) k) q := by rw [hpa, hz]
                have hinv : q + 1 ≤ d.length ∧ (b = false → passA o d (passes o d (firstP d) k) (q + 1) = passes o d (firstP d) k) ∧ psum (passes o d (firstP d) k) ≤ psum (passA o d (passes o d (firstP d) k) (q + 1)) ∧ (b = true → psum (passes o d (firstP d) k) < psum (passA o d (passes o d (firstP d) k) (q + 1))) := by
                  rw [hpz]; exact ⟨by omega, hq1, hq2, hq3⟩
                repeat' (first | refine fork_intro (fun hb => ?_) (fun hb => ?_) | refine partB_intro (fun hb => ?_) (fun hb => ?_) | refine And.intro ?_ ?_)
                all_goals first | exact True.intro | omega | with_reducible rfl | exact congrArg (AV.int _) (by omega) | (refine LoopEnd.intro ((q + 1, b)) (by first | omega | (first | exact hinv)) (by first | omega | (dsimp only; omega)) (by omega) ?_; simp only [go_sem, ↓reduceIte, Nat.reduceEqDiff, Nat.reduceBEq, Nat.reduceAdd, Nat.reduceSub, Nat.reduceLeDiff, Nat.reduceMul, Nat.reduceLT]; (repeat' (first | refine fork_intro (fun hb => ?_) (fun hb => ?_) | refine partB_intro (fun hb => ?_) (fun hb => ?_) | refine And.intro ?_ ?_)); all_goals first | exact True.intro | omega | with_reducible rfl | exact congrArg (AV.int _) (by omega) | (first | rw [hpz] | rfl)) | (first | rw [hpz] | rfl)
            · have eq : q = d.length := by omega
              subst eq
              have hps2 := ha.psum
              have hpp : passes o d (firstP d) (k + 1) = passA o d (passes o d (firstP d) k) d.length := rfl
              refine LoopEnd.intro (k + 1, b) ⟨fun h => ?_, ?_⟩ ?_ (by omega) ?_
              · simp only at h
                show passA o d (passes o d (firstP d) (k + 1)) d.length = passes o d (firstP d) (k + 1)
                rw [hpp, hq1 h]; exact hq1 h
              · show ((k + 1 : Nat) : Int) ≤ psum (passes o d (firstP d) (k + 1)) + (if b = true then 0 else 1)
                rw [if_pos rfl] at hkb
                rw [hpp]
                cases b with
                | true => have := hq3 rfl; rw [if_pos rfl]; omega
                | false => rw [if_neg (by simp)]; omega
              · show 2 * (2000 - psum (passes o d (firstP d) (k + 1))).toNat + (if b = true then 1 else 0) < 2 * (2000 - psum (passes o d (firstP d) k)).toNat + (if true = true then 1 else 0)
                rw [hpp, if_pos rfl]
                cases b with
                | true => have := hq3 rfl; rw [if_pos rfl]; omega
                | false => rw [if_neg (by simp)]; omega
              · simp only [go_sem, ↓reduceIte, Nat.reduceEqDiff, Nat.reduceBEq, Nat.reduceAdd, Nat.reduceSub, Nat.reduceLeDiff, Nat.reduceMul, Nat.reduceLT]
                repeat' (first | refine fork_intro (fun hb => ?_) (fun hb => ?_) | refine partB_intro (fun hb => ?_) (fun hb => ?_) | refine And.intro ?_ ?_)
                all_goals first | exact True.intro | omega | with_reducible rfl | exact congrArg (AV.int _) (by omega) | (first | rfl)
        · subst hr
          rw [if_neg (by simp)] at hkb
          rw [ascentL_eq (by omega) (hf rfl)]
def t_ascS : Table := [(65, pureC g_ascS)]
theorem t_ascS_ok : TabOK Try.prog t_ascS := .cons Try.func65 (by kernel_rfl) (.pure (by intro args hp; unfold g_ascS at hp ⊢; split at hp <;> first | exact hp.elim | exact ascS_ok _ _ hp)) (.nil _)
attribute [go_sem] g_ascS_eq t_ascS
def g_ascentOfS : List AV → Prop × AV
  | [.agg [.ints o, .rows d]] => (o.length ≤ 1048576000 ∧ d.length ≤ 1048576000 ∧ ∀ x ∈ d, x.length ≤ 1048576000, .tup [.ints (bif good o d then ascentL o d (firstP d) else []), .bool (good o d)])
  | _ => (False, .undef)
theorem g_ascentOfS_eq (o : List Int) (d : List (List Int)) : g_ascentOfS [.agg [.ints o, .rows d]] = (o.length ≤ 1048576000 ∧ d.length ≤ 1048576000 ∧ ∀ x ∈ d, x.length ≤ 1048576000, .tup [.ints (bif good o d then ascentL o d (firstP d) else []), .bool (good o d)]) := (rfl)
theorem ascentOfS_ok (o : List Int) (d : List (List Int)) (hp : o.length ≤ 1048576000 ∧ d.length ≤ 1048576000 ∧ ∀ x ∈ d, x.length ≤ 1048576000) : SpecOK Try.prog 28 [.agg [.ints o, .rows d]] (.tup [.ints (bif good o d then ascentL o d (firstP d) else []), .bool (good o d)]) [] := by
  refine fun_ok (C := t_l2Good ++ t_ascS) (hint := hintX [] [] 0 [] [] [] []) ((t_l2Good_ok).append t_ascS_ok) mixed Try.func28 rfl (by kernel_rfl) rfl ?_
  show codeA _ _ _ _ _ _ _ _
  simp only [go_sem, ↓reduceIte, Nat.reduceEqDiff, Nat.reduceBEq, Nat.reduceAdd, Nat.reduceSub, Nat.reduceLeDiff, Nat.reduceMul, Nat.reduceLT, Try.results28]
  refine ⟨hp, partB_intro (fun hg => ?_) (fun hg => ?_)⟩
  · rw [hg]; exact ⟨good_iff.1 hg, rfl, rfl⟩
  · rw [hg]; first | rfl | exact ⟨rfl, rfl⟩
def t_ascentOfS : Table := [(28, pureC g_ascentOfS)]
theorem t_ascentOfS_ok : TabOK Try.prog t_ascentOfS := .cons Try.func28 (by kernel_rfl) (.pure (by intro args hp; unfold g_ascentOfS at hp ⊢; split at hp <;> first | exact hp.elim | exact ascentOfS_ok _ _ hp)) (.nil _)
attribute [go_sem] g_ascentOfS_eq t_ascentOfS
def g_ascentOfI : List AV → Prop × AV × Heap
  | [.agg [.ints o, .rows d]] => (o.length ≤ 1048576000 ∧ d.length ≤ 1048576000 ∧ ∀ x ∈ d, x.length ≤ 1048576000, .tup [.sl 0, .bool (good o d)], [(0, .arr (.ints (bif good o d then ascentL o d (firstP d) else [])))])
  | _ => (False, .undef, [])
theorem g_ascentOfI_eq (o : List Int) (d : List (List Int)) : g_ascentOfI [.agg [.ints o, .rows d]] = (o.length ≤ 1048576000 ∧ d.length ≤ 1048576000 ∧ ∀ x ∈ d, x.length ≤ 1048576000, .tup [.sl 0, .bool (good o d)], [(0, .arr (.ints (bif good o d then ascentL o d (firstP d) else [])))]) := (rfl)
theorem ascentOfI_ok (o : List Int) (d : List (List Int)) (hp : o.length ≤ 1048576000 ∧ d.length ≤ 1048576000 ∧ ∀ x ∈ d, x.length ≤ 1048576000) : SpecOK Try.prog 27 [.agg [.ints o, .rows d]] (.tup [.sl 0, .bool (good o d)]) [(0, .arr (.ints (bif good o d then ascentL o d (firstP d) else [])))] := by
  refine fun_ok (C := t_isF ++ t_minI ++ t_restsI) (hint := hintX [19] [(2, [.post, .up 2 (.arr (.ints []))])] 0 [] [] [] []) (((t_isF_ok).append t_minI_ok).append t_restsI_ok) mixed Try.func27 rfl (by kernel_rfl) rfl ?_
  show codeA _ _ _ _ _ _ _ _
  simp only [go_sem, ↓reduceIte, Nat.reduceEqDiff, Nat.reduceBEq, Nat.reduceAdd, Nat.reduceSub, Nat.reduceLeDiff, Nat.reduceMul, Nat.reduceLT, Try.results27]
  refine ⟨hp, partB_intro (fun hg => ?_) (fun hg => ?_)⟩
  · have hp := good_iff.1 hg
    rw [hg]
    have hn := hp.n7
    have hn1 := hp.n1
    have hm := hp.m7
    have h1 := firstP_ok hp
    refine loop_intro (fun j : Nat => [(4, .sl 0), (21, .rows d), (22, .int .i64 d.length), (23, .int .i64 j), (1, .iptr [.ints o, .rows d])]) (fun j => [(0, .arr (.ints (tab j fun j => minL (ix d (j : Int)))))]) 1 (fun j => j ≤ d.length) (fun j => d.length - j) 0 (by omega) (by omega) ?_ ?_
    · simp only [go_sem, ↓reduceIte, Nat.reduceEqDiff, Nat.reduceBEq, Nat.reduceAdd, Nat.reduceSub, Nat.reduceLeDiff, Nat.reduceMul, Nat.reduceLT]
      repeat' (first | refine fork_intro (fun hb => ?_) (fun hb => ?_) | refine partB_intro (fun hb => ?_) (fun hb => ?_) | refine And.intro ?_ ?_)
      all_goals first | exact True.intro | omega | with_reducible rfl | exact congrArg (AV.int _) (by omega) | (first | rfl)
    · intro j hj
      have hlen : (tab j fun j => minL (ix d (j : Int))).length = j := tab_len _ _
      simp only [go_sem, ↓reduceIte, Nat.reduceEqDiff, Nat.reduceBEq, Nat.reduceAdd, Nat.reduceSub, Nat.reduceLeDiff, Nat.reduceMul, Nat.reduceLT]
      refine fork_intro (fun hc => ?_) (fun hc => ?_)
      · have hrow := hp.d_len (k := (j : Int)) (by omega) (by omega)
        have e := tab_succ j (fun j => minL (ix d (j : Int)))
        repeat' (first | refine fork_intro (fun hb => ?_) (fun hb => ?_) | refine partB_intro (fun hb => ?_) (fun hb => ?_) | refine And.intro ?_ ?_)
        all_goals first | exact True.intro | omega | with_reducible rfl | exact congrArg (AV.int _) (by omega) | (refine LoopEnd.intro (j + 1) (by first | omega) (by first | omega | (dsimp only; omega)) (by omega) ?_; simp only [go_sem, ↓reduceIte, Nat.reduceEqDiff, Nat.reduceBEq, Nat.reduceAdd, Nat.reduceSub, Nat.reduceLeDiff, Nat.reduceMul, Nat.reduceLT]; (repeat' (first | refine fork_intro (fun hb => ?_) (fun hb => ?_) | refine partB_intro (fun hb => ?_) (fun hb => ?_) | refine And.intro ?_ ?_)); all_goals first | exact True.intro | omega | with_reducible rfl | exact congrArg (AV.int _) (by omega) | (first | rw [e])) | (first | rw [e])
      · refine loop_intro (fun g : Nat × Bool => [(7, .bool g.2), (4, .sl 0), (1, .iptr [.ints o, .rows d])]) (fun g => [(0, .arr (.ints (passes o d (firstP d) g.1)))]) 1 (fun g => (g.2 = false → passA o d (passes o d (firstP d) g.1) d.length = passes o d (firstP d) g.1) ∧ (g.1 : Int) ≤ psum (passes o d (firstP d) g.1) + (if g.2 = true then 0 else 1)) (fun g => 2 * (2000 - psum (passes o d (firstP d) g.1)).toNat + (if g.2 = true then 1 else 0)) (0, true) ⟨fun h => (by cases h), by have h9 := h1.psum; show (0 : Int) ≤ psum (firstP d) + (if true = true then 0 else 1); rw [if_pos rfl]; omega⟩ (by omega) ?_ ?_
        · have e : (tab j fun j => minL (ix d (j : Int))) = passes o d (firstP d) 0 := by rw [show j = d.length by omega]; rfl
          simp only [go_sem, ↓reduceIte, Nat.reduceEqDiff, Nat.reduceBEq, Nat.reduceAdd, Nat.reduceSub, Nat.reduceLeDiff, Nat.reduceMul, Nat.reduceLT]
          repeat' (first | refine fork_intro (fun hb => ?_) (fun hb => ?_) | refine partB_intro (fun hb => ?_) (fun hb => ?_) | refine And.intro ?_ ?_)
          all_goals first | exact True.intro | omega | with_reducible rfl | exact congrArg (AV.int _) (by omega) | (first | rw [e] | rfl)
        · rintro ⟨k, r⟩ ⟨hf, hkb⟩
          simp only at hf hkb
          have hk := h1.passes k
          have hps := hk.psum
          simp only [go_sem, ↓reduceIte, Nat.reduceEqDiff, Nat.reduceBEq, Nat.reduceAdd, Nat.reduceSub, Nat.reduceLeDiff, Nat.reduceMul, Nat.reduceLT]
          refine partB_intro (fun hr => ?_) (fun hr => ?_)
          · subst hr
            refine loop_intro (fun g : Nat × Bool => [(37, .int .i64 g.1), (36, .int .i64 d.length), (35, .rows d), (7, .bool g.2), (4, .sl 0), (1, .iptr [.ints o, .rows d])]) (fun g => [(0, .arr (.ints (passA o d (passes o d (firstP d) k) g.1)))]) 1 (fun g => g.1 ≤ d.length ∧ (g.2 = false → passA o d (passes o d (firstP d) k) g.1 = passes o d (firstP d) k) ∧ psum (passes o d (firstP d) k) ≤ psum (passA o d (passes o d (firstP d) k) g.1) ∧ (g.2 = true → psum (passes o d (firstP d) k) < psum (passA o d (passes o d (firstP d) k) g.1))) (fun g => d.length - g.1) (0, false) ⟨Nat.zero_le _, fun _ => rfl, Int.le_refl _, fun h => by cases h⟩ (by omega) ?_ ?_
            · simp only [go_sem, ↓reduceIte, Nat.reduceEqDiff, Nat.reduceBEq, Nat.reduceAdd, Nat.reduceSub, Nat.reduceLeDiff, Nat.reduceMul, Nat.reduceLT]
              repeat' (first | refine fork_intro (fun hb => ?_) (fun hb => ?_) | refine partB_intro (fun hb => ?_) (fun hb => ?_) | refine And.intro ?_ ?_)
              all_goals first | exact True.intro | omega | with_reducible rfl | exact congrArg (AV.int _) (by omega) | (first | rfl)
            · rintro ⟨q, b⟩ ⟨hq, hq1, hq2, hq3⟩
              simp only at hq hq1 hq2 hq3
              have ha := hk.pass hq
              have hal := ha.len
              generalize hPq : passA o d (passes o d (firstP d) k) q = p at *
              simp only [go_sem, ↓reduceIte, Nat.reduceEqDiff, Nat.reduceBEq, Nat.reduceAdd, Nat.reduceSub, Nat.reduceLeDiff, Nat.reduceMul, Nat.reduceLT]
              refine fork_intro (fun hd => ?_) (fun hd => ?_)
              · have hrow := hp.d_len (k := (q : Int)) (by omega) (by omega)
                have hcl := ha.clm
                have hrl : (restsL o d p).length = o.length := tab_len _ _
                refine ⟨by omega, hcl, ?_⟩
                refine loop_intro (fun a : Nat => [(11, .int .i64 (nextA d p q a)), (12, .int .i64 (byA o d p q a)), (10, .ints (restsL o d p)), (45, .ints (ix d (q : Int))), (46, .int .i64 o.length), (47, .int .i64 a), (8, .int .i64 q), (37, .int .i64 q), (36, .int .i64 d.length), (35, .rows d), (7, .bool b), (4, .sl 0), (1, .iptr [.ints o, .rows d])]) (fun a => [(0, .arr (.ints p))]) 1 (fun a => a ≤ o.length) (fun a => o.length - a) 0 (by omega) (by omega) ?_ ?_
                · simp only [go_sem, ↓reduceIte, Nat.reduceEqDiff, Nat.reduceBEq, Nat.reduceAdd, Nat.reduceSub, Nat.reduceLeDiff, Nat.reduceMul, Nat.reduceLT]
                  repeat' (first | refine fork_intro (fun hb => ?_) (fun hb => ?_) | refine partB_intro (fun hb => ?_) (fun hb => ?_) | refine And.intro ?_ ?_)
                  all_goals first | exact True.intro | omega | with_reducible rfl | exact congrArg (AV.int _) (by omega) | (first | rfl | rw [hrow])
                · intro a hao
                  simp only [go_sem, ↓reduceIte, Nat.reduceEqDiff, Nat.reduceBEq, Nat.reduceAdd, Nat.reduceSub, Nat.reduceLeDiff, Nat.reduceMul, Nat.reduceLT]
                  have hbd := ha.bd (j := q) (by omega)
                  refine fork_intro (fun he => ?_) (fun he => ?_)
                  · have hdx := hp.d_ix (k := (q : Int)) (a := (a : Int)) (by omega) (by omega) (by omega) (by omega)
                    have hrx : ix (restsL o d p) (a : Int) = ix o (a : Int) - clm d p 1 (a : Int) := tab_ix (by omega)
                    have e1 : nextA d p q (a + 1) = if ix p (q : Int) < ix (ix d (q : Int)) (a : Int) ∧ (nextA d p q a < 0 ∨ ix (ix d (q : Int)) (a : Int) < nextA d p q a) then ix (ix d (q : Int)) (a : Int) else nextA d p q a := rfl
                    have e2 : byA o d p q (a + 1) = if ix (ix d (q : Int)) (a : Int) ≤ ix p (q : Int) ∧ (byA o d p q a < 0 ∨ ix o (a : Int) - clm d p 1 (a : Int) < byA o d p q a) then ix o (a : Int) - clm d p 1 (a : Int) else byA o d p q a := rfl
                    repeat' (first | refine fork_intro (fun hb => ?_) (fun hb => ?_) | refine partB_intro (fun hb => ?_) (fun hb => ?_) | refine And.intro ?_ ?_)
                    all_goals first | exact True.intro | omega | with_reducible rfl | exact congrArg (AV.int _) (by omega) | (refine LoopEnd.intro (a + 1) (by first | omega) (by first | omega | (dsimp only; omega)) (by omega) ?_; simp only [go_sem, ↓reduceIte, Nat.reduceEqDiff, Nat.reduceBEq, Nat.reduceAdd, Nat.reduceSub, Nat.reduceLeDiff, Nat.reduceMul, Nat.reduceLT]; (repeat' (first | refine fork_intro (fun hb => ?_) (fun hb => ?_) | refine partB_intro (fun hb => ?_) (fun hb => ?_) | refine And.intro ?_ ?_)); all_goals first | exact True.intro | omega | with_reducible rfl | exact congrArg (AV.int _) (by omega))
                  · have eao : a = o.length := by omega
                    subst eao
                    obtain ⟨hto1, hto2⟩ := ha.to (j := q) (by omega)
                    have htw := (ha.two (j := q) (by omega) (Nat.le_refl o.length)).1
                    have hst := ha.step_nn q
                    have hpr := psum_raise (o := o) (d := d) (p := p) (j := q) (by omega)
                    have hpa : passA o d (passes o d (firstP d) k) (q + 1) = raise o d p q := by rw [← hPq]; rfl
                    have hra : raise o d p q = p.set q (ix p (q : Int) + stepA o d p q) := rfl
                    have hz : stepA o d p q = 0 → raise o d p q = p := raise_zero (by omega)
                    generalize hN : nextA d p q o.length = N at *
                    generalize hB : byA o d p q o.length = B at *
                    have fin : ∀ T : Int, T = ix p (q : Int) + stepA o d p q → p.set q T = passA o d (passes o d (firstP d) k) (q + 1) := fun T hT => by rw [hpa, hra, hT]
                    have hinv : ∀ b' : Bool, (b' = true ↔ b = true ∨ 0 < stepA o d p q) → q + 1 ≤ d.length ∧ (b' = false → passA o d (passes o d (firstP d) k) (q + 1) = passes o d (firstP d) k) ∧ psum (passes o d (firstP d) k) ≤ psum (passA o d (passes o d (firstP d) k) (q + 1)) ∧ (b' = true → psum (passes o d (firstP d) k) < psum (passA o d (passes o d (firstP d) k) (q + 1))) := fun b' hb' => by
                      rw [hpa]
                      refine ⟨by omega, fun h => ?_, by omega, fun h => ?_⟩
                      · have hno : ¬ (b = true ∨ 0 < stepA o d p q) := fun h2 => by rw [hb'.2 h2] at h; cases h
                        have hb : b = false := by cases b <;> simp at hno ⊢
                        rw [hz (by omega)]; exact hq1 hb
                      · rcases hb'.1 h with h2 | h2
                        · have := hq3 h2; omega
                        · omega
                    have fb : ∀ T : Int, T = ix p (q : Int) + stepA o d p q → b = false → decide (ix p (q : Int) < T) = (b || decide (0 < stepA o d p q)) := fun T hT hb => by
                      rw [hb, Bool.false_or]; exact decide_eq_decide.2 (by omega)
                    repeat' (first | refine fork_intro (fun hb => ?_) (fun hb => ?_) | refine partB_intro (fun hb => ?_) (fun hb => ?_) | refine And.intro ?_ ?_)
                    all_goals first | exact True.intro | omega | with_reducible rfl | exact congrArg (AV.int _) (by omega) | (refine LoopEnd.intro ((q + 1, b || decide (0 < stepA o d p q))) (by first | omega | (first | exact hinv _ (by simp))) (by first | omega | (dsimp only; omega)) (by omega) ?_; simp only [go_sem, ↓reduceIte, Nat.reduceEqDiff, Nat.reduceBEq, Nat.reduceAdd, Nat.reduceSub, Nat.reduceLeDiff, Nat.reduceMul, Nat.reduceLT]; (repeat' (first | refine fork_intro (fun hb => ?_) (fun hb => ?_) | refine partB_intro (fun hb => ?_) (fun hb => ?_) | refine And.intro ?_ ?_)); all_goals first | exact True.intro | omega | with_reducible rfl | exact congrArg (AV.int _) (by omega) | (first | (rw [fin _ (by omega)]) | (rw [fb _ (by omega) (by assumption)]) | (simp [*]; done))) | (first | (rw [fin _ (by omega)]) | (rw [fb _ (by omega) (by assumption)]) | (simp [*]; done))
              · have eq : q = d.length := by omega
                subst eq
                have hps2 := ha.psum
                have hpp : passes o d (firstP d) (k + 1) = p := hPq
                refine LoopEnd.intro (k + 1, b) ⟨fun h => ?_, ?_⟩ ?_ (by omega) ?_
                · simp only at h
                  show passA o d (passes o d (firstP d) (k + 1)) d.length = passes o d (firstP d) (k + 1)
                  rw [hpp, hq1 h, hPq]; exact hq1 h
                · show ((k + 1 : Nat) : Int) ≤ psum (passes o d (firstP d) (k + 1)) + (if b = true then 0 else 1)
                  rw [if_pos rfl] at hkb
                  rw [hpp]
                  cases b with
                  | true => have := hq3 rfl; rw [if_pos rfl]; omega
                  | false => rw [if_neg (by simp)]; omega
                · show 2 * (2000 - psum (passes o d (firstP d) (k + 1))).toNat + (if b = true then 1 else 0) < 2 * (2000 - psum (passes o d (firstP d) k)).toNat + (if true = true then 1 else 0)
                  rw [hpp, if_pos rfl]
                  cases b with
                  | true => have := hq3 rfl; rw [if_pos rfl]; omega
                  | false => rw [if_neg (by simp)]; omega
                · simp only [go_sem, ↓reduceIte, Nat.reduceEqDiff, Nat.reduceBEq, Nat.reduceAdd, Nat.reduceSub, Nat.reduceLeDiff, Nat.reduceMul, Nat.reduceLT]
                  repeat' (first | refine fork_intro (fun hb => ?_) (fun hb => ?_) | refine partB_intro (fun hb => ?_) (fun hb => ?_) | refine And.intro ?_ ?_)
                  all_goals first | exact True.intro | omega | with_reducible rfl | exact congrArg (AV.int _) (by omega) | (first | rw [hpp] | rfl)
          · subst hr
            rw [if_neg (by simp)] at hkb
            rw [ascentL_eq (by omega) (hf rfl)]
            repeat' (first | refine fork_intro (fun hb => ?_) (fun hb => ?_) | refine partB_intro (fun hb => ?_) (fun hb => ?_) | refine And.intro ?_ ?_)
            all_goals first | exact True.intro | omega | with_reducible rfl | exact congrArg (AV.int _) (by omega) | (first | rfl)
  · rw [hg]; first | rfl | exact ⟨rfl, rfl⟩
def t_ascentOfI : Table := [(27, ownC g_ascentOfI)]
theorem t_ascentOfI_ok : TabOK Try.prog t_ascentOfI := .cons Try.func27 (by kernel_rfl) (.own (by intro args hp; unfold g_ascentOfI at hp ⊢; split at hp <;> first | exact hp.elim | exact ⟨ascentOfI_ok _ _ hp, rfl⟩)) (.nil _)
attribute [go_sem] g_ascentOfI_eq t_ascentOfI
end Go.Proofs.Yteefjdbdknkcjaa
