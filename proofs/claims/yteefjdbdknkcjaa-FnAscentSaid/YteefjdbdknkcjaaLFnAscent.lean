/- Ascent: what the law asks. -/
import Derived.Test.YteefjdbdknkcjaaFC
import Derived.Test.YteefjdbdknkcjaaEB
import Derived.Test.YteefjdbdknkcjaaPlW
import Derived.Test.YteefjdbdknkcjaaA14
import Derived.Test.YteefjdbdknkcjaaA15
import Derived.Test.YteefjdbdknkcjaaA8
namespace Go.Proofs.Yteefjdbdknkcjaa
open Go.Vc
set_option maxRecDepth 100000
set_option maxHeartbeats 1600000
set_option linter.unusedSimpArgs false
set_option linter.unusedVariables false

theorem opened_sel {o : List Int} {d : List (List Int)} (hf : FieldOK o d) {m : Nat} (h1 : 1 ≤ m) (h2 : m < 2 ^ o.length) : opened o d (sel m.testBit o.length) = true := by
  have hp7 := pow_7 o.length hf.n7
  have hl : 0 < (sel m.testBit o.length).length := by
    rw [← bagL_eq (n := o.length) h2 (by have := hf.n7; omega)]
    exact bag_pos m (by omega) (by omega)
  have hr := up_ris (lo := 0) (hi := (o.length : Int) - 1) (up_sel m.testBit o.length) (fun x hx => by
    obtain ⟨k, hk, _, rfl⟩ := mem_sel.1 hx
    omega)
  simp only [opened, Bool.and_eq_true, decide_eq_true_eq]
  exact ⟨good_iff.2 hf, hr, by omega⟩
theorem partB_ff {A B : Prop} (h : B) : partB false A B := by rw [partB_false]; exact h
theorem rests_ix {o : List Int} {d : List (List Int)} {ps : List Int} {a : Int} (h0 : 0 ≤ a) (h1 : a < o.length) : ix (restsL o d ps) a = dueS o d ps a := by
  obtain ⟨k, rfl⟩ : ∃ k : Nat, a = k := ⟨a.toNat, by omega⟩
  unfold restsL
  rw [tab_ix (by omega)]
  rfl
def g_lawFnAscent : List AV → Prop × AV
  | [.bytes code] => (code.length ≤ 9223372036854775807, .bool true)
  | _ => (False, .undef)
theorem g_lawFnAscent_eq (code : List UInt8) : g_lawFnAscent [.bytes code] = (code.length ≤ 9223372036854775807, .bool true) := (rfl)
theorem lawFnAscent_ok (code : List UInt8) (hp : code.length ≤ 9223372036854775807) : SpecOK Try.prog 4 [.bytes code] (.bool true) [] := by
  refine fun_ok (C := t_vBig ++ t_drawAscent ++ t_ascentOfI ++ t_ascentOfS ++ t_vCut ++ t_drawClosed ++ t_closedI ++ t_closedS ++ t_restCostsI ++ t_restCostsS ++ t_vInts ++ t_vBits ++ t_totalOfI ++ t_vHas ++ t_vSum ++ t_areFairOfI ++ t_vOwn) (hint := hintX [3, 8, 174] [(4, [.frb 3, .cut [0, 3]]), (5, [.cut [0, 3, 4, 5]]), (6, [.cut [0, 3, 4, 5, 6, 7]]), (7, [.frb 8, .cut [3, 4, 5, 6, 7, 8, 9, 10]]), (8, [.cut [3, 4, 5, 6, 7, 8, 9, 10, 11, 12]]), (9, [.cut [3, 4, 5, 6, 7, 8, 9, 10, 11, 12, 13, 14]]), (10, [.cut [3, 4, 5, 6, 7, 8, 9, 10, 11, 12, 13, 14, 15, 16]]), (11, [.cut [3, 4, 5, 6, 7, 8, 9, 10, 11, 12, 13, 14, 15, 16, 17, 18]]), (13, [.cut [3, 4, 5, 8, 9, 10, 11, 12, 15]]), (24, [.cut [3, 4, 5]]), (26, [.cut [3, 4]]), (33, [.drop [5] 5])] 0 [26, 1000026, 29, 1000029] [] [] []) (((((((((((((((((t_vBig_ok).append t_drawAscent_ok).append t_ascentOfI_ok).append t_ascentOfS_ok).append t_vCut_ok).append t_drawClosed_ok).append t_closedI_ok).append t_closedS_ok).append t_restCostsI_ok).append t_restCostsS_ok).append t_vInts_ok).append t_vBits_ok).append t_totalOfI_ok).append t_vHas_ok).append t_vSum_ok).append t_areFairOfI_ok).append t_vOwn_ok) mixed Try.func4 rfl (by kernel_rfl) rfl ?_
  show codeA _ _ _ _ _ _ _ _
  simp only [go_sem, ↓reduceIte, Nat.reduceEqDiff, Nat.reduceBEq, Nat.reduceAdd, Nat.reduceSub, Nat.reduceLeDiff, Nat.reduceMul, Nat.reduceLT, Try.results4]
  refine ⟨hp, fork_intro (fun _ => trivial) (fun hc => ⟨by omega, fun z hz => ?_⟩)⟩
  obtain ⟨b1, b2, b3⟩ := hz
  generalize z.xs = o at *
  generalize z.xss = d at *
  have hpre : o.length ≤ 1048576000 ∧ d.length ≤ 1048576000 ∧ ∀ x ∈ d, x.length ≤ 1048576000 := ⟨by omega, by omega, fun x hx => by have := b3 x hx; omega⟩
  have l1 : (bif good o d then ascentL o d (firstP d) else []).length ≤ 1048576000 := by
    cases hg : good o d with
    | false => simp
    | true => have := ascentL_len (good_iff.1 hg); rw [cond_true]; omega
  refine stop_intro ?_
  simp only [go_sem, ↓reduceIte, Nat.reduceEqDiff, Nat.reduceBEq, Nat.reduceAdd, Nat.reduceSub, Nat.reduceLeDiff, Nat.reduceMul, Nat.reduceLT]
  refine ⟨hpre, ?_⟩
  refine stop_intro ?_
  simp only [go_sem, ↓reduceIte, Nat.reduceEqDiff, Nat.reduceBEq, Nat.reduceAdd, Nat.reduceSub, Nat.reduceLeDiff, Nat.reduceMul, Nat.reduceLT]
  refine ⟨hpre, ?_⟩
  refine stop_intro ?_
  simp only [go_sem, ↓reduceIte, Nat.reduceEqDiff, Nat.reduceBEq, Nat.reduceAdd, Nat.reduceSub, Nat.reduceLeDiff, Nat.reduceMul, Nat.reduceLT]
  refine ⟨by omega, ?_, fun z2 hz2 => ?_⟩
  · have : (cutV code).length ≤ code.length + 1 := by unfold cutV; simp
    omega
  obtain ⟨⟨c1, c2, c3⟩, c4, c5⟩ := hz2
  generalize z2.xs = o2 at *
  generalize z2.xss = d2 at *
  generalize z2.ys = ps at *
  generalize z2.n = v at *
  have hpre2 : (o2.length ≤ 1048576000 ∧ d2.length ≤ 1048576000 ∧ ∀ x ∈ d2, x.length ≤ 1048576000) ∧ ps.length ≤ 1048576000 := ⟨⟨by omega, by omega, fun x hx => by have := c3 x hx; omega⟩, by omega⟩
  have l2 : (bif closedOK o2 d2 ps v then closedL o2 d2 ps v else []).length ≤ 1048576000 := by
    have : (closedL o2 d2 ps v).length ≤ o2.length := sel_len _ _
    cases closedOK o2 d2 ps v
    · simp
    · rw [cond_true]; omega
  have l3 : (bif fairOK o2 d2 ps then restsL o2 d2 ps else []).length ≤ 1048576000 := by
    have : (restsL o2 d2 ps).length = o2.length := tab_len _ _
    cases fairOK o2 d2 ps
    · simp
    · rw [cond_true]; omega
  refine stop_intro ?_
  simp only [go_sem, ↓reduceIte, Nat.reduceEqDiff, Nat.reduceBEq, Nat.reduceAdd, Nat.reduceSub, Nat.reduceLeDiff, Nat.reduceMul, Nat.reduceLT]
  refine ⟨hpre2, ?_⟩
  refine stop_intro ?_
  simp only [go_sem, ↓reduceIte, Nat.reduceEqDiff, Nat.reduceBEq, Nat.reduceAdd, Nat.reduceSub, Nat.reduceLeDiff, Nat.reduceMul, Nat.reduceLT]
  refine ⟨hpre2, ?_⟩
  refine stop_intro ?_
  simp only [go_sem, ↓reduceIte, Nat.reduceEqDiff, Nat.reduceBEq, Nat.reduceAdd, Nat.reduceSub, Nat.reduceLeDiff, Nat.reduceMul, Nat.reduceLT]
  refine ⟨hpre2, ?_⟩
  refine stop_intro ?_
  simp only [go_sem, ↓reduceIte, Nat.reduceEqDiff, Nat.reduceBEq, Nat.reduceAdd, Nat.reduceSub, Nat.reduceLeDiff, Nat.reduceMul, Nat.reduceLT]
  refine ⟨hpre2, ?_⟩
  refine stop_intro ?_
  simp only [go_sem, ↓reduceIte, Nat.reduceEqDiff, Nat.reduceBEq, Nat.reduceAdd, Nat.reduceSub, Nat.reduceLeDiff, Nat.reduceMul, Nat.reduceLT]
  repeat' (first | exact l1 | exact l2 | exact l3 | apply partB_self | apply forkP_true | (with_reducible refine And.intro ?_ ?_))
  refine stop_intro ?_
  simp only [go_sem, ↓reduceIte, Nat.reduceEqDiff, Nat.reduceBEq, Nat.reduceAdd, Nat.reduceSub, Nat.reduceLeDiff, Nat.reduceMul, Nat.reduceLT]
  refine partB_intro (fun hfine => ?_) (fun _ => ?_)
  · have hfo : fairOK o2 d2 ps = true := by
      simp only [closedOK, Bool.and_eq_true] at hfine
      exact hfine.1
    have hpo := fairOK_iff hfo
    have hfb : fairB o2 d2 ps = true := by
      simp only [fairOK, Bool.and_eq_true] at hfo
      exact hfo.2
    have hf := hpo.f
    have hn := hf.n7
    have hp7 := pow_7 o2.length hn
    have hrl : (restsL o2 d2 ps).length = o2.length := tab_len _ _
    have hcl : (closedL o2 d2 ps v).length ≤ o2.length := sel_len _ _
    refine loop_intro (fun m : Nat => [(19, .int .i64 m), (3, .iptr [.ints o, .rows d]), (4, .ints (bif good o d then ascentL o d (firstP d) else [])), (5, .bool (good o d)), (8, .iptr [.ints o2, .rows d2]), (9, .ints ps), (10, .int .i64 v), (11, .ints (closedL o2 d2 ps v)), (15, .ints (restsL o2 d2 ps))]) (fun _ => []) 5 (fun m => 1 ≤ m ∧ m ≤ 2 ^ o2.length) (fun m => 2 ^ o2.length - m) 1 ⟨by omega, by omega⟩ (by omega) ?_ ?_
    · rw [hfine, hfo]
      simp only [go_sem, ↓reduceIte, Nat.reduceEqDiff, Nat.reduceBEq, Nat.reduceAdd, Nat.reduceSub, Nat.reduceLeDiff, Nat.reduceMul, Nat.reduceLT]
      repeat' (first | refine fork_intro (fun hb => ?_) (fun hb => ?_) | refine partB_intro (fun hb => ?_) (fun hb => ?_) | refine And.intro ?_ ?_)
      all_goals first | exact True.intro | omega | with_reducible rfl | exact congrArg (AV.int _) (by omega) | (first | rfl)
    rintro m ⟨hm1, hm2⟩
    simp only [go_sem, ↓reduceIte, Nat.reduceEqDiff, Nat.reduceBEq, Nat.reduceAdd, Nat.reduceSub, Nat.reduceLeDiff, Nat.reduceMul, Nat.reduceLT]
    refine ⟨⟨⟨by omega, by omega⟩, by omega, by omega⟩, fork_intro (fun hlt => ?_) (fun hge => ?_)⟩
    · have hop := opened_sel hf hm1 (by omega)
      have hsl := sel_len m.testBit o2.length
      have hoo := opened_iff (by omega) hop
      refine ⟨⟨⟨by omega, by omega⟩, by omega, by omega⟩, ⟨hpre2.1, by omega⟩, ?_⟩
      refine loop_intro (fun i : Nat => [(20, .ints (sel m.testBit o2.length)), (21, .int .i64 (total o2 d2 (sel m.testBit o2.length))), (23, .int .i64 i), (19, .int .i64 m), (3, .iptr [.ints o, .rows d]), (4, .ints (bif good o d then ascentL o d (firstP d) else [])), (5, .bool (good o d)), (8, .iptr [.ints o2, .rows d2]), (9, .ints ps), (10, .int .i64 v), (11, .ints (closedL o2 d2 ps v)), (15, .ints (restsL o2 d2 ps))]) (fun _ => []) 5 (fun i => i ≤ (sel m.testBit o2.length).length) (fun i => (sel m.testBit o2.length).length - i) 0 (by omega) (by omega) ?_ ?_
      · rw [hop]
        simp only [go_sem, ↓reduceIte, Nat.reduceEqDiff, Nat.reduceBEq, Nat.reduceAdd, Nat.reduceSub, Nat.reduceLeDiff, Nat.reduceMul, Nat.reduceLT]
        repeat' (first | refine fork_intro (fun hb => ?_) (fun hb => ?_) | refine partB_intro (fun hb => ?_) (fun hb => ?_) | refine And.intro ?_ ?_)
        all_goals first | exact True.intro | omega | with_reducible rfl | exact congrArg (AV.int _) (by omega) | (first | rfl)
      intro i hi
      simp only [go_sem, ↓reduceIte, Nat.reduceEqDiff, Nat.reduceBEq, Nat.reduceAdd, Nat.reduceSub, Nat.reduceLeDiff, Nat.reduceMul, Nat.reduceLT]
      refine fork_intro (fun hd => ?_) (fun hd => ?_)
      · have has := ix_mem (sel m.testBit o2.length) (show i < (sel m.testBit o2.length).length by omega)
        have hai := hoo.xin i (by omega)
        have hgr := gap_rest hoo hpo.len hfb has
        have hdn := fair_due hfb hai.1 hai.2
        have hri := rests_ix (o := o2) (d := d2) (ps := ps) hai.1 hai.2
        have hcn : total o2 d2 (sel m.testBit o2.length) ≤ v → ¬ ix (sel m.testBit o2.length) (i : Int) ∈ closedL o2 d2 ps v := fun h1 h2 => by
          obtain ⟨k, _, h3, h4⟩ := mem_sel.1 h2
          have h5 := of_decide_eq_true h3
          rw [h4] at h5
          unfold dueS at hgr
          omega
        have hbt := hoo.svc_bd
        have hbp := hoo.pay.bd (Nat.le_refl _)
        rw [List.take_length] at hbp
        have htt : total o2 d2 (sel m.testBit o2.length) = pay o2 (sel m.testBit o2.length) + svc d2 (sel m.testBit o2.length) := rfl
        have hlp := hpo.len
        have hm7 := hf.m7
        have hps : ∀ x ∈ ps, -1000000000 ≤ x ∧ x ≤ 1000000000 := fun x hx => by
          obtain ⟨k, hk, rfl⟩ := mem_ix hx
          have := hpo.p0 k hk
          omega
        have hsb := sum_take_bd hps (Nat.le_refl ps.length)
        rw [List.take_length] at hsb
        rw [hri]
        refine fork_intro (fun h1 => ⟨by omega, by omega, fork_intro (fun h2 => absurd h2 (hcn h1)) (fun _ => ⟨⟨by omega, hps⟩, by omega, by omega, by omega, fork_intro (fun h3 => by omega) (fun _ => ?_)⟩)⟩) (fun _ => ⟨⟨by omega, hps⟩, by omega, by omega, by omega, fork_intro (fun h3 => by omega) (fun _ => ?_)⟩)
        · repeat' (first | refine fork_intro (fun hb => ?_) (fun hb => ?_) | refine partB_intro (fun hb => ?_) (fun hb => ?_) | refine And.intro ?_ ?_)
          all_goals first | exact True.intro | omega | with_reducible rfl | exact congrArg (AV.int _) (by omega) | (refine LoopEnd.intro (i + 1) (by first | omega) (by first | omega | (dsimp only; omega)) (by omega) ?_; simp only [go_sem, ↓reduceIte, Nat.reduceEqDiff, Nat.reduceBEq, Nat.reduceAdd, Nat.reduceSub, Nat.reduceLeDiff, Nat.reduceMul, Nat.reduceLT]; (repeat' (first | refine fork_intro (fun hb => ?_) (fun hb => ?_) | refine partB_intro (fun hb => ?_) (fun hb => ?_) | refine And.intro ?_ ?_)); all_goals first | exact True.intro | omega | with_reducible rfl | exact congrArg (AV.int _) (by omega) | (first | rfl)) | (first | rfl)
        · repeat' (first | refine fork_intro (fun hb => ?_) (fun hb => ?_) | refine partB_intro (fun hb => ?_) (fun hb => ?_) | refine And.intro ?_ ?_)
          all_goals first | exact True.intro | omega | with_reducible rfl | exact congrArg (AV.int _) (by omega) | (refine LoopEnd.intro (i + 1) (by first | omega) (by first | omega | (dsimp only; omega)) (by omega) ?_; simp only [go_sem, ↓reduceIte, Nat.reduceEqDiff, Nat.reduceBEq, Nat.reduceAdd, Nat.reduceSub, Nat.reduceLeDiff, Nat.reduceMul, Nat.reduceLT]; (repeat' (first | refine fork_intro (fun hb => ?_) (fun hb => ?_) | refine partB_intro (fun hb => ?_) (fun hb => ?_) | refine And.intro ?_ ?_)); all_goals first | exact True.intro | omega | with_reducible rfl | exact congrArg (AV.int _) (by omega) | (first | rfl)) | (first | rfl)
      · repeat' (first | refine fork_intro (fun hb => ?_) (fun hb => ?_) | refine partB_intro (fun hb => ?_) (fun hb => ?_) | refine And.intro ?_ ?_)
        all_goals first | exact True.intro | omega | with_reducible rfl | exact congrArg (AV.int _) (by omega) | (refine LoopEnd.intro (m + 1) (by first | omega) (by first | omega | (dsimp only; omega)) (by omega) ?_; simp only [go_sem, ↓reduceIte, Nat.reduceEqDiff, Nat.reduceBEq, Nat.reduceAdd, Nat.reduceSub, Nat.reduceLeDiff, Nat.reduceMul, Nat.reduceLT]; (repeat' (first | refine fork_intro (fun hb => ?_) (fun hb => ?_) | refine partB_intro (fun hb => ?_) (fun hb => ?_) | refine And.intro ?_ ?_)); all_goals first | exact True.intro | omega | with_reducible rfl | exact congrArg (AV.int _) (by omega) | (first | rfl)) | (first | rfl)
    · refine stop_intro ?_
      simp only [go_sem, ↓reduceIte, Nat.reduceEqDiff, Nat.reduceBEq, Nat.reduceAdd, Nat.reduceSub, Nat.reduceLeDiff, Nat.reduceMul, Nat.reduceLT]
      refine partB_intro (fun hg => ?_) (fun _ => trivial)
      have hfd := good_iff.1 hg
      obtain ⟨hA, hst⟩ := asc_end hfd
      obtain ⟨q1, q2⟩ := asc_fair hA
      have hAl := hA.len
      have hm9 := hfd.m7
      rw [hg, cond_true]
      refine stop_intro ?_
      simp only [go_sem, ↓reduceIte, Nat.reduceEqDiff, Nat.reduceBEq, Nat.reduceAdd, Nat.reduceSub, Nat.reduceLeDiff, Nat.reduceMul, Nat.reduceLT]
      refine ⟨⟨hpre, by omega⟩, ?_⟩
      refine loop_intro (fun j : Nat => [(26, .int .i64 j), (3, .iptr [.ints o, .rows d]), (4, .ints (ascentL o d (firstP d))), (24, .bool (pricesOK o d (ascentL o d (firstP d)) && fairB o d (ascentL o d (firstP d))))]) (fun _ => []) 5 (fun j => j ≤ d.length) (fun j => d.length - j) 0 (by omega) (by omega) ?_ ?_
      · simp only [go_sem, ↓reduceIte, Nat.reduceEqDiff, Nat.reduceBEq, Nat.reduceAdd, Nat.reduceSub, Nat.reduceLeDiff, Nat.reduceMul, Nat.reduceLT]
        repeat' (first | refine fork_intro (fun hb => ?_) (fun hb => ?_) | refine partB_intro (fun hb => ?_) (fun hb => ?_) | refine And.intro ?_ ?_)
        all_goals first | exact True.intro | omega | with_reducible rfl | exact congrArg (AV.int _) (by omega) | (first | rfl)
      intro j hj
      simp only [go_sem, ↓reduceIte, Nat.reduceEqDiff, Nat.reduceBEq, Nat.reduceAdd, Nat.reduceSub, Nat.reduceLeDiff, Nat.reduceMul, Nat.reduceLT]
      refine fork_intro (fun hd => ?_) (fun hd => ?_)
      · obtain ⟨m1, m2⟩ := asc_more hA (show j < d.length by omega) (hst j (by omega))
        have hbj := hA.bd (j := j) (by omega)
        have hsl2 : ((ascentL o d (firstP d)).set j (ix (ascentL o d (firstP d)) (j : Int) + 1)).length = (ascentL o d (firstP d)).length := List.length_set
        rw [m1, m2, Bool.and_false]
        refine ⟨by omega, by omega, by omega, by omega, ⟨hpre, by omega⟩, partB_tt (partB_ff ?_)⟩
        repeat' (first | refine fork_intro (fun hb => ?_) (fun hb => ?_) | refine partB_intro (fun hb => ?_) (fun hb => ?_) | refine And.intro ?_ ?_)
        all_goals first | exact True.intro | omega | with_reducible rfl | exact congrArg (AV.int _) (by omega) | (refine LoopEnd.intro (j + 1) (by first | omega) (by first | omega | (dsimp only; omega)) (by omega) ?_; simp only [go_sem, ↓reduceIte, Nat.reduceEqDiff, Nat.reduceBEq, Nat.reduceAdd, Nat.reduceSub, Nat.reduceLeDiff, Nat.reduceMul, Nat.reduceLT]; (repeat' (first | refine fork_intro (fun hb => ?_) (fun hb => ?_) | refine partB_intro (fun hb => ?_) (fun hb => ?_) | refine And.intro ?_ ?_)); all_goals first | exact True.intro | omega | with_reducible rfl | exact congrArg (AV.int _) (by omega) | (first | rfl)) | (first | rfl)
      · rw [q1, q2]; rfl
  · refine stop_intro ?_
    simp only [go_sem, ↓reduceIte, Nat.reduceEqDiff, Nat.reduceBEq, Nat.reduceAdd, Nat.reduceSub, Nat.reduceLeDiff, Nat.reduceMul, Nat.reduceLT]
    refine partB_intro (fun hg => ?_) (fun _ => trivial)
    have hfd := good_iff.1 hg
    obtain ⟨hA, hst⟩ := asc_end hfd
    obtain ⟨q1, q2⟩ := asc_fair hA
    have hAl := hA.len
    have hm9 := hfd.m7
    rw [hg, cond_true]
    refine stop_intro ?_
    simp only [go_sem, ↓reduceIte, Nat.reduceEqDiff, Nat.reduceBEq, Nat.reduceAdd, Nat.reduceSub, Nat.reduceLeDiff, Nat.reduceMul, Nat.reduceLT]
    refine ⟨⟨hpre, by omega⟩, ?_⟩
    refine loop_intro (fun j : Nat => [(26, .int .i64 j), (3, .iptr [.ints o, .rows d]), (4, .ints (ascentL o d (firstP d))), (24, .bool (pricesOK o d (ascentL o d (firstP d)) && fairB o d (ascentL o d (firstP d))))]) (fun _ => []) 5 (fun j => j ≤ d.length) (fun j => d.length - j) 0 (by omega) (by omega) ?_ ?_
    · simp only [go_sem, ↓reduceIte, Nat.reduceEqDiff, Nat.reduceBEq, Nat.reduceAdd, Nat.reduceSub, Nat.reduceLeDiff, Nat.reduceMul, Nat.reduceLT]
      repeat' (first | refine fork_intro (fun hb => ?_) (fun hb => ?_) | refine partB_intro (fun hb => ?_) (fun hb => ?_) | refine And.intro ?_ ?_)
      all_goals first | exact True.intro | omega | with_reducible rfl | exact congrArg (AV.int _) (by omega) | (first | rfl)
    intro j hj
    simp only [go_sem, ↓reduceIte, Nat.reduceEqDiff, Nat.reduceBEq, Nat.reduceAdd, Nat.reduceSub, Nat.reduceLeDiff, Nat.reduceMul, Nat.reduceLT]
    refine fork_intro (fun hd => ?_) (fun hd => ?_)
    · obtain ⟨m1, m2⟩ := asc_more hA (show j < d.length by omega) (hst j (by omega))
      have hbj := hA.bd (j := j) (by omega)
      have hsl2 : ((ascentL o d (firstP d)).set j (ix (ascentL o d (firstP d)) (j : Int) + 1)).length = (ascentL o d (firstP d)).length := List.length_set
      rw [m1, m2, Bool.and_false]
      refine ⟨by omega, by omega, by omega, by omega, ⟨hpre, by omega⟩, partB_tt (partB_ff ?_)⟩
      repeat' (first | refine fork_intro (fun hb => ?_) (fun hb => ?_) | refine partB_intro (fun hb => ?_) (fun hb => ?_) | refine And.intro ?_ ?_)
      all_goals first | exact True.intro | omega | with_reducible rfl | exact congrArg (AV.int _) (by omega) | (refine LoopEnd.intro (j + 1) (by first | omega) (by first | omega | (dsimp only; omega)) (by omega) ?_; simp only [go_sem, ↓reduceIte, Nat.reduceEqDiff, Nat.reduceBEq, Nat.reduceAdd, Nat.reduceSub, Nat.reduceLeDiff, Nat.reduceMul, Nat.reduceLT]; (repeat' (first | refine fork_intro (fun hb => ?_) (fun hb => ?_) | refine partB_intro (fun hb => ?_) (fun hb => ?_) | refine And.intro ?_ ?_)); all_goals first | exact True.intro | omega | with_reducible rfl | exact congrArg (AV.int _) (by omega) | (first | rfl)) | (first | rfl)
    · rw [q1, q2]; rfl
def t_lawFnAscent : Table := [(4, pureC g_lawFnAscent)]
theorem t_lawFnAscent_ok : TabOK Try.prog t_lawFnAscent := .cons Try.func4 (by kernel_rfl) (.pure (by intro args hp; unfold g_lawFnAscent at hp ⊢; split at hp <;> first | exact hp.elim | exact lawFnAscent_ok _ hp)) (.nil _)
attribute [go_sem] g_lawFnAscent_eq t_lawFnAscent
end Go.Proofs.Yteefjdbdknkcjaa
