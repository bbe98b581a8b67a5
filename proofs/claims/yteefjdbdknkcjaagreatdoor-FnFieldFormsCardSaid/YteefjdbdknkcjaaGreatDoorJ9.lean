/- Texts joined: LFnFieldForms PlKb. -/
import Derived.Test.YteefjdbdknkcjaaGreatDoorJ8
import Derived.Test.YteefjdbdknkcjaaGreatDoorVc
import Derived.ChangeSlices
namespace Go.Proofs.YteefjdbdknkcjaaGreatDoor
open Go.Vc
set_option maxRecDepth 100000
set_option maxHeartbeats 1600000
set_option linter.unusedSimpArgs false
set_option linter.unusedVariables false
theorem pfB_text {o : List Int} {d : List (List Int)} (h : FieldOK o d) : pfB (textB o d d.length) = true := by
  obtain ⟨e1, e2⟩ := pf_text h
  unfold pfB
  rw [e1, e2, good_iff.2 h, decide_eq_true rfl]
  rfl
theorem partB_then {b : Bool} {A K : Prop} (hK : K) (h : K -> b = true -> A) : partB b A K := partB_intro (fun hb => h hK hb) (fun _ => hK)
def g_lawFnFieldForms : List AV -> Prop × AV
  | [.bytes code] => (code.length <= 9223372036854775807, .bool true)
  | _ => (False, .undef)
theorem lawFnFieldForms_ok (code : List UInt8) (hp : code.length <= 9223372036854775807) : SpecOK Tryz.prog 3 [.bytes code] (.bool true) [] := by
  refine fun_ok (C := t_rBig ++ t_drawClose ++ t_closeOfI ++ t_closeOfS ++ t_rField ++ t_metI ++ t_metSpec ++ t_drawScale ++ t_scaleI ++ t_scaleS ++ t_bestTotalI ++ t_drawJoin ++ t_joinI ++ t_joinS ++ t_serviceOfI ++ t_ftextI ++ t_ftextS ++ t_parseFI ++ t_drawParse ++ t_parseFS) (hint := hintX [3, 4, 6, 14, 18, 20, 22, 28, 29, 30, 32, 46, 49, 51, 241] [(4, [.frb 3, .cut [0, 3]]), (5, [.frb 4, .cut [0, 3, 4, 5]]), (6, [.frb 6, .cut [0, 3, 4, 5, 6, 7]]), (8, [.cut [0, 3, 4, 5]]), (9, [.cut [0, 3, 4, 5, 8, 9]]), (10, [.cut [0, 3, 4, 5, 8, 9, 10, 11]]), (12, [.cut [0, 3, 4, 5, 8]]), (14, [.cut [0, 3, 4, 5, 8, 12, 13]]), (15, [.frb 14, .cut [0, 3, 4, 5, 8, 12, 13, 14, 15]]), (17, [.cut [0, 3, 4]]), (25, [.drop [] 0, .cut [0, 3]]), (26, [.frb 18, .cut [0, 3, 18, 19]]), (27, [.frb 20, .cut [0, 3, 18, 19, 20, 21]]), (28, [.frb 22, .cut [0, 3, 18, 19, 20, 21, 22, 23]]), (30, [.cut [0, 3, 18, 19, 20, 21]]), (32, [.cut [0, 3, 19, 20, 24, 25]]), (33, [.cut [0, 3, 19, 24, 25, 26, 27]]), (35, [.drop [] 0, .cut [0, 3]]), (36, [.frb 28, .frb 29, .cut [0, 3, 28, 29]]), (37, [.frb 30, .cut [0, 3, 28, 29, 30, 31]]), (38, [.frb 32, .cut [0, 3, 28, 29, 30, 31, 32, 33]]), (40, [.cut [0, 3, 28, 29, 30, 31]]), (41, [.drop [] 0]), (46, [.fz [34], .cut [0, 3, 28, 29, 30, 34]]), (47, [.cut [0, 3, 29, 30, 34, 36, 37]]), (48, [.cut [0, 3, 30, 34, 36, 37, 38, 39]]), (49, [.cut [0, 3, 36, 37, 38, 39, 40, 41]]), (51, [.drop [] 0, .cut [0, 3]]), (52, [.cut [0, 3, 42, 43]]), (53, [.cut [0, 3, 42, 43, 44, 45]]), (55, [.cut [0, 3, 42, 43]]), (57, [.frb 46, .cut [0, 3, 46, 47]]), (59, [.drop [] 0, .cut [0]]), (60, [.cut [48]]), (61, [.frb 49, .cut [48, 49, 50]]), (62, [.frb 51, .cut [49, 50, 51, 52]])] 0 [5, 1000005, 11, 1000011, 15, 1000015, 22, 1000022] [] [] []) ((((((((((((((((((((t_rBig_ok).append t_drawClose_ok).append t_closeOfI_ok).append t_closeOfS_ok).append t_rField_ok).append t_metI_ok).append t_metSpec_ok).append t_drawScale_ok).append t_scaleI_ok).append t_scaleS_ok).append t_bestTotalI_ok).append t_drawJoin_ok).append t_joinI_ok).append t_joinS_ok).append t_serviceOfI_ok).append t_ftextI_ok).append t_ftextS_ok).append t_parseFI_ok).append t_drawParse_ok).append t_parseFS_ok) mixed Tryz.func3 rfl (by kernel_rfl) rfl ?_
  show codeA _ _ _ _ _ _ _ _
  simp only [go_sem, Tryz.results3]
  refine ⟨hp, fork_intro (fun _ => trivial) (fun hc => ⟨by omega, fun z hz => ?_⟩)⟩
  obtain ⟨b1, b2, b3⟩ := hz
  generalize z.xs = o at *
  generalize z.xss = d at *
  have hpre : o.length <= 1048576000 /\ d.length <= 1048576000 /\ ∀ x ∈ d, x.length <= 1048576000 := ⟨by omega, by omega, fun x hx => by have := b3 x hx; omega⟩
  have hpc : (bif good o d then o else []).length <= 1048576000 /\ (bif good o d then closeD d.length o.length d else []).length <= 1048576000 /\ ∀ x ∈ (bif good o d then closeD d.length o.length d else []), x.length <= 1048576000 := by
    cases hg : good o d with
    | false => exact ⟨Nat.zero_le _, Nat.zero_le _, fun x hx => by cases hx⟩
    | true =>
      have hf := close_field (good_iff.1 hg)
      have h7 := hf.n7
      have hm7 := hf.m7
      exact ⟨hpre.1, by rw [cond_true]; omega, fun x hx => by rw [hf.len x hx]; omega⟩
  refine stop_intro ?_
  simp only [go_sem, ↓partB_true, ↓partB_false, decide_true, Bool.not_true, Bool.not_false, beq_self_eq_true, eq_self, and_self]
  refine ⟨hpre, stop_intro ?_⟩
  simp only [go_sem, ↓partB_true, ↓partB_false, decide_true, Bool.not_true, Bool.not_false, beq_self_eq_true, eq_self, and_self]
  refine ⟨hpre, stop_intro ?_⟩
  simp only [go_sem, ↓partB_true, ↓partB_false, decide_true, Bool.not_true, Bool.not_false, beq_self_eq_true, eq_self, and_self]
  refine ⟨hpc, stop_intro ?_⟩
  simp only [go_sem, ↓partB_true, ↓partB_false, decide_true, Bool.not_true, Bool.not_false, beq_self_eq_true, eq_self, and_self]
  refine ⟨hpre, stop_intro ?_⟩
  simp only [go_sem, ↓partB_true, ↓partB_false, decide_true, Bool.not_true, Bool.not_false, beq_self_eq_true, eq_self, and_self]
  refine ⟨hpre, stop_intro ?_⟩
  simp only [go_sem, ↓partB_true, ↓partB_false, decide_true, Bool.not_true, Bool.not_false, beq_self_eq_true, eq_self, and_self]
  refine stop_intro ?_
  simp only [go_sem, ↓partB_true, ↓partB_false, decide_true, Bool.not_true, Bool.not_false, beq_self_eq_true, eq_self, and_self]
  refine partB_then ?_ (fun hK hg => ?_)
  · clear hpc
    refine stop_intro ?_
    simp only [go_sem, ↓partB_true, ↓partB_false, decide_true, Bool.not_true, Bool.not_false, beq_self_eq_true, eq_self, and_self]
    refine ⟨by omega, fun z2 hz2 => ?_⟩
    obtain ⟨⟨c1, c2, c3⟩, c4, c5⟩ := hz2
    generalize z2.xs = o2 at *
    generalize z2.xss = d2 at *
    generalize z2.n = n at *
    have hpre2 : o2.length <= 1048576000 /\ d2.length <= 1048576000 /\ ∀ x ∈ d2, x.length <= 1048576000 := ⟨by omega, by omega, fun x hx => by have := c3 x hx; omega⟩
    have hRK : RK .i64 n := by show -9223372036854775808 <= n /\ n <= 9223372036854775807; omega
    have hps : (bif sclB o2 d2 n then scl (min n 100) o2 else []).length <= 1048576000 /\ (bif sclB o2 d2 n then d2.map (scl (min n 100)) else []).length <= 1048576000 /\ ∀ x ∈ (bif sclB o2 d2 n then d2.map (scl (min n 100)) else []), x.length <= 1048576000 := by
      cases sclB o2 d2 n with
      | false => exact ⟨Nat.zero_le _, Nat.zero_le _, fun x hx => by cases hx⟩
      | true =>
        rw [cond_true, cond_true, scl_len, List.length_map]
        refine ⟨by omega, by omega, fun x hx => ?_⟩
        obtain ⟨y, hy, rfl⟩ := List.mem_map.1 hx
        rw [scl_len]
        exact hpre2.2.2 y hy
    refine stop_intro ?_
    simp only [go_sem, ↓partB_true, ↓partB_false, decide_true, Bool.not_true, Bool.not_false, beq_self_eq_true, eq_self, and_self]
    refine ⟨⟨hpre2, hRK⟩, stop_intro ?_⟩
    simp only [go_sem, ↓partB_true, ↓partB_false, decide_true, Bool.not_true, Bool.not_false, beq_self_eq_true, eq_self, and_self]
    refine ⟨⟨hpre2, hRK⟩, stop_intro ?_⟩
    simp only [go_sem, ↓partB_true, ↓partB_false, decide_true, Bool.not_true, Bool.not_false, beq_self_eq_true, eq_self, and_self]
    refine ⟨hps, stop_intro ?_⟩
    simp only [go_sem, ↓partB_true, ↓partB_false, decide_true, Bool.not_true, Bool.not_false, beq_self_eq_true, eq_self, and_self]
    refine partB_then ?_ (fun hK2 hs => ?_)
    · clear hps hRK hpre2 c1 c2 c3 c4 c5
      refine stop_intro ?_
      simp only [go_sem, ↓partB_true, ↓partB_false, decide_true, Bool.not_true, Bool.not_false, beq_self_eq_true, eq_self, and_self]
      refine ⟨by omega, fun z3 hz3 => ?_⟩
      obtain ⟨⟨x1, x2, x3⟩, y1, y2, y3⟩ := hz3
      generalize z3.xs = o3 at *
      generalize z3.xss = d3 at *
      generalize z3.ys = o4 at *
      generalize z3.yss = d4 at *
      have hpre3 : o3.length <= 1048576000 /\ d3.length <= 1048576000 /\ ∀ x ∈ d3, x.length <= 1048576000 := ⟨by omega, by omega, fun x hx => by have := x3 x hx; omega⟩
      have hpre4 : o4.length <= 1048576000 /\ d4.length <= 1048576000 /\ ∀ x ∈ d4, x.length <= 1048576000 := ⟨by omega, by omega, fun x hx => by have := y3 x hx; omega⟩
      have hpj : (bif joinFB o3 d3 o4 d4 then o3 else []).length <= 1048576000 /\ (bif joinFB o3 d3 o4 d4 then d3 ++ d4 else []).length <= 1048576000 /\ ∀ x ∈ (bif joinFB o3 d3 o4 d4 then d3 ++ d4 else []), x.length <= 1048576000 := by
        cases joinFB o3 d3 o4 d4 with
        | false => exact ⟨Nat.zero_le _, Nat.zero_le _, fun x hx => by cases hx⟩
        | true =>
          rw [cond_true, cond_true, List.length_append]
          refine ⟨by omega, by omega, fun x hx => ?_⟩
          rcases List.mem_append.1 hx with hx | hx
          · exact hpre3.2.2 x hx
          · exact hpre4.2.2 x hx
      refine stop_intro ?_
      simp only [go_sem, ↓partB_true, ↓partB_false, decide_true, Bool.not_true, Bool.not_false, beq_self_eq_true, eq_self, and_self]
      refine ⟨⟨hpre3, hpre4⟩, stop_intro ?_⟩
      simp only [go_sem, ↓partB_true, ↓partB_false, decide_true, Bool.not_true, Bool.not_false, beq_self_eq_true, eq_self, and_self]
      refine ⟨⟨hpre3, hpre4⟩, stop_intro ?_⟩
      simp only [go_sem, ↓partB_true, ↓partB_false, decide_true, Bool.not_true, Bool.not_false, beq_self_eq_true, eq_self, and_self]
      refine ⟨hpj, stop_intro ?_⟩
      simp only [go_sem, ↓partB_true, ↓partB_false, decide_true, Bool.not_true, Bool.not_false, beq_self_eq_true, eq_self, and_self]
      refine partB_then ?_ (fun hK3 hj => ?_)
      · clear hpj hpre3 hpre4 x1 x2 x3 y1 y2 y3
        refine stop_intro ?_
        simp only [go_sem, ↓partB_true, ↓partB_false, decide_true, Bool.not_true, Bool.not_false, beq_self_eq_true, eq_self, and_self]
        refine ⟨hpre, stop_intro ?_⟩
        simp only [go_sem, ↓partB_true, ↓partB_false, decide_true, Bool.not_true, Bool.not_false, beq_self_eq_true, eq_self, and_self]
        refine ⟨hpre, stop_intro ?_⟩
        simp only [go_sem, ↓partB_true, ↓partB_false, decide_true, Bool.not_true, Bool.not_false, beq_self_eq_true, eq_self, and_self]
        refine stop_intro ?_
        simp only [go_sem, ↓partB_true, ↓partB_false, decide_true, Bool.not_true, Bool.not_false, beq_self_eq_true, eq_self, and_self]
        refine partB_then ?_ (fun hK4 hg => ?_)
        · clear hpre b1 b2 b3
          refine stop_intro ?_
          simp only [go_sem, ↓partB_true, ↓partB_false, decide_true, Bool.not_true, Bool.not_false, beq_self_eq_true, eq_self, and_self]
          refine ⟨by omega, fun z5 hz5 => stop_intro ?_⟩
          have hpp : (bif pfB z5.b then pfO z5.b else []).length <= 1048576000 /\ (bif pfB z5.b then pfD z5.b else []).length <= 1048576000 /\ ∀ x ∈ (bif pfB z5.b then pfD z5.b else []), x.length <= 1048576000 := by
            cases h : pfB z5.b with
            | false => exact ⟨Nat.zero_le _, Nat.zero_le _, fun x hx => by cases hx⟩
            | true =>
              simp only [pfB, Bool.and_eq_true] at h
              have hf := good_iff.1 h.1
              have h7 := hf.n7
              have hm7 := hf.m7
              rw [cond_true, cond_true]
              exact ⟨by omega, by omega, fun x hx => by rw [hf.len x hx]; omega⟩
          simp only [go_sem, ↓partB_true, ↓partB_false, decide_true, Bool.not_true, Bool.not_false, beq_self_eq_true, eq_self, and_self]
          refine ⟨by omega, stop_intro ?_⟩
          simp only [go_sem, ↓partB_true, ↓partB_false, decide_true, Bool.not_true, Bool.not_false, beq_self_eq_true, eq_self, and_self]
          refine ⟨by omega, stop_intro ?_⟩
          simp only [go_sem, ↓partB_true, ↓partB_false, decide_true, Bool.not_true, Bool.not_false, beq_self_eq_true, eq_self, and_self]
          exact hpp
        · have hf := good_iff.1 hg
          have h7 := hf.m7
          have ht := textB_le hf (Nat.le_refl d.length)
          have hb := pfB_text hf
          obtain ⟨g1, g2⟩ := pf_text hf
          simp only [go_sem, hg, hb, g1, g2, cond_true, ↓partB_true, ↓partB_false, decide_true, Bool.not_true, Bool.not_false, beq_self_eq_true, eq_self, and_self]
          refine ⟨by omega, stop_intro ?_⟩
          simp only [go_sem, ↓partB_true, ↓partB_false, decide_true, Bool.not_true, Bool.not_false, beq_self_eq_true, eq_self, and_self]
          exact ⟨hpre, hK4⟩
      · obtain ⟨e4, f3, f4, f5⟩ := join_field hj
        subst e4
        have hn7 := f3.n7
        have hn1 := f3.n1
        have hA := wholeL_set hn1
        have hAl := wholeL_len o4.length
        have hpj2 := hpj
        rw [hj, cond_true, cond_true, List.length_append] at hpj2
        have u3 := hA.opened f3
        have u4 := hA.opened f4
        have u5 := hA.opened f5
        have w3 := (hA.open f3).svc (Nat.le_refl d3.length)
        have w4 := (hA.open f4).svc (Nat.le_refl d4.length)
        have w5 := svc_app (d := d3) (d1 := d4) (wholeL o4.length)
        have w3' : 0 <= svc d3 (wholeL o4.length) /\ svc d3 (wholeL o4.length) <= 693 := w3
        have w4' : 0 <= svc d4 (wholeL o4.length) /\ svc d4 (wholeL o4.length) <= 693 := w4
        simp only [go_sem, hj, cond_true, ↓partB_true, ↓partB_false, decide_true, Bool.not_true, Bool.not_false, beq_self_eq_true, eq_self, and_self]
        refine loop_intro (fun a : Nat => [(35, .int .i64 a), (34, .sl 0), (30, .iptr [.ints o4, .rows (d3 ++ d4)]), (29, .iptr [.ints o4, .rows d4]), (28, .iptr [.ints o4, .rows d3]), (3, .iptr [.ints o, .rows d]), (0, .bytes code)]) (fun a => [(0, .arr (.ints (wholeL a)))]) 1 (fun a => a <= o4.length) (fun a => o4.length - a) 0 (Nat.zero_le _) (Nat.zero_le _) ?_ ?_
        · simp only [go_sem]
          repeat' (first | refine fork_intro (fun hb => ?_) (fun hb => ?_) | refine partB_intro (fun hb => ?_) (fun hb => ?_) | refine And.intro ?_ ?_)
          all_goals first | exact True.intro | omega | with_reducible rfl | exact congrArg (AV.int _) (by omega) | (first | rfl)
        · intro a ha
          have hal := wholeL_len a
          simp only [go_sem]
          refine fork_intro (fun hc1 => ?_) (fun hc1 => ?_)
          · have e := wholeL_succ a
            repeat' (first | refine fork_intro (fun hb => ?_) (fun hb => ?_) | refine partB_intro (fun hb => ?_) (fun hb => ?_) | refine And.intro ?_ ?_)
            all_goals first | exact True.intro | omega | with_reducible rfl | exact congrArg (AV.int _) (by omega) | (refine LoopEnd.intro (a + 1) (by first | omega) (by first | omega | (dsimp only; omega)) (by omega) ?_; simp only [go_sem]; (repeat' (first | refine fork_intro (fun hb => ?_) (fun hb => ?_) | refine partB_intro (fun hb => ?_) (fun hb => ?_) | refine And.intro ?_ ?_)); all_goals first | exact True.intro | omega | with_reducible rfl | exact congrArg (AV.int _) (by omega) | (first | rw [e])) | (first | rw [e])
          · rw [show a = o4.length by omega]
            refine stop_intro ?_
            simp only [go_sem, u3, cond_true, ↓partB_true, ↓partB_false, decide_true, Bool.not_true, Bool.not_false, beq_self_eq_true, eq_self, and_self]
            refine ⟨⟨hpre3, by omega⟩, stop_intro ?_⟩
            simp only [go_sem, u4, cond_true, ↓partB_true, ↓partB_false, decide_true, Bool.not_true, Bool.not_false, beq_self_eq_true, eq_self, and_self]
            refine ⟨⟨hpre4, by omega⟩, stop_intro ?_⟩
            simp only [go_sem, u5, w5, cond_true, ↓partB_true, ↓partB_false, decide_true, Bool.not_true, Bool.not_false, beq_self_eq_true, eq_self, and_self]
            refine ⟨⟨hpj2, by omega⟩, stop_intro ?_⟩
            simp only [go_sem, cond_true, ↓partB_true, ↓partB_false, decide_true, Bool.not_true, Bool.not_false, beq_self_eq_true, eq_self, and_self]
            exact ⟨by omega, hK3⟩
    · have hsg := hs
      simp only [sclB, Bool.and_eq_true, decide_eq_true_eq] at hsg
      obtain ⟨hg2, hn1, hg3⟩ := hsg
      have hbs := best_scale hs
      refine ⟨hpre2, stop_intro ?_⟩
      simp only [go_sem, hs, hg2, hg3, cond_true, ↓partB_true, ↓partB_false, decide_true, Bool.not_true, Bool.not_false, beq_self_eq_true, eq_self, and_self]
      rw [hs, cond_true, cond_true] at hps
      refine ⟨hps, stop_intro ?_⟩
      simp only [go_sem, hbs.2, ↓partB_true, ↓partB_false, decide_true, Bool.not_true, Bool.not_false, beq_self_eq_true, eq_self, and_self]
      exact ⟨by have := hbs.1; omega, hK2⟩
  · have hf := good_iff.1 hg
    have hcf := close_field hf
    have hcl := close_len hf
    have hcg : good o (closeD d.length o.length d) = true := good_iff.2 hcf
    have hcm := close_metric hf
    have hcc := close_close hf
    have hcs := close_self hf
    have hpc2 : o.length <= 1048576000 /\ (closeD d.length o.length d).length <= 1048576000 /\ ∀ x ∈ closeD d.length o.length d, x.length <= 1048576000 := by
      rw [hg, cond_true, cond_true] at hpc
      exact hpc
    refine ⟨hpc, stop_intro ?_⟩
    simp only [go_sem, hg, hcg, hcm, cond_true, Bool.true_and, ↓partB_true, ↓partB_false, decide_true, Bool.not_true, Bool.not_false, beq_self_eq_true, eq_self, and_self]
    refine ⟨hpc2, stop_intro ?_⟩
    simp only [go_sem, hg, hcg, hcc, hcs, cond_true, Bool.true_and, true_and, ↓partB_true, ↓partB_false, decide_true, Bool.not_true, Bool.not_false, beq_self_eq_true, eq_self, and_self]
    refine ⟨hpc2, ⟨hpc2, hpre⟩, stop_intro ?_⟩
    simp only [go_sem]
    have hle := fun (i a : Nat) hi ha => close_le hf (i := i) (a := a) hi ha
    have hrow := hf.len
    have hrowc := hcf.len
    generalize closeD d.length o.length d = D at *
    refine loop_intro (fun i : Nat => [(16, .int .i64 i), (4, .iptr [.ints o, .rows D]), (3, .iptr [.ints o, .rows d]), (0, .bytes code)]) (fun _ => []) 0 (fun i => i <= d.length) (fun i => d.length - i) 0 (Nat.zero_le _) (Nat.zero_le _) ?_ ?_
    · simp only [go_sem]
      repeat' (first | refine fork_intro (fun hb => ?_) (fun hb => ?_) | refine partB_intro (fun hb => ?_) (fun hb => ?_) | refine And.intro ?_ ?_)
      all_goals first | exact True.intro | omega | with_reducible rfl | exact congrArg (AV.int _) (by omega) | (first | rfl)
    · intro i hi
      simp only [go_sem]
      refine fork_intro (fun hc1 => ?_) (fun hc1 => ?_)
      · refine loop_intro (fun a : Nat => [(17, .int .i64 a), (16, .int .i64 i), (4, .iptr [.ints o, .rows D]), (3, .iptr [.ints o, .rows d]), (0, .bytes code)]) (fun _ => []) 0 (fun a => a <= o.length) (fun a => o.length - a) 0 (Nat.zero_le _) (Nat.zero_le _) ?_ ?_
        · simp only [go_sem]
          repeat' (first | refine fork_intro (fun hb => ?_) (fun hb => ?_) | refine partB_intro (fun hb => ?_) (fun hb => ?_) | refine And.intro ?_ ?_)
          all_goals first | exact True.intro | omega | with_reducible rfl | exact congrArg (AV.int _) (by omega) | (first | rfl)
        · intro a ha
          have r1 := fun h => hrow _ (ix_mem d (k := i) h)
          have r2 := fun h => hrowc _ (ix_mem D (k := i) h)
          simp only [go_sem]
          refine fork_intro (fun hc2 => ?_) (fun hc2 => ?_)
          · have g1 := hle i a (by omega) (by omega)
            have g2 := r1 (by omega)
            have g3 := r2 (by omega)
            refine ⟨by omega, by omega, by omega, by omega, fork_intro (fun h => by omega) (fun _ => ?_)⟩
            repeat' (first | refine fork_intro (fun hb => ?_) (fun hb => ?_) | refine partB_intro (fun hb => ?_) (fun hb => ?_) | refine And.intro ?_ ?_)
            all_goals first | exact True.intro | omega | with_reducible rfl | exact congrArg (AV.int _) (by omega) | (refine LoopEnd.intro (a + 1) (by first | omega) (by first | omega | (dsimp only; omega)) (by omega) ?_; simp only [go_sem]; (repeat' (first | refine fork_intro (fun hb => ?_) (fun hb => ?_) | refine partB_intro (fun hb => ?_) (fun hb => ?_) | refine And.intro ?_ ?_)); all_goals first | exact True.intro | omega | with_reducible rfl | exact congrArg (AV.int _) (by omega) | (first | rfl)) | (first | rfl)
          · repeat' (first | refine fork_intro (fun hb => ?_) (fun hb => ?_) | refine partB_intro (fun hb => ?_) (fun hb => ?_) | refine And.intro ?_ ?_)
            all_goals first | exact True.intro | omega | with_reducible rfl | exact congrArg (AV.int _) (by omega) | (refine LoopEnd.intro (i + 1) (by first | omega) (by first | omega | (dsimp only; omega)) (by omega) ?_; simp only [go_sem]; (repeat' (first | refine fork_intro (fun hb => ?_) (fun hb => ?_) | refine partB_intro (fun hb => ?_) (fun hb => ?_) | refine And.intro ?_ ?_)); all_goals first | exact True.intro | omega | with_reducible rfl | exact congrArg (AV.int _) (by omega) | (first | rfl)) | (first | rfl)
      · exact hK
def t_lawFnFieldForms : Table := [(3, pureC g_lawFnFieldForms)]
attribute [go_sem] t_lawFnFieldForms
end Go.Proofs.YteefjdbdknkcjaaGreatDoor
namespace Go.Vc
open Go.RowKit Go.ChangeShapes Go.WideShapes Go.Deep Go.Joins
set_option linter.unusedSimpArgs false
set_option linter.unusedVariables false
section
variable {H : Type} {enc : TypeId × Value -> H} {P : Program} {w : World} {base : Nat} {held : Bool}
def toByte (n : Int) : UInt8 := UInt8.ofNat n.toNat
theorem wf_byte {n : Int} (h : (Lit.int .u8 n).wf = true) : ((toByte n).toNat : Int) = n := by
  have h1 : 0 <= n /\ n <= 255 := by
    have h2 : IntKind.u8.min <= n /\ n <= IntKind.u8.max := by simpa [Lit.wf] using h
    exact h2
  unfold toByte
  rw [UInt8.toNat_ofNat']
  have : n.toNat % 2 ^ 8 = n.toNat := Nat.mod_eq_of_lt (by omega)
  omega
theorem bytes_seen {a : Option Addr} {len cap : Nat} (zs : List Int) (hl : len <= cap) (hz : len <= zs.length) (hw : ∀ n ∈ zs, (Lit.int .u8 n).wf = true) (hc : ∀ x, a = some x -> ∀ c, c < len -> w.cell? (x.add c) = some (.int .u8 (zs.getD c 0))) (hn : a = none -> len = 0) : Sees (allS w) (.bytes ((zs.take len).map toByte)) (.slice a len cap) := by
  have e0 : len = (((zs.take len).map toByte).map AV.byte).length := by simp; omega
  by_cases h0 : len = 0
  · subst h0
    have := Sees.lst (S := allS w) (.bytes []) [] 1 a cap rfl (Nat.zero_le _) 0 0 #[] (fun _ _ => Go.undef) (fun h => (h rfl).elim) (fun x hx => by cases hx) (fun i x j y hx => by simp at hx) (fun i x j y hx => by simp at hx)
    simpa using this
  · cases a with
    | none => exact (h0 (hn rfl)).elim
    | some x =>
      obtain ⟨b, o, c, rfl, hS, _⟩ := cell_here (hc x rfl 0 (by omega))
      have hcell : ∀ i, i < len -> c[o + i]? = some (.int .u8 (zs.getD i 0)) := fun i hi => by
        obtain ⟨c', hS', hc'⟩ := cell_at (hc _ rfl i hi)
        rw [hS] at hS'; cases hS'
        exact hc'
      have key : ∀ i x, (((zs.take len).map toByte).map AV.byte)[i]? = some x -> i < len /\ x = .byte (toByte (zs.getD i 0)) /\ ((toByte (zs.getD i 0)).toNat : Int) = zs.getD i 0 := fun i x hx => by
        have hi := (List.getElem?_eq_some_iff.1 hx).1
        simp at hi
        have hiz : i < zs.length := by omega
        have h2 : zs[i]? = some zs[i] := by simp
        have h3 : zs.getD i 0 = zs[i] := by rw [List.getD_eq_getElem?_getD, h2]; rfl
        refine ⟨by omega, ?_, ?_⟩
        · rw [List.getElem?_map, List.getElem?_map, List.getElem?_take, if_pos (by omega), h2] at hx
          simp at hx
          rw [<- hx, h3]
        · rw [h3]; exact wf_byte (hw _ (List.getElem_mem hiz))
      have := Sees.lst (S := allS w) (.bytes ((zs.take len).map toByte)) (((zs.take len).map toByte).map .byte) 1 (some ⟨b, o, none⟩) cap rfl (by simp; omega) b o c (fun i _ => .int .u8 (zs.getD i 0)) (fun _ => ⟨rfl, hS⟩) (fun x hx => by obtain ⟨n, _, rfl⟩ := List.mem_map.1 hx; rfl)
        (fun i x j y hx hy => by
          obtain ⟨hi, rfl, _⟩ := key i x hx
          cases j with
          | zero => rw [Nat.mul_one, Nat.add_zero]; exact hcell i hi
          | succ j => simp [AV.cells] at hy)
        (fun i x j y hx hy => by
          obtain ⟨hi, rfl, e⟩ := key i x hx
          cases j with
          | zero => simp [AV.cells] at hy; subst hy; rw [<- e]; exact .int _ _
          | succ j => simp [AV.cells] at hy)
      rw [<- e0] at this
      exact this
theorem sees_Bytes {t e : TypeId} {v : Value} {d : DataW H} {p : List MemPlace} (ht : P.underlying t = some (.slice e)) (he : P.underlying e = some (.int .u8)) (hc : P.cellsOf e = 1) (hv : ∃ a n c, v = .slice a n c)
    (h : DataW.Trod enc P w base (fun _ => true) held t v d p) : ∃ xs : List UInt8, xs.length <= 9223372036854775807 /\ Sees (allS w) (.bytes xs) v := by
  obtain ⟨a, n, c, rfl⟩ := hv
  obtain ⟨fuel, hf⟩ := h
  have hmx : maxLen = 9223372036854775807 := by decide
  rcases open_ints ht he hc (show DataW.trod enc P w base (fun _ => true) held fuel t [.slice a n c] = some (d, p) by simpa [Value.cells] using hf) with ⟨hcs, _⟩ | ⟨a', len, cap, zs, hcs, _, hl, hm, hz, _, hcell, hwz⟩
  · simp at hcs; obtain ⟨rfl, rfl, rfl⟩ := hcs
    exact ⟨[], by simp, sees_nil rfl _⟩
  · simp at hcs; obtain ⟨rfl, rfl, rfl⟩ := hcs
    simp only [if_true] at hz
    refine ⟨(zs.take n).map toByte, by simp; omega, bytes_seen zs hl (by omega) hwz (fun x hx c hc' => ?_) (fun h => by cases h)⟩
    cases hx
    exact hcell c (by omega)
end
end Go.Vc
