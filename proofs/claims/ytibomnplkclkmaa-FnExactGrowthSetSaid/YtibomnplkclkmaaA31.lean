/- Growth in the package. -/
import Derived.Test.YtibomnplkclkmaaA30
import Derived.Test.YtibomnplkclkmaaPlQ
import Derived.Test.YtibomnplkclkmaaXR
namespace Go.Proofs.Ytibomnplkclkmaa
open Go.Vc
set_option maxRecDepth 100000
set_option maxHeartbeats 1600000
set_option linter.unusedSimpArgs false
set_option linter.unusedVariables false

def g_growI : List AV → Prop × AV × Heap
  | [.agg [.ints o, .rows d]] => (FieldOK o d, .agg [.sl 1, .sl 2, .sl 3], [(1, .arr (.ints (grown o d).p)), (2, .arr (.ints (grown o d).t)), (3, .arr (.ints (grown o d).w))])
  | _ => (False, .undef, [])
theorem g_growI_eq (o : List Int) (d : List (List Int)) : g_growI [.agg [.ints o, .rows d]] = (FieldOK o d, .agg [.sl 1, .sl 2, .sl 3], [(1, .arr (.ints (grown o d).p)), (2, .arr (.ints (grown o d).t)), (3, .arr (.ints (grown o d).w))]) := (rfl)
theorem growI_ok (o : List Int) (d : List (List Int)) (hp : FieldOK o d) : SpecOK Try.prog 81 [.agg [.ints o, .rows d]] (.agg [.sl 1, .sl 2, .sl 3]) [(1, .arr (.ints (grown o d).p)), (2, .arr (.ints (grown o d).t)), (3, .arr (.ints (grown o d).w))] := by
  refine fun_ok (C := t_repC ++ t_lenC ++ t_atC ++ t_claimsI) (hint := hintX [2, 25, 30, 33, 4, 6, 15] [(52, [.post, .renb 6 5, .drop [6] 6])] 0 [100173, 100198] [] [] []) ((((t_repC_ok).append t_lenC_ok).append t_atC_ok).append t_claimsI_ok) mixed Try.func81 rfl (by kernel_rfl) rfl ?_
  show codeA _ _ _ _ _ _ _ _
  simp only [go_sem, ↓reduceIte, Nat.reduceEqDiff, Nat.reduceBEq, Nat.reduceAdd, Nat.reduceSub, Nat.reduceLeDiff, Nat.reduceMul, Nat.reduceLT, Try.results81]
  have hn := hp.n7
  have hm := hp.m7
  have hn1 := hp.n1
  refine ⟨by omega, by omega, by omega, ?_⟩
  refine loop_intro (fun g : St × List Int => [(6, .bx 5 0), (5, .fn 132 [.iptr [.ints o, .rows d]]), (4, .bx 4 0), (3, .int .i64 d.length), (2, .bx 0 0), (1, .iptr [.ints o, .rows d])]) (fun g => [(0, .box [.nils, .nils, .nils]), (1, .arr (.ints (g.2))), (2, .arr (.ints (g.1.t))), (3, .arr (.ints (g.1.w))), (4, .box [.sl 1, .sl 2, .sl 3]), (5, .box [.int .i64 g.1.now])]) 6 (fun g => Going o d g.1 ∧ g.2.length = d.length ∧ ∀ j, j < d.length → 0 ≤ ix g.1.w (j : Int) → ix g.2 (j : Int) = ix g.1.p (j : Int)) (fun g => (1000000 - g.1.now).toNat) (st0 o.length d.length, List.replicate d.length 0) ⟨going0 hp, List.length_replicate, fun j hj h => by
    rw [show ix (st0 o.length d.length).w (j : Int) = -1 from ix_replicate _ _ hj] at h; omega⟩ (by omega) ?_ ?_
  · simp only [go_sem, ↓reduceIte, Nat.reduceEqDiff, Nat.reduceBEq, Nat.reduceAdd, Nat.reduceSub, Nat.reduceLeDiff, Nat.reduceMul, Nat.reduceLT]
    repeat' (first | refine fork_intro (fun hb => ?_) (fun hb => ?_) | refine partB_intro (fun hb => ?_) (fun hb => ?_) | refine And.intro ?_ ?_)
    all_goals first | exact True.intro | omega | with_reducible rfl | exact congrArg (AV.int _) (by omega) | (first | rfl)
  · rintro ⟨s, P⟩ ⟨hs, hPl, hP⟩
    simp only at hs hPl hP
    have h := hs.1
    have hn0 := h.n0
    have lw := h.lw
    have lt := h.lt
    have lg : (gpr d s).length = d.length := gpr_len
    have lgt : (gti o d s).length = o.length := tab_len _ _
    have lsw : (gsett o d s).w.length = d.length := tab_len _ _
    simp only [go_sem, ↓reduceIte, Nat.reduceEqDiff, Nat.reduceBEq, Nat.reduceAdd, Nat.reduceSub, Nat.reduceLeDiff, Nat.reduceMul, Nat.reduceLT]
    refine loop_intro (fun j : Nat => [(37, .int .i64 j), (36, .int .i64 d.length), (6, .bx 5 0), (5, .fn 132 [.iptr [.ints o, .rows d]]), (4, .bx 4 0), (3, .int .i64 d.length), (2, .bx 0 0), (1, .iptr [.ints o, .rows d])]) (fun j => [(0, .box [.nils, .nils, .nils]), (1, .arr (.ints (over (gpr d s) P j))), (2, .arr (.ints (s.t))), (3, .arr (.ints (s.w))), (4, .box [.sl 1, .sl 2, .sl 3]), (5, .box [.int .i64 s.now])]) 6 (fun j => j ≤ d.length) (fun j => d.length - j) 0 (Nat.zero_le _) (by omega) ?_ ?_
    · simp only [go_sem, ↓reduceIte, Nat.reduceEqDiff, Nat.reduceBEq, Nat.reduceAdd, Nat.reduceSub, Nat.reduceLeDiff, Nat.reduceMul, Nat.reduceLT]
      repeat' (first | refine fork_intro (fun hb => ?_) (fun hb => ?_) | refine partB_intro (fun hb => ?_) (fun hb => ?_) | refine And.intro ?_ ?_)
      all_goals first | exact True.intro | omega | with_reducible rfl | exact congrArg (AV.int _) (by omega) | (first | rfl | simp [over_zero])
    · intro j hj
      have hol := over_len (gpr d s) P (k := j) (by omega) (by omega)
      simp only [go_sem, ↓reduceIte, Nat.reduceEqDiff, Nat.reduceBEq, Nat.reduceAdd, Nat.reduceSub, Nat.reduceLeDiff, Nat.reduceMul, Nat.reduceLT]
      refine fork_intro (fun hc => ?_) (fun hc => ?_)
      · have hjd : j < d.length := by omega
        have hst := over_set (gpr d s) P (k := j) (by omega) (by omega)
        have hsm := over_same (ys := gpr d s) (xs := P) (k := j) (by omega) (by omega)
        have eg := gpr_ix (s := s) hjd
        refine ⟨by omega, fork_intro (fun h1 => ?_) (fun h1 => ?_)⟩
        · rw [if_pos h1] at eg
          rw [eg] at hst
          repeat' (first | refine fork_intro (fun hb => ?_) (fun hb => ?_) | refine partB_intro (fun hb => ?_) (fun hb => ?_) | refine And.intro ?_ ?_)
          all_goals first | exact True.intro | omega | with_reducible rfl | exact congrArg (AV.int _) (by omega) | (refine LoopEnd.intro (j + 1) (by first | omega) (by first | omega | (dsimp only; omega)) (by omega) ?_; simp only [go_sem, ↓reduceIte, Nat.reduceEqDiff, Nat.reduceBEq, Nat.reduceAdd, Nat.reduceSub, Nat.reduceLeDiff, Nat.reduceMul, Nat.reduceLT]; (repeat' (first | refine fork_intro (fun hb => ?_) (fun hb => ?_) | refine partB_intro (fun hb => ?_) (fun hb => ?_) | refine And.intro ?_ ?_)); all_goals first | exact True.intro | omega | with_reducible rfl | exact congrArg (AV.int _) (by omega) | (first | rfl | rw [hst])) | (first | rfl | rw [hst])
        · rw [if_neg h1] at eg
          have hsm := hsm (by rw [eg, hP j hjd (by omega)])
          repeat' (first | refine fork_intro (fun hb => ?_) (fun hb => ?_) | refine partB_intro (fun hb => ?_) (fun hb => ?_) | refine And.intro ?_ ?_)
          all_goals first | exact True.intro | omega | with_reducible rfl | exact congrArg (AV.int _) (by omega) | (refine LoopEnd.intro (j + 1) (by first | omega) (by first | omega | (dsimp only; omega)) (by omega) ?_; simp only [go_sem, ↓reduceIte, Nat.reduceEqDiff, Nat.reduceBEq, Nat.reduceAdd, Nat.reduceSub, Nat.reduceLeDiff, Nat.reduceMul, Nat.reduceLT]; (repeat' (first | refine fork_intro (fun hb => ?_) (fun hb => ?_) | refine partB_intro (fun hb => ?_) (fun hb => ?_) | refine And.intro ?_ ?_)); all_goals first | exact True.intro | omega | with_reducible rfl | exact congrArg (AV.int _) (by omega) | (first | rfl | rw [hsm])) | (first | rfl | rw [hsm])
      · have ej : j = d.length := by omega
        subst ej
        rw [show over (gpr d s) P d.length = gpr d s by rw [← hPl]; exact over_end _ _ (by omega)]
        have hcl : (clms d (gpr d s) 2520 o.length).length = o.length := tab_len _ _
        refine ⟨h.clm, ?_⟩
        refine loop_intro (fun a : Nat => [(57, .int .i64 a), (56, .int .i64 o.length), (55, .ints (clms d (gpr d s) 2520 o.length)), (6, .bx 5 0), (5, .fn 132 [.iptr [.ints o, .rows d]]), (4, .bx 4 0), (3, .int .i64 d.length), (2, .bx 0 0), (1, .iptr [.ints o, .rows d])]) (fun a => [(0, .box [.nils, .nils, .nils]), (1, .arr (.ints (gpr d s))), (2, .arr (.ints (over (gti o d s) s.t a))), (3, .arr (.ints (s.w))), (4, .box [.sl 1, .sl 2, .sl 3]), (5, .box [.int .i64 s.now])]) 6 (fun a => a ≤ o.length) (fun a => o.length - a) 0 (Nat.zero_le _) (by omega) ?_ ?_
        · simp only [go_sem, ↓reduceIte, Nat.reduceEqDiff, Nat.reduceBEq, Nat.reduceAdd, Nat.reduceSub, Nat.reduceLeDiff, Nat.reduceMul, Nat.reduceLT]
          repeat' (first | refine fork_intro (fun hb => ?_) (fun hb => ?_) | refine partB_intro (fun hb => ?_) (fun hb => ?_) | refine And.intro ?_ ?_)
          all_goals first | exact True.intro | omega | with_reducible rfl | exact congrArg (AV.int _) (by omega) | (first | rfl | simp [over_zero] | rw [hcl])
        · intro a ha
          have hol := over_len (gti o d s) s.t (k := a) (by omega) (by omega)
          simp only [go_sem, ↓reduceIte, Nat.reduceEqDiff, Nat.reduceBEq, Nat.reduceAdd, Nat.reduceSub, Nat.reduceLeDiff, Nat.reduceMul, Nat.reduceLT]
          refine fork_intro (fun hc => ?_) (fun hc => ?_)
          · have hao : a < o.length := by omega
            have hix := over_ix (gti o d s) s.t (k := a) (by omega) (by omega)
            have hst := over_set (gti o d s) s.t (k := a) (by omega) (by omega)
            have hsm := over_same (ys := gti o d s) (xs := s.t) (k := a) (by omega) (by omega)
            have eg := gti_ix (d := d) (s := s) hao
            have ec : ix (clms d (gpr d s) 2520 o.length) (a : Int) = gcl d s a := tab_ix hao
            have ho := h.opn hao
            have hre := fun ht => h.reach hao ht
            simp only [hix, ec]
            refine ⟨by omega, by omega, fork_intro (fun h1 => ?_) (fun h1 => ?_)⟩
            · refine ⟨by omega, by omega, fork_intro (fun h2 => ?_) (fun h2 => ?_)⟩
              · rw [if_pos ⟨h1, (hre h1).1 (by omega)⟩] at eg
                rw [eg] at hst
                repeat' (first | refine fork_intro (fun hb => ?_) (fun hb => ?_) | refine partB_intro (fun hb => ?_) (fun hb => ?_) | refine And.intro ?_ ?_)
                all_goals first | exact True.intro | omega | with_reducible rfl | exact congrArg (AV.int _) (by omega) | (refine LoopEnd.intro (a + 1) (by first | omega) (by first | omega | (dsimp only; omega)) (by omega) ?_; simp only [go_sem, ↓reduceIte, Nat.reduceEqDiff, Nat.reduceBEq, Nat.reduceAdd, Nat.reduceSub, Nat.reduceLeDiff, Nat.reduceMul, Nat.reduceLT]; (repeat' (first | refine fork_intro (fun hb => ?_) (fun hb => ?_) | refine partB_intro (fun hb => ?_) (fun hb => ?_) | refine And.intro ?_ ?_)); all_goals first | exact True.intro | omega | with_reducible rfl | exact congrArg (AV.int _) (by omega) | (first | rfl | rw [hst])) | (first | rfl | rw [hst])
              · rw [if_neg (fun hh => h2 (by have := (hre h1).2 hh.2; omega))] at eg
                have hsm := hsm eg
                repeat' (first | refine fork_intro (fun hb => ?_) (fun hb => ?_) | refine partB_intro (fun hb => ?_) (fun hb => ?_) | refine And.intro ?_ ?_)
                all_goals first | exact True.intro | omega | with_reducible rfl | exact congrArg (AV.int _) (by omega) | (refine LoopEnd.intro (a + 1) (by first | omega) (by first | omega | (dsimp only; omega)) (by omega) ?_; simp only [go_sem, ↓reduceIte, Nat.reduceEqDiff, Nat.reduceBEq, Nat.reduceAdd, Nat.reduceSub, Nat.reduceLeDiff, Nat.reduceMul, Nat.reduceLT]; (repeat' (first | refine fork_intro (fun hb => ?_) (fun hb => ?_) | refine partB_intro (fun hb => ?_) (fun hb => ?_) | refine And.intro ?_ ?_)); all_goals first | exact True.intro | omega | with_reducible rfl | exact congrArg (AV.int _) (by omega) | (first | rfl | rw [hsm])) | (first | rfl | rw [hsm])
            · rw [if_neg (fun hh => h1 hh.1)] at eg
              have hsm := hsm eg
              repeat' (first | refine fork_intro (fun hb => ?_) (fun hb => ?_) | refine partB_intro (fun hb => ?_) (fun hb => ?_) | refine And.intro ?_ ?_)
              all_goals first | exact True.intro | omega | with_reducible rfl | exact congrArg (AV.int _) (by omega) | (refine LoopEnd.intro (a + 1) (by first | omega) (by first | omega | (dsimp only; omega)) (by omega) ?_; simp only [go_sem, ↓reduceIte, Nat.reduceEqDiff, Nat.reduceBEq, Nat.reduceAdd, Nat.reduceSub, Nat.reduceLeDiff, Nat.reduceMul, Nat.reduceLT]; (repeat' (first | refine fork_intro (fun hb => ?_) (fun hb => ?_) | refine partB_intro (fun hb => ?_) (fun hb => ?_) | refine And.intro ?_ ?_)); all_goals first | exact True.intro | omega | with_reducible rfl | exact congrArg (AV.int _) (by omega) | (first | rfl | rw [hsm])) | (first | rfl | rw [hsm])
          · have ea : a = o.length := by omega
            subst ea
            rw [show over (gti o d s) s.t o.length = gti o d s by rw [← lt]; exact over_end _ _ (by omega)]
            refine loop_intro (fun i : Nat => [(85, .int .i64 i), (84, .int .i64 d.length), (10, .bool (decide (∃ k : Nat, k < i ∧ ix (gsett o d s).w (k : Int) < 0))), (6, .bx 5 0), (5, .fn 132 [.iptr [.ints o, .rows d]]), (4, .bx 4 0), (3, .int .i64 d.length), (2, .bx 0 0), (1, .iptr [.ints o, .rows d])]) (fun i => [(0, .box [.nils, .nils, .nils]), (1, .arr (.ints (gpr d s))), (2, .arr (.ints (gti o d s))), (3, .arr (.ints (over (gsett o d s).w s.w i))), (4, .box [.sl 1, .sl 2, .sl 3]), (5, .box [.int .i64 s.now])]) 6 (fun i => i ≤ d.length) (fun i => d.length - i) 0 (Nat.zero_le _) (by omega) ?_ ?_
            · simp only [go_sem, ↓reduceIte, Nat.reduceEqDiff, Nat.reduceBEq, Nat.reduceAdd, Nat.reduceSub, Nat.reduceLeDiff, Nat.reduceMul, Nat.reduceLT]
              repeat' (first | refine fork_intro (fun hb => ?_) (fun hb => ?_) | refine partB_intro (fun hb => ?_) (fun hb => ?_) | refine And.intro ?_ ?_)
              all_goals first | exact True.intro | omega | with_reducible rfl | exact congrArg (AV.int _) (by omega) | (first | rfl | simp [over_zero])
            · intro i hi
              simp only [go_sem, ↓reduceIte, Nat.reduceEqDiff, Nat.reduceBEq, Nat.reduceAdd, Nat.reduceSub, Nat.reduceLeDiff, Nat.reduceMul, Nat.reduceLT]
              refine fork_intro (fun hc => ?_) (fun hc => ?_)
              · have hid : i < d.length := by omega
                have hol := over_len (gsett o d s).w s.w (k := i) (by omega) (by omega)
                have hix := over_ix (gsett o d s).w s.w (k := i) (by omega) (by omega)
                have hst := over_set (gsett o d s).w s.w (k := i) (by omega) (by omega)
                have hsm := over_same (ys := (gsett o d s).w) (xs := s.w) (k := i) (by omega) (by omega)
                have hol2 := over_len (gsett o d s).w s.w (k := i + 1) (by omega) (by omega)
                have ew := set_w (o := o) (s := s) hid
                have hws := h.ws i hid
                have eg := gpr_ix (s := s) hid
                have hbs : (∃ k : Nat, k < i + 1 ∧ ix (gsett o d s).w (k : Int) < 0) ↔ (∃ k : Nat, k < i ∧ ix (gsett o d s).w (k : Int) < 0) ∨ ix (gsett o d s).w (i : Int) < 0 := by
                  constructor
                  · rintro ⟨k, h1, h2⟩
                    by_cases e : k = i
                    · subst e; exact .inr h2
                    · exact .inl ⟨k, by omega, h2⟩
                  · rintro (⟨k, h1, h2⟩ | h1)
                    · exact ⟨k, by omega, h2⟩
                    · exact ⟨i, by omega, h1⟩
                have hbn : ¬ (∃ k : Nat, k < i ∧ ix (gsett o d s).w (k : Int) < 0) → ((∃ k : Nat, k < i + 1 ∧ ix (gsett o d s).w (k : Int) < 0) ↔ ix (gsett o d s).w (i : Int) < 0) := fun hg => by
                  rw [hbs]; exact ⟨fun h => h.elim (fun h => (hg h).elim) id, .inr⟩
                by_cases hw : ix s.w (i : Int) < 0
                · rw [if_pos hw] at eg ew
                  have hse := set_self (xs := over (gsett o d s).w s.w i) (k := i) (by omega)
                  rw [hix] at hse
                  refine loop_intro (fun a : Nat => [(91, .int .i64 a), (90, .int .i64 o.length), (89, .sl 2), (11, .int .i64 i), (85, .int .i64 i), (84, .int .i64 d.length), (10, .bool (decide (∃ k : Nat, k < i ∧ ix (gsett o d s).w (k : Int) < 0))), (6, .bx 5 0), (5, .fn 132 [.iptr [.ints o, .rows d]]), (4, .bx 4 0), (3, .int .i64 d.length), (2, .bx 0 0), (1, .iptr [.ints o, .rows d])]) (fun a => [(0, .box [.nils, .nils, .nils]), (1, .arr (.ints (gpr d s))), (2, .arr (.ints (gti o d s))), (3, .arr (.ints ((over (gsett o d s).w s.w i).set i (witF s.now (gti o d s) (ix d (i : Int)) a)))), (4, .box [.sl 1, .sl 2, .sl 3]), (5, .box [.int .i64 s.now])]) 6 (fun a => a ≤ o.length) (fun a => o.length - a) 0 (Nat.zero_le _) (by omega) ?_ ?_
                  · have e0 : (over (gsett o d s).w s.w i).set i (witF s.now (gti o d s) (ix d (i : Int)) 0) = over (gsett o d s).w s.w i := by
                      rw [show witF s.now (gti o d s) (ix d (i : Int)) 0 = ix s.w (i : Int) by show (-1 : Int) = _; omega]; exact hse
                    simp only [go_sem, ↓reduceIte, Nat.reduceEqDiff, Nat.reduceBEq, Nat.reduceAdd, Nat.reduceSub, Nat.reduceLeDiff, Nat.reduceMul, Nat.reduceLT]
                    repeat' (first | refine fork_intro (fun hb => ?_) (fun hb => ?_) | refine partB_intro (fun hb => ?_) (fun hb => ?_) | refine And.intro ?_ ?_)
                    all_goals first | exact True.intro | omega | with_reducible rfl | exact congrArg (AV.int _) (by omega) | (first | rfl | rw [e0] | rw [lgt])
                  · intro a ha
                    have hwa := witF_bd s.now (gti o d s) (ix d (i : Int)) a
                    have e : witF s.now (gti o d s) (ix d (i : Int)) (a + 1) = if (0 ≤ ix (gti o d s) (a : Int) ∧ 2520 * ix (ix d (i : Int)) (a : Int) ≤ s.now) ∧ (witF s.now (gti o d s) (ix d (i : Int)) a < 0 ∨ ix (gti o d s) (a : Int) < ix (gti o d s) (witF s.now (gti o d s) (ix d (i : Int)) a)) then (a : Int) else witF s.now (gti o d s) (ix d (i : Int)) a := rfl
                    have hsi := ix_setv (xs := over (gsett o d s).w s.w i) (k := i) (v := witF s.now (gti o d s) (ix d (i : Int)) a) (by omega)
                    have hsl : ((over (gsett o d s).w s.w i).set i (witF s.now (gti o d s) (ix d (i : Int)) a)).length = s.w.length := by rw [List.length_set, hol]
                    have hss := fun v : Int => List.set_set (l := over (gsett o d s).w s.w i) (i := i) (a := witF s.now (gti o d s) (ix d (i : Int)) a) (b := v)
                    simp only [go_sem, ↓reduceIte, Nat.reduceEqDiff, Nat.reduceBEq, Nat.reduceAdd, Nat.reduceSub, Nat.reduceLeDiff, Nat.reduceMul, Nat.reduceLT]
                    simp only [hsi, hss, eg]
                    refine fork_intro (fun hd => ?_) (fun hd => ?_)
                    · have hde := h.ent hid (show a < o.length by omega)
                      refine ⟨by omega, by omega, by omega, fork_intro (fun _ => fork_intro (fun h1 => ?_) (fun h1 => ?_)) (fun hh => (hh trivial).elim)⟩
                      · refine ⟨⟨hp, by omega, by omega⟩, fork_intro (fun h2 => fork_intro (fun h3 => ?_) (fun h3 => ?_)) (fun h2 => ?_)⟩
                        · rw [if_pos ⟨⟨h1, h2⟩, .inl h3⟩] at e
                          repeat' (first | refine fork_intro (fun hb => ?_) (fun hb => ?_) | refine partB_intro (fun hb => ?_) (fun hb => ?_) | refine And.intro ?_ ?_)
                          all_goals first | exact True.intro | omega | with_reducible rfl | exact congrArg (AV.int _) (by omega) | (refine LoopEnd.intro (a + 1) (by first | omega) (by first | omega | (dsimp only; omega)) (by omega) ?_; simp only [go_sem, ↓reduceIte, Nat.reduceEqDiff, Nat.reduceBEq, Nat.reduceAdd, Nat.reduceSub, Nat.reduceLeDiff, Nat.reduceMul, Nat.reduceLT]; (repeat' (first | refine fork_intro (fun hb => ?_) (fun hb => ?_) | refine partB_intro (fun hb => ?_) (fun hb => ?_) | refine And.intro ?_ ?_)); all_goals first | exact True.intro | omega | with_reducible rfl | exact congrArg (AV.int _) (by omega) | (first | rfl | rw [e])) | (first | rfl | rw [e])
                        · refine ⟨by omega, fork_intro (fun h4 => ?_) (fun h4 => ?_)⟩
                          · rw [if_pos ⟨⟨h1, h2⟩, .inr (by omega)⟩] at e
                            repeat' (first | refine fork_intro (fun hb => ?_) (fun hb => ?_) | refine partB_intro (fun hb => ?_) (fun hb => ?_) | refine And.intro ?_ ?_)
                            all_goals first | exact True.intro | omega | with_reducible rfl | exact congrArg (AV.int _) (by omega) | (refine LoopEnd.intro (a + 1) (by first | omega) (by first | omega | (dsimp only; omega)) (by omega) ?_; simp only [go_sem, ↓reduceIte, Nat.reduceEqDiff, Nat.reduceBEq, Nat.reduceAdd, Nat.reduceSub, Nat.reduceLeDiff, Nat.reduceMul, Nat.reduceLT]; (repeat' (first | refine fork_intro (fun hb => ?_) (fun hb => ?_) | refine partB_intro (fun hb => ?_) (fun hb => ?_) | refine And.intro ?_ ?_)); all_goals first | exact True.intro | omega | with_reducible rfl | exact congrArg (AV.int _) (by omega) | (first | rfl | rw [e])) | (first | rfl | rw [e])
                          · rw [if_neg (fun hh => by omega)] at e
                            repeat' (first | refine fork_intro (fun hb => ?_) (fun hb => ?_) | refine partB_intro (fun hb => ?_) (fun hb => ?_) | refine And.intro ?_ ?_)
                            all_goals first | exact True.intro | omega | with_reducible rfl | exact congrArg (AV.int _) (by omega) | (refine LoopEnd.intro (a + 1) (by first | omega) (by first | omega | (dsimp only; omega)) (by omega) ?_; simp only [go_sem, ↓reduceIte, Nat.reduceEqDiff, Nat.reduceBEq, Nat.reduceAdd, Nat.reduceSub, Nat.reduceLeDiff, Nat.reduceMul, Nat.reduceLT]; (repeat' (first | refine fork_intro (fun hb => ?_) (fun hb => ?_) | refine partB_intro (fun hb => ?_) (fun hb => ?_) | refine And.intro ?_ ?_)); all_goals first | exact True.intro | omega | with_reducible rfl | exact congrArg (AV.int _) (by omega) | (first | rfl | rw [e])) | (first | rfl | rw [e])
                        · rw [if_neg (fun hh => h2 hh.1.2)] at e
                          repeat' (first | refine fork_intro (fun hb => ?_) (fun hb => ?_) | refine partB_intro (fun hb => ?_) (fun hb => ?_) | refine And.intro ?_ ?_)
                          all_goals first | exact True.intro | omega | with_reducible rfl | exact congrArg (AV.int _) (by omega) | (refine LoopEnd.intro (a + 1) (by first | omega) (by first | omega | (dsimp only; omega)) (by omega) ?_; simp only [go_sem, ↓reduceIte, Nat.reduceEqDiff, Nat.reduceBEq, Nat.reduceAdd, Nat.reduceSub, Nat.reduceLeDiff, Nat.reduceMul, Nat.reduceLT]; (repeat' (first | refine fork_intro (fun hb => ?_) (fun hb => ?_) | refine partB_intro (fun hb => ?_) (fun hb => ?_) | refine And.intro ?_ ?_)); all_goals first | exact True.intro | omega | with_reducible rfl | exact congrArg (AV.int _) (by omega) | (first | rfl | rw [e])) | (first | rfl | rw [e])
                      · rw [if_neg (fun hh => h1 hh.1.1)] at e
                        repeat' (first | refine fork_intro (fun hb => ?_) (fun hb => ?_) | refine partB_intro (fun hb => ?_) (fun hb => ?_) | refine And.intro ?_ ?_)
                        all_goals first | exact True.intro | omega | with_reducible rfl | exact congrArg (AV.int _) (by omega) | (refine LoopEnd.intro (a + 1) (by first | omega) (by first | omega | (dsimp only; omega)) (by omega) ?_; simp only [go_sem, ↓reduceIte, Nat.reduceEqDiff, Nat.reduceBEq, Nat.reduceAdd, Nat.reduceSub, Nat.reduceLeDiff, Nat.reduceMul, Nat.reduceLT]; (repeat' (first | refine fork_intro (fun hb => ?_) (fun hb => ?_) | refine partB_intro (fun hb => ?_) (fun hb => ?_) | refine And.intro ?_ ?_)); all_goals first | exact True.intro | omega | with_reducible rfl | exact congrArg (AV.int _) (by omega) | (first | rfl | rw [e])) | (first | rfl | rw [e])
                    · have ea : a = o.length := by omega
                      subst ea
                      have ewt : witF s.now (gti o d s) (ix d (i : Int)) o.length = wit o d s i := rfl
                      rw [ewt, ← ew, hst]
                      refine fork_intro (fun hg => ?_) (fun hg => ?_)
                      · have hg1 := decide_eq_true (hbs.2 (.inl hg))
                        repeat' (first | refine fork_intro (fun hb => ?_) (fun hb => ?_) | refine partB_intro (fun hb => ?_) (fun hb => ?_) | refine And.intro ?_ ?_)
                        all_goals first | exact True.intro | omega | with_reducible rfl | exact congrArg (AV.int _) (by omega) | (refine LoopEnd.intro (i + 1) (by first | omega) (by first | omega | (dsimp only; omega)) (by omega) ?_; simp only [go_sem, ↓reduceIte, Nat.reduceEqDiff, Nat.reduceBEq, Nat.reduceAdd, Nat.reduceSub, Nat.reduceLeDiff, Nat.reduceMul, Nat.reduceLT]; (repeat' (first | refine fork_intro (fun hb => ?_) (fun hb => ?_) | refine partB_intro (fun hb => ?_) (fun hb => ?_) | refine And.intro ?_ ?_)); all_goals first | exact True.intro | omega | with_reducible rfl | exact congrArg (AV.int _) (by omega) | (first | rfl | rw [hg1])) | (first | rfl | rw [hg1])
                      · have hg2 := (hbn hg).symm
                        repeat' (first | refine fork_intro (fun hb => ?_) (fun hb => ?_) | refine partB_intro (fun hb => ?_) (fun hb => ?_) | refine And.intro ?_ ?_)
                        all_goals first | exact True.intro | omega | with_reducible rfl | exact congrArg (AV.int _) (by omega) | (refine LoopEnd.intro (i + 1) (by first | omega) (by first | omega | (dsimp only; omega)) (by omega) ?_; simp only [go_sem, ↓reduceIte, Nat.reduceEqDiff, Nat.reduceBEq, Nat.reduceAdd, Nat.reduceSub, Nat.reduceLeDiff, Nat.reduceMul, Nat.reduceLT]; (repeat' (first | refine fork_intro (fun hb => ?_) (fun hb => ?_) | refine partB_intro (fun hb => ?_) (fun hb => ?_) | refine And.intro ?_ ?_)); all_goals first | exact True.intro | omega | with_reducible rfl | exact congrArg (AV.int _) (by omega) | (first | rfl | exact congrArg AV.bool (decide_eq_decide.2 hg2))) | (first | rfl | exact congrArg AV.bool (decide_eq_decide.2 hg2))
                · rw [if_neg hw] at eg ew
                  have hsp := h.ps i hid (by omega)
                  have hsm := hsm ew
                  refine loop_intro (fun a : Nat => [(91, .int .i64 a), (90, .int .i64 o.length), (89, .sl 2), (11, .int .i64 i), (85, .int .i64 i), (84, .int .i64 d.length), (10, .bool (decide (∃ k : Nat, k < i ∧ ix (gsett o d s).w (k : Int) < 0))), (6, .bx 5 0), (5, .fn 132 [.iptr [.ints o, .rows d]]), (4, .bx 4 0), (3, .int .i64 d.length), (2, .bx 0 0), (1, .iptr [.ints o, .rows d])]) (fun a => [(0, .box [.nils, .nils, .nils]), (1, .arr (.ints (gpr d s))), (2, .arr (.ints (gti o d s))), (3, .arr (.ints (over (gsett o d s).w s.w i))), (4, .box [.sl 1, .sl 2, .sl 3]), (5, .box [.int .i64 s.now])]) 6 (fun a => a ≤ o.length) (fun a => o.length - a) 0 (Nat.zero_le _) (by omega) ?_ ?_
                  · simp only [go_sem, ↓reduceIte, Nat.reduceEqDiff, Nat.reduceBEq, Nat.reduceAdd, Nat.reduceSub, Nat.reduceLeDiff, Nat.reduceMul, Nat.reduceLT]
                    repeat' (first | refine fork_intro (fun hb => ?_) (fun hb => ?_) | refine partB_intro (fun hb => ?_) (fun hb => ?_) | refine And.intro ?_ ?_)
                    all_goals first | exact True.intro | omega | with_reducible rfl | exact congrArg (AV.int _) (by omega) | (first | rfl | rw [lgt])
                  · intro a ha
                    simp only [go_sem, ↓reduceIte, Nat.reduceEqDiff, Nat.reduceBEq, Nat.reduceAdd, Nat.reduceSub, Nat.reduceLeDiff, Nat.reduceMul, Nat.reduceLT]
                    simp only [hix, eg]
                    refine fork_intro (fun hd => ?_) (fun hd => ?_)
                    · refine ⟨by omega, by omega, by omega, fork_intro (fun hh => by omega) (fun _ => ?_)⟩
                      repeat' (first | refine fork_intro (fun hb => ?_) (fun hb => ?_) | refine partB_intro (fun hb => ?_) (fun hb => ?_) | refine And.intro ?_ ?_)
                      all_goals first | exact True.intro | omega | with_reducible rfl | exact congrArg (AV.int _) (by omega) | (refine LoopEnd.intro (a + 1) (by first | omega) (by first | omega | (dsimp only; omega)) (by omega) ?_; simp only [go_sem, ↓reduceIte, Nat.reduceEqDiff, Nat.reduceBEq, Nat.reduceAdd, Nat.reduceSub, Nat.reduceLeDiff, Nat.reduceMul, Nat.reduceLT]; (repeat' (first | refine fork_intro (fun hb => ?_) (fun hb => ?_) | refine partB_intro (fun hb => ?_) (fun hb => ?_) | refine And.intro ?_ ?_)); all_goals first | exact True.intro | omega | with_reducible rfl | exact congrArg (AV.int _) (by omega) | (first | rfl)) | (first | rfl)
                    · refine fork_intro (fun hg => ?_) (fun hg => ?_)
                      · have hg1 := decide_eq_true (hbs.2 (.inl hg))
                        repeat' (first | refine fork_intro (fun hb => ?_) (fun hb => ?_) | refine partB_intro (fun hb => ?_) (fun hb => ?_) | refine And.intro ?_ ?_)
                        all_goals first | exact True.intro | omega | with_reducible rfl | exact congrArg (AV.int _) (by omega) | (refine LoopEnd.intro (i + 1) (by first | omega) (by first | omega | (dsimp only; omega)) (by omega) ?_; simp only [go_sem, ↓reduceIte, Nat.reduceEqDiff, Nat.reduceBEq, Nat.reduceAdd, Nat.reduceSub, Nat.reduceLeDiff, Nat.reduceMul, Nat.reduceLT]; (repeat' (first | refine fork_intro (fun hb => ?_) (fun hb => ?_) | refine partB_intro (fun hb => ?_) (fun hb => ?_) | refine And.intro ?_ ?_)); all_goals first | exact True.intro | omega | with_reducible rfl | exact congrArg (AV.int _) (by omega) | (first | rfl | rw [hg1] | rw [hsm])) | (first | rfl | rw [hg1] | rw [hsm])
                      · have hg2 := (hbn hg).symm
                        rw [ew] at hg2
                        repeat' (first | refine fork_intro (fun hb => ?_) (fun hb => ?_) | refine partB_intro (fun hb => ?_) (fun hb => ?_) | refine And.intro ?_ ?_)
                        all_goals first | exact True.intro | omega | with_reducible rfl | exact congrArg (AV.int _) (by omega) | (refine LoopEnd.intro (i + 1) (by first | omega) (by first | omega | (dsimp only; omega)) (by omega) ?_; simp only [go_sem, ↓reduceIte, Nat.reduceEqDiff, Nat.reduceBEq, Nat.reduceAdd, Nat.reduceSub, Nat.reduceLeDiff, Nat.reduceMul, Nat.reduceLT]; (repeat' (first | refine fork_intro (fun hb => ?_) (fun hb => ?_) | refine partB_intro (fun hb => ?_) (fun hb => ?_) | refine And.intro ?_ ?_)); all_goals first | exact True.intro | omega | with_reducible rfl | exact congrArg (AV.int _) (by omega) | (first | rfl | rw [hsm] | exact congrArg AV.bool (decide_eq_decide.2 hg2))) | (first | rfl | rw [hsm] | exact congrArg AV.bool (decide_eq_decide.2 hg2))
              · have ei : i = d.length := by omega
                subst ei
                rw [show over (gsett o d s).w s.w d.length = (gsett o d s).w by rw [← lw]; exact over_end _ _ (by omega)]
                have hal : (clms d (gpr d s) 2520 o.length).length = o.length := tab_len _ _
                refine fork_intro (fun hmv => ?_) (fun hmv => ?_)
                · have hmv : movingP d (gsett o d s) := hmv
                  refine ⟨h.clm, ?_⟩
                  have hstep := h.step_is
                  have hcb := fun {k i : Nat} (h1 : k ≤ o.length) (h2 : k < o.length ∨ i = 0) (h3 : i ≤ d.length) {c : Int} hc => h.candI_bd (k := k) (i := i) h1 h2 h3 (c := c) hc
                  have hquo := fun {a : Nat} (ha : a < o.length) ht hs => h.quo (a := a) ha ht hs
                  have et : (gsett o d s).t = gti o d s := rfl
                  have enow : (gsett o d s).now = s.now := rfl
                  have hs7 := gsp7 hm (gsett o d s)
                  refine loop_intro (fun g : Nat × Int => [(160, .int .i64 g.1), (159, .int .i64 o.length), (17, .ints (clms d (gpr d s) 2520 o.length)), (16, .fn 134 [.bx 5 0, .bx 6 0]), (15, .bx 6 0), (6, .bx 5 0), (5, .fn 132 [.iptr [.ints o, .rows d]]), (4, .bx 4 0), (3, .int .i64 d.length), (2, .bx 0 0), (1, .iptr [.ints o, .rows d])]) (fun g => [(0, .box [.nils, .nils, .nils]), (1, .arr (.ints (gpr d s))), (2, .arr (.ints (gti o d s))), (3, .arr (.ints ((gsett o d s).w))), (4, .box [.sl 1, .sl 2, .sl 3]), (5, .box [.int .i64 s.now]), (6, .box [.int .i64 g.2])]) 7 (fun g => g.1 ≤ o.length ∧ IsMn g.2 (candI o d (gsett o d s) g.1 0)) (fun g => o.length - g.1) (0, -1) ⟨Nat.zero_le _, .inl ⟨rfl, fun c => candI_zero _ c⟩⟩ (by omega) ?_ ?_
                  · simp only [go_sem, ↓reduceIte, Nat.reduceEqDiff, Nat.reduceBEq, Nat.reduceAdd, Nat.reduceSub, Nat.reduceLeDiff, Nat.reduceMul, Nat.reduceLT]
                    repeat' (first | refine fork_intro (fun hb => ?_) (fun hb => ?_) | refine partB_intro (fun hb => ?_) (fun hb => ?_) | refine And.intro ?_ ?_)
                    all_goals first | exact True.intro | omega | with_reducible rfl | exact congrArg (AV.int _) (by omega) | (first | rfl)
                  · rintro ⟨a, x⟩ ⟨ha, hx⟩
                    simp only at ha hx
                    simp only [go_sem, ↓reduceIte, Nat.reduceEqDiff, Nat.reduceBEq, Nat.reduceAdd, Nat.reduceSub, Nat.reduceLeDiff, Nat.reduceMul, Nat.reduceLT]
                    refine fork_intro (fun hd => ?_) (fun hd => ?_)
                    · have hao : a < o.length := by omega
                      refine loop_intro (fun g : Nat × Int => [(164, .int .i64 g.1), (163, .int .i64 d.length), (19, .int .i64 (cN (gspB d (gsett o d s) a) g.1 : Nat)), (18, .int .i64 a), (160, .int .i64 a), (159, .int .i64 o.length), (17, .ints (clms d (gpr d s) 2520 o.length)), (16, .fn 134 [.bx 5 0, .bx 6 0]), (15, .bx 6 0), (6, .bx 5 0), (5, .fn 132 [.iptr [.ints o, .rows d]]), (4, .bx 4 0), (3, .int .i64 d.length), (2, .bx 0 0), (1, .iptr [.ints o, .rows d])]) (fun g => [(0, .box [.nils, .nils, .nils]), (1, .arr (.ints (gpr d s))), (2, .arr (.ints (gti o d s))), (3, .arr (.ints ((gsett o d s).w))), (4, .box [.sl 1, .sl 2, .sl 3]), (5, .box [.int .i64 s.now]), (6, .box [.int .i64 g.2])]) 7 (fun g => g.1 ≤ d.length ∧ IsMn g.2 (candI o d (gsett o d s) a g.1)) (fun g => d.length - g.1) (0, x) ⟨Nat.zero_le _, hx⟩ (by omega) ?_ ?_
                      · simp only [go_sem, ↓reduceIte, Nat.reduceEqDiff, Nat.reduceBEq, Nat.reduceAdd, Nat.reduceSub, Nat.reduceLeDiff, Nat.reduceMul, Nat.reduceLT]
                        repeat' (first | refine fork_intro (fun hb => ?_) (fun hb => ?_) | refine partB_intro (fun hb => ?_) (fun hb => ?_) | refine And.intro ?_ ?_)
                        all_goals first | exact True.intro | omega | with_reducible rfl | exact congrArg (AV.int _) (by omega) | (first | rfl)
                      · rintro ⟨i, y⟩ ⟨hi, hy⟩
                        simp only at hi hy
                        simp only [go_sem, ↓reduceIte, Nat.reduceEqDiff, Nat.reduceBEq, Nat.reduceAdd, Nat.reduceSub, Nat.reduceLeDiff, Nat.reduceMul, Nat.reduceLT]
                        refine fork_intro (fun hf2 => ?_) (fun hf2 => ?_)
                        · have hid : i < d.length := by omega
                          have ecn : cN (gspB d (gsett o d s) a) (i + 1) = cN (gspB d (gsett o d s) a) i + (if gspB d (gsett o d s) a i = true then 1 else 0) := rfl
                          have hcl := cN_le (gspB d (gsett o d s) a) i
                          have hde := h.ent hid hao
                          have eB : gspB d (gsett o d s) a i = decide (ix (gsett o d s).w (i : Int) < 0 ∧ 2520 * ix (ix d (i : Int)) (a : Int) ≤ s.now) := rfl
                          refine ⟨by omega, fork_intro (fun h1 => ?_) (fun h1 => ?_)⟩
                          · rw [eB, decide_eq_false (fun hh => by omega), if_neg (by decide)] at ecn
                            have hz := hy.congr (candI_no (t := gsett o d s) (k := a) (i := i) (fun hh => by omega))
                            repeat' (first | refine fork_intro (fun hb => ?_) (fun hb => ?_) | refine partB_intro (fun hb => ?_) (fun hb => ?_) | refine And.intro ?_ ?_)
                            all_goals first | exact True.intro | omega | with_reducible rfl | exact congrArg (AV.int _) (by omega) | (refine LoopEnd.intro ((i + 1, y)) (by first | omega | (first | exact ⟨by omega, hz⟩)) (by first | omega | (dsimp only; omega)) (by omega) ?_; simp only [go_sem, ↓reduceIte, Nat.reduceEqDiff, Nat.reduceBEq, Nat.reduceAdd, Nat.reduceSub, Nat.reduceLeDiff, Nat.reduceMul, Nat.reduceLT]; (repeat' (first | refine fork_intro (fun hb => ?_) (fun hb => ?_) | refine partB_intro (fun hb => ?_) (fun hb => ?_) | refine And.intro ?_ ?_)); all_goals first | exact True.intro | omega | with_reducible rfl | exact congrArg (AV.int _) (by omega) | (first | rfl | (rw [ecn]; rfl))) | (first | rfl | (rw [ecn]; rfl))
                          · refine ⟨⟨hp, by omega, by omega⟩, ⟨hp, by omega, by omega⟩, fork_intro (fun h2 => ?_) (fun h2 => ?_)⟩
                            · rw [eB, decide_eq_true ⟨by omega, h2⟩, if_pos rfl] at ecn
                              have hz := hy.congr (candI_no (t := gsett o d s) (k := a) (i := i) (fun hh => by omega))
                              rw [if_neg (show ¬ s.now < 2520 * ix (ix d (i : Int)) (a : Int) by omega)]
                              repeat' (first | refine fork_intro (fun hb => ?_) (fun hb => ?_) | refine partB_intro (fun hb => ?_) (fun hb => ?_) | refine And.intro ?_ ?_)
                              all_goals first | exact True.intro | omega | with_reducible rfl | exact congrArg (AV.int _) (by omega) | (refine LoopEnd.intro ((i + 1, y)) (by first | omega | (first | exact ⟨by omega, hz⟩)) (by first | omega | (dsimp only; omega)) (by omega) ?_; simp only [go_sem, ↓reduceIte, Nat.reduceEqDiff, Nat.reduceBEq, Nat.reduceAdd, Nat.reduceSub, Nat.reduceLeDiff, Nat.reduceMul, Nat.reduceLT]; (repeat' (first | refine fork_intro (fun hb => ?_) (fun hb => ?_) | refine partB_intro (fun hb => ?_) (fun hb => ?_) | refine And.intro ?_ ?_)); all_goals first | exact True.intro | omega | with_reducible rfl | exact congrArg (AV.int _) (by omega) | (first | rfl | (rw [ecn]; rfl))) | (first | rfl | (rw [ecn]; rfl))
                            · rw [eB, decide_eq_false (fun hh => h2 hh.2), if_neg (by decide)] at ecn
                              have hz := hy.upd (c := 2520 * ix (ix d (i : Int)) (a : Int)) (by omega) (candI_yes (t := gsett o d s) (k := a) (i := i) ⟨by omega, by omega⟩)
                              rw [if_pos (show s.now < 2520 * ix (ix d (i : Int)) (a : Int) by omega)]
                              repeat' (first | refine fork_intro (fun hb => ?_) (fun hb => ?_) | refine partB_intro (fun hb => ?_) (fun hb => ?_) | refine And.intro ?_ ?_)
                              all_goals first | exact True.intro | omega | with_reducible rfl | exact congrArg (AV.int _) (by omega) | (refine LoopEnd.intro ((i + 1, mnU y (2520 * ix (ix d (i : Int)) (a : Int)))) (by first | omega | (first | exact ⟨by omega, hz⟩)) (by first | omega | (dsimp only; omega)) (by omega) ?_; simp only [go_sem, ↓reduceIte, Nat.reduceEqDiff, Nat.reduceBEq, Nat.reduceAdd, Nat.reduceSub, Nat.reduceLeDiff, Nat.reduceMul, Nat.reduceLT]; (repeat' (first | refine fork_intro (fun hb => ?_) (fun hb => ?_) | refine partB_intro (fun hb => ?_) (fun hb => ?_) | refine And.intro ?_ ?_)); all_goals first | exact True.intro | omega | with_reducible rfl | exact congrArg (AV.int _) (by omega) | (first | rfl | (rw [ecn]; rfl))) | (first | rfl | (rw [ecn]; rfl))
                        · have ei : i = d.length := by omega
                          subst ei
                          have hcg : ix (clms d (gpr d s) 2520 o.length) (a : Int) = gcl d s a := tab_ix hao
                          have hgb := gcl_bd h hao
                          have hob := h.opn hao
                          have em : cN (gspB d (gsett o d s) a) d.length = gsp d (gsett o d s) a := rfl
                          have h7 := hs7 a
                          have er : grest o d (gsett o d s) a = 2520 * ix o (a : Int) - gcl d s a := by rw [← gcl_gsett (o := o)]; rfl
                          have hye := hy.le (by decide) (fun c hc => hcb ha (.inl hao) (Nat.le_refl _) hc)
                          simp only [em, hcg]
                          refine fork_intro (fun h1 => ⟨by omega, fork_intro (fun h2 => ?_) (fun h2 => ?_)⟩) (fun h1 => ?_)
                          · have hcd : ix (gsett o d s).t (a : Int) < 0 ∧ 0 < gsp d (gsett o d s) a := ⟨h2, by omega⟩
                            obtain ⟨q, e1, e2, e3, _⟩ := hquo hao hcd.1 hcd.2
                            have hz := hy.upd (Q := candI o d (gsett o d s) (a + 1) 0) (c := s.now + q) (by omega) (fun c => by rw [candI_row_yes hcd c, e2, enow])
                            rw [er] at e1
                            have hce := ceil_exact (r := ix o (a : Int) * 2520 - gcl d s a) (q := q) hcd.2 (by omega) e3
                            have h5 := Int.mul_le_mul_of_nonneg_right (show (1 : Int) ≤ (gsp d (gsett o d s) a : Nat) by omega) (show 0 ≤ q by omega)
                            simp only [hce]
                            rw [if_pos (show s.now < s.now + q by omega)]
                            refine ⟨by omega, by omega, by omega, by omega, by omega, by omega, by omega, by omega, by omega, ?_⟩
                            repeat' (first | refine fork_intro (fun hb => ?_) (fun hb => ?_) | refine partB_intro (fun hb => ?_) (fun hb => ?_) | refine And.intro ?_ ?_)
                            all_goals first | exact True.intro | omega | with_reducible rfl | exact congrArg (AV.int _) (by omega) | (refine LoopEnd.intro ((a + 1, mnU y (s.now + q))) (by first | omega | (first | exact ⟨by omega, hz⟩)) (by first | omega | (dsimp only; omega)) (by omega) ?_; simp only [go_sem, ↓reduceIte, Nat.reduceEqDiff, Nat.reduceBEq, Nat.reduceAdd, Nat.reduceSub, Nat.reduceLeDiff, Nat.reduceMul, Nat.reduceLT]; (repeat' (first | refine fork_intro (fun hb => ?_) (fun hb => ?_) | refine partB_intro (fun hb => ?_) (fun hb => ?_) | refine And.intro ?_ ?_)); all_goals first | exact True.intro | omega | with_reducible rfl | exact congrArg (AV.int _) (by omega) | (first | rfl)) | (first | rfl)
                          · have hz := hy.congr (candI_row_no (t := gsett o d s) (k := a) (fun hh => h2 hh.1))
                            repeat' (first | refine fork_intro (fun hb => ?_) (fun hb => ?_) | refine partB_intro (fun hb => ?_) (fun hb => ?_) | refine And.intro ?_ ?_)
                            all_goals first | exact True.intro | omega | with_reducible rfl | exact congrArg (AV.int _) (by omega) | (refine LoopEnd.intro ((a + 1, y)) (by first | omega | (first | exact ⟨by omega, hz⟩)) (by first | omega | (dsimp only; omega)) (by omega) ?_; simp only [go_sem, ↓reduceIte, Nat.reduceEqDiff, Nat.reduceBEq, Nat.reduceAdd, Nat.reduceSub, Nat.reduceLeDiff, Nat.reduceMul, Nat.reduceLT]; (repeat' (first | refine fork_intro (fun hb => ?_) (fun hb => ?_) | refine partB_intro (fun hb => ?_) (fun hb => ?_) | refine And.intro ?_ ?_)); all_goals first | exact True.intro | omega | with_reducible rfl | exact congrArg (AV.int _) (by omega) | (first | rfl)) | (first | rfl)
                          · have hz := hy.congr (candI_row_no (t := gsett o d s) (k := a) (fun hh => by omega))
                            repeat' (first | refine fork_intro (fun hb => ?_) (fun hb => ?_) | refine partB_intro (fun hb => ?_) (fun hb => ?_) | refine And.intro ?_ ?_)
                            all_goals first | exact True.intro | omega | with_reducible rfl | exact congrArg (AV.int _) (by omega) | (refine LoopEnd.intro ((a + 1, y)) (by first | omega | (first | exact ⟨by omega, hz⟩)) (by first | omega | (dsimp only; omega)) (by omega) ?_; simp only [go_sem, ↓reduceIte, Nat.reduceEqDiff, Nat.reduceBEq, Nat.reduceAdd, Nat.reduceSub, Nat.reduceLeDiff, Nat.reduceMul, Nat.reduceLT]; (repeat' (first | refine fork_intro (fun hb => ?_) (fun hb => ?_) | refine partB_intro (fun hb => ?_) (fun hb => ?_) | refine And.intro ?_ ?_)); all_goals first | exact True.intro | omega | with_reducible rfl | exact congrArg (AV.int _) (by omega) | (first | rfl)) | (first | rfl)
                    · have ea : a = o.length := by omega
                      subst ea
                      have hz := hx.congr (candI_all (t := gsett o d s))
                      have hxe := hz.unique hstep
                      obtain ⟨g1, g2⟩ := hs.next hmv
                      have gn := g1.1.n0
                      have enx : (adv o d (gsett o d s)).now = gstep o d (gsett o d s) := rfl
                      refine LoopEnd.intro (adv o d (gsett o d s), gpr d s) ⟨g1, lg, fun j hj hw => h.stop_p hj hw⟩ ?_ ?_ ?_
                      · simp only; omega
                      · omega
                      · subst hxe
                        simp only [go_sem, ↓reduceIte, Nat.reduceEqDiff, Nat.reduceBEq, Nat.reduceAdd, Nat.reduceSub, Nat.reduceLeDiff, Nat.reduceMul, Nat.reduceLT]
                        repeat' (first | refine fork_intro (fun hb => ?_) (fun hb => ?_) | refine partB_intro (fun hb => ?_) (fun hb => ?_) | refine And.intro ?_ ?_)
                        all_goals rfl
                · have hmv : ¬ movingP d (gsett o d s) := hmv
                  have e := hs.done hmv
                  have e2 := h.stop_all hmv
                  rw [← e, ← e2]
                  repeat' (first | refine fork_intro (fun hb => ?_) (fun hb => ?_) | refine partB_intro (fun hb => ?_) (fun hb => ?_) | refine And.intro ?_ ?_)
                  all_goals first | exact True.intro | omega | with_reducible rfl | exact congrArg (AV.int _) (by omega) | (first | rfl)
def t_growI : Table := [(81, ownC g_growI)]
theorem t_growI_ok : TabOK Try.prog t_growI := .cons Try.func81 (by kernel_rfl) (.own (by intro args hp; unfold g_growI at hp ⊢; split at hp <;> first | exact hp.elim | exact ⟨growI_ok _ _ hp, rfl⟩)) (.nil _)
attribute [go_sem] g_growI_eq t_growI
end Go.Proofs.Ytibomnplkclkmaa
