/- Texts joined: A31 A32 XP A33 A34. -/
import Derived.Test.YteefjdbdknkcjaaGreatJ7
import Derived.Test.YteefjdbdknkcjaaGreatTy
import Derived.WalkKit
import Derived.Deep.OwnRows
import Derived.Deep.LoopGhost
namespace Go.Proofs.YteefjdbdknkcjaaGreat
open Go.Vc
set_option maxRecDepth 100000
set_option maxHeartbeats 1600000
set_option linter.unusedSimpArgs false
set_option linter.unusedVariables false

def g_growI : List AV -> Prop × AV × Heap
  | [.agg [.ints o, .rows d]] => (FieldOK o d, .agg [.sl 1, .sl 2, .sl 3], [(1, .arr (.ints (grown o d).p)), (2, .arr (.ints (grown o d).t)), (3, .arr (.ints (grown o d).w))])
  | _ => (False, .undef, [])
theorem g_growI_eq (o : List Int) (d : List (List Int)) : g_growI [.agg [.ints o, .rows d]] = (FieldOK o d, .agg [.sl 1, .sl 2, .sl 3], [(1, .arr (.ints (grown o d).p)), (2, .arr (.ints (grown o d).t)), (3, .arr (.ints (grown o d).w))]) := (rfl)
theorem growI_ok (o : List Int) (d : List (List Int)) (hp : FieldOK o d) : SpecOK Tryz.prog 52 [.agg [.ints o, .rows d]] (.agg [.sl 1, .sl 2, .sl 3]) [(1, .arr (.ints (grown o d).p)), (2, .arr (.ints (grown o d).t)), (3, .arr (.ints (grown o d).w))] := by
  refine fun_ok (C := t_repC ++ t_lenC ++ t_atC ++ t_claimsI) (hint := hintX [2, 25, 30, 33, 4, 6, 15] [(52, [.post, .renb 6 5, .drop [6] 6])] 0 [100173, 100198] [] [] []) ((((t_repC_ok).append t_lenC_ok).append t_atC_ok).append t_claimsI_ok) mixed Tryz.func52 rfl (by kernel_rfl) rfl ?_
  show codeA _ _ _ _ _ _ _ _
  simp only [go_sem, Tryz.results52]
  have hn := hp.n7
  have hm := hp.m7
  have hn1 := hp.n1
  refine ⟨by omega, by omega, by omega, ?_⟩
  refine loop_intro (fun g : St × List Int => [(6, .bx 5 0), (5, .fn 115 [.iptr [.ints o, .rows d]]), (4, .bx 4 0), (3, .int .i64 d.length), (2, .bx 0 0), (1, .iptr [.ints o, .rows d])]) (fun g => [(0, .box [.nils, .nils, .nils]), (1, .arr (.ints (g.2))), (2, .arr (.ints (g.1.t))), (3, .arr (.ints (g.1.w))), (4, .box [.sl 1, .sl 2, .sl 3]), (5, .box [.int .i64 g.1.now])]) 6 (fun g => Going o d g.1 /\ g.2.length = d.length /\ ∀ j, j < d.length -> 0 <= ix g.1.w (j : Int) -> ix g.2 (j : Int) = ix g.1.p (j : Int)) (fun g => (1000000 - g.1.now).toNat) (st0 o.length d.length, List.replicate d.length 0) ⟨going0 hp, List.length_replicate, fun j hj h => by
    rw [show ix (st0 o.length d.length).w (j : Int) = -1 from ix_replicate _ _ hj] at h; omega⟩ (by omega) ?_ ?_
  · simp only [go_sem]
    repeat' (first | refine fork_intro (fun hb => ?_) (fun hb => ?_) | refine partB_intro (fun hb => ?_) (fun hb => ?_) | refine And.intro ?_ ?_)
    all_goals first | exact True.intro | omega | with_reducible rfl | exact congrArg (AV.int _) (by omega) | (first | rfl)
  · rintro ⟨s, P⟩ ⟨hs, hPl, hP⟩
    simp only at hs hPl hP
    have h := hs.1
    have hn0 := h.n0
    have lw := h.lw
    have lt := h.lt
    have lg : (gpr d s).length = d.length := gpr_len
    have lgt : (gti o d s).length = o.length := tab_len _ _
    have lsw : (gsett o d s).w.length = d.length := tab_len _ _
    simp only [go_sem]
    refine loop_intro (fun j : Nat => [(37, .int .i64 j), (36, .int .i64 d.length), (6, .bx 5 0), (5, .fn 115 [.iptr [.ints o, .rows d]]), (4, .bx 4 0), (3, .int .i64 d.length), (2, .bx 0 0), (1, .iptr [.ints o, .rows d])]) (fun j => [(0, .box [.nils, .nils, .nils]), (1, .arr (.ints (over (gpr d s) P j))), (2, .arr (.ints (s.t))), (3, .arr (.ints (s.w))), (4, .box [.sl 1, .sl 2, .sl 3]), (5, .box [.int .i64 s.now])]) 6 (fun j => j <= d.length) (fun j => d.length - j) 0 (Nat.zero_le _) (by omega) ?_ ?_
    · simp only [go_sem]
      repeat' (first | refine fork_intro (fun hb => ?_) (fun hb => ?_) | refine partB_intro (fun hb => ?_) (fun hb => ?_) | refine And.intro ?_ ?_)
      all_goals first | exact True.intro | omega | with_reducible rfl | exact congrArg (AV.int _) (by omega) | (first | rfl | simp [over_zero])
    · intro j hj
      have hol := over_len (gpr d s) P (k := j) (by omega) (by omega)
      simp only [go_sem]
      refine fork_intro (fun hc => ?_) (fun hc => ?_)
      · have hjd : j < d.length := by omega
        have hst := over_set (gpr d s) P (k := j) (by omega) (by omega)
        have hsm := over_same (ys := gpr d s) (xs := P) (k := j) (by omega) (by omega)
        have eg := gpr_ix (s := s) hjd
        refine ⟨by omega, fork_intro (fun h1 => ?_) (fun h1 => ?_)⟩
        · rw [if_pos h1] at eg
          rw [eg] at hst
          repeat' (first | refine fork_intro (fun hb => ?_) (fun hb => ?_) | refine partB_intro (fun hb => ?_) (fun hb => ?_) | refine And.intro ?_ ?_)
          all_goals first | exact True.intro | omega | with_reducible rfl | exact congrArg (AV.int _) (by omega) | (refine LoopEnd.intro (j + 1) (by first | omega) (by first | omega | (dsimp only; omega)) (by omega) ?_; simp only [go_sem]; (repeat' (first | refine fork_intro (fun hb => ?_) (fun hb => ?_) | refine partB_intro (fun hb => ?_) (fun hb => ?_) | refine And.intro ?_ ?_)); all_goals first | exact True.intro | omega | with_reducible rfl | exact congrArg (AV.int _) (by omega) | (first | rfl | rw [hst])) | (first | rfl | rw [hst])
        · rw [if_neg h1] at eg
          have hsm := hsm (by rw [eg, hP j hjd (by omega)])
          repeat' (first | refine fork_intro (fun hb => ?_) (fun hb => ?_) | refine partB_intro (fun hb => ?_) (fun hb => ?_) | refine And.intro ?_ ?_)
          all_goals first | exact True.intro | omega | with_reducible rfl | exact congrArg (AV.int _) (by omega) | (refine LoopEnd.intro (j + 1) (by first | omega) (by first | omega | (dsimp only; omega)) (by omega) ?_; simp only [go_sem]; (repeat' (first | refine fork_intro (fun hb => ?_) (fun hb => ?_) | refine partB_intro (fun hb => ?_) (fun hb => ?_) | refine And.intro ?_ ?_)); all_goals first | exact True.intro | omega | with_reducible rfl | exact congrArg (AV.int _) (by omega) | (first | rfl | rw [hsm])) | (first | rfl | rw [hsm])
      · have ej : j = d.length := by omega
        subst ej
        rw [show over (gpr d s) P d.length = gpr d s by rw [<- hPl]; exact over_end _ _ (by omega)]
        have hcl : (clms d (gpr d s) 2520 o.length).length = o.length := tab_len _ _
        refine ⟨h.clm, ?_⟩
        refine loop_intro (fun a : Nat => [(57, .int .i64 a), (56, .int .i64 o.length), (55, .ints (clms d (gpr d s) 2520 o.length)), (6, .bx 5 0), (5, .fn 115 [.iptr [.ints o, .rows d]]), (4, .bx 4 0), (3, .int .i64 d.length), (2, .bx 0 0), (1, .iptr [.ints o, .rows d])]) (fun a => [(0, .box [.nils, .nils, .nils]), (1, .arr (.ints (gpr d s))), (2, .arr (.ints (over (gti o d s) s.t a))), (3, .arr (.ints (s.w))), (4, .box [.sl 1, .sl 2, .sl 3]), (5, .box [.int .i64 s.now])]) 6 (fun a => a <= o.length) (fun a => o.length - a) 0 (Nat.zero_le _) (by omega) ?_ ?_
        · simp only [go_sem]
          repeat' (first | refine fork_intro (fun hb => ?_) (fun hb => ?_) | refine partB_intro (fun hb => ?_) (fun hb => ?_) | refine And.intro ?_ ?_)
          all_goals first | exact True.intro | omega | with_reducible rfl | exact congrArg (AV.int _) (by omega) | (first | rfl | simp [over_zero] | rw [hcl])
        · intro a ha
          have hol := over_len (gti o d s) s.t (k := a) (by omega) (by omega)
          simp only [go_sem]
          refine fork_intro (fun hc => ?_) (fun hc => ?_)
          · have hao : a < o.length := by omega
            have hix := over_ix (gti o d s) s.t (k := a) (by omega) (by omega)
            have hst := over_set (gti o d s) s.t (k := a) (by omega) (by omega)
            have hsm := over_same (ys := gti o d s) (xs := s.t) (k := a) (by omega) (by omega)
            have eg := gti_ix (d := d) (s := s) hao
            have ec : ix (clms d (gpr d s) 2520 o.length) (a : Int) = gcl d s a := tab_ix hao
            have ho := h.opn hao
            have hre := fun ht => h.reach hao ht
            simp only [hix, ec]
            refine ⟨by omega, by omega, fork_intro (fun h1 => ?_) (fun h1 => ?_)⟩
            · refine ⟨by omega, by omega, fork_intro (fun h2 => ?_) (fun h2 => ?_)⟩
              · rw [if_pos ⟨h1, (hre h1).1 (by omega)⟩] at eg
                rw [eg] at hst
                repeat' (first | refine fork_intro (fun hb => ?_) (fun hb => ?_) | refine partB_intro (fun hb => ?_) (fun hb => ?_) | refine And.intro ?_ ?_)
                all_goals first | exact True.intro | omega | with_reducible rfl | exact congrArg (AV.int _) (by omega) | (refine LoopEnd.intro (a + 1) (by first | omega) (by first | omega | (dsimp only; omega)) (by omega) ?_; simp only [go_sem]; (repeat' (first | refine fork_intro (fun hb => ?_) (fun hb => ?_) | refine partB_intro (fun hb => ?_) (fun hb => ?_) | refine And.intro ?_ ?_)); all_goals first | exact True.intro | omega | with_reducible rfl | exact congrArg (AV.int _) (by omega) | (first | rfl | rw [hst])) | (first | rfl | rw [hst])
              · rw [if_neg (fun hh => h2 (by have := (hre h1).2 hh.2; omega))] at eg
                have hsm := hsm eg
                repeat' (first | refine fork_intro (fun hb => ?_) (fun hb => ?_) | refine partB_intro (fun hb => ?_) (fun hb => ?_) | refine And.intro ?_ ?_)
                all_goals first | exact True.intro | omega | with_reducible rfl | exact congrArg (AV.int _) (by omega) | (refine LoopEnd.intro (a + 1) (by first | omega) (by first | omega | (dsimp only; omega)) (by omega) ?_; simp only [go_sem]; (repeat' (first | refine fork_intro (fun hb => ?_) (fun hb => ?_) | refine partB_intro (fun hb => ?_) (fun hb => ?_) | refine And.intro ?_ ?_)); all_goals first | exact True.intro | omega | with_reducible rfl | exact congrArg (AV.int _) (by omega) | (first | rfl | rw [hsm])) | (first | rfl | rw [hsm])
            · rw [if_neg (fun hh => h1 hh.1)] at eg
              have hsm := hsm eg
              repeat' (first | refine fork_intro (fun hb => ?_) (fun hb => ?_) | refine partB_intro (fun hb => ?_) (fun hb => ?_) | refine And.intro ?_ ?_)
              all_goals first | exact True.intro | omega | with_reducible rfl | exact congrArg (AV.int _) (by omega) | (refine LoopEnd.intro (a + 1) (by first | omega) (by first | omega | (dsimp only; omega)) (by omega) ?_; simp only [go_sem]; (repeat' (first | refine fork_intro (fun hb => ?_) (fun hb => ?_) | refine partB_intro (fun hb => ?_) (fun hb => ?_) | refine And.intro ?_ ?_)); all_goals first | exact True.intro | omega | with_reducible rfl | exact congrArg (AV.int _) (by omega) | (first | rfl | rw [hsm])) | (first | rfl | rw [hsm])
          · have ea : a = o.length := by omega
            subst ea
            rw [show over (gti o d s) s.t o.length = gti o d s by rw [<- lt]; exact over_end _ _ (by omega)]
            refine loop_intro (fun i : Nat => [(85, .int .i64 i), (84, .int .i64 d.length), (10, .bool (decide (∃ k : Nat, k < i /\ ix (gsett o d s).w (k : Int) < 0))), (6, .bx 5 0), (5, .fn 115 [.iptr [.ints o, .rows d]]), (4, .bx 4 0), (3, .int .i64 d.length), (2, .bx 0 0), (1, .iptr [.ints o, .rows d])]) (fun i => [(0, .box [.nils, .nils, .nils]), (1, .arr (.ints (gpr d s))), (2, .arr (.ints (gti o d s))), (3, .arr (.ints (over (gsett o d s).w s.w i))), (4, .box [.sl 1, .sl 2, .sl 3]), (5, .box [.int .i64 s.now])]) 6 (fun i => i <= d.length) (fun i => d.length - i) 0 (Nat.zero_le _) (by omega) ?_ ?_
            · simp only [go_sem]
              repeat' (first | refine fork_intro (fun hb => ?_) (fun hb => ?_) | refine partB_intro (fun hb => ?_) (fun hb => ?_) | refine And.intro ?_ ?_)
              all_goals first | exact True.intro | omega | with_reducible rfl | exact congrArg (AV.int _) (by omega) | (first | rfl | simp [over_zero])
            · intro i hi
              simp only [go_sem]
              refine fork_intro (fun hc => ?_) (fun hc => ?_)
              · have hid : i < d.length := by omega
                have hol := over_len (gsett o d s).w s.w (k := i) (by omega) (by omega)
                have hix := over_ix (gsett o d s).w s.w (k := i) (by omega) (by omega)
                have hst := over_set (gsett o d s).w s.w (k := i) (by omega) (by omega)
                have hsm := over_same (ys := (gsett o d s).w) (xs := s.w) (k := i) (by omega) (by omega)
                have hol2 := over_len (gsett o d s).w s.w (k := i + 1) (by omega) (by omega)
                have ew := set_w (o := o) (s := s) hid
                have hws := h.ws i hid
                have eg := gpr_ix (s := s) hid
                have hbs : (∃ k : Nat, k < i + 1 /\ ix (gsett o d s).w (k : Int) < 0) ↔ (∃ k : Nat, k < i /\ ix (gsett o d s).w (k : Int) < 0) \/ ix (gsett o d s).w (i : Int) < 0 := by
                  constructor
                  · rintro ⟨k, h1, h2⟩
                    by_cases e : k = i
                    · subst e; exact .inr h2
                    · exact .inl ⟨k, by omega, h2⟩
                  · rintro (⟨k, h1, h2⟩ | h1)
                    · exact ⟨k, by omega, h2⟩
                    · exact ⟨i, by omega, h1⟩
                have hbn : ¬ (∃ k : Nat, k < i /\ ix (gsett o d s).w (k : Int) < 0) -> ((∃ k : Nat, k < i + 1 /\ ix (gsett o d s).w (k : Int) < 0) ↔ ix (gsett o d s).w (i : Int) < 0) := fun hg => by
                  rw [hbs]; exact ⟨fun h => h.elim (fun h => (hg h).elim) id, .inr⟩
                by_cases hw : ix s.w (i : Int) < 0
                · rw [if_pos hw] at eg ew
                  have hse := set_self (xs := over (gsett o d s).w s.w i) (k := i) (by omega)
                  rw [hix] at hse
                  refine loop_intro (fun a : Nat => [(91, .int .i64 a), (90, .int .i64 o.length), (89, .sl 2), (11, .int .i64 i), (85, .int .i64 i), (84, .int .i64 d.length), (10, .bool (decide (∃ k : Nat, k < i /\ ix (gsett o d s).w (k : Int) < 0))), (6, .bx 5 0), (5, .fn 115 [.iptr [.ints o, .rows d]]), (4, .bx 4 0), (3, .int .i64 d.length), (2, .bx 0 0), (1, .iptr [.ints o, .rows d])]) (fun a => [(0, .box [.nils, .nils, .nils]), (1, .arr (.ints (gpr d s))), (2, .arr (.ints (gti o d s))), (3, .arr (.ints ((over (gsett o d s).w s.w i).set i (witF s.now (gti o d s) (ix d (i : Int)) a)))), (4, .box [.sl 1, .sl 2, .sl 3]), (5, .box [.int .i64 s.now])]) 6 (fun a => a <= o.length) (fun a => o.length - a) 0 (Nat.zero_le _) (by omega) ?_ ?_
                  · have e0 : (over (gsett o d s).w s.w i).set i (witF s.now (gti o d s) (ix d (i : Int)) 0) = over (gsett o d s).w s.w i := by
                      rw [show witF s.now (gti o d s) (ix d (i : Int)) 0 = ix s.w (i : Int) by show (-1 : Int) = _; omega]; exact hse
                    simp only [go_sem]
                    repeat' (first | refine fork_intro (fun hb => ?_) (fun hb => ?_) | refine partB_intro (fun hb => ?_) (fun hb => ?_) | refine And.intro ?_ ?_)
                    all_goals first | exact True.intro | omega | with_reducible rfl | exact congrArg (AV.int _) (by omega) | (first | rfl | rw [e0] | rw [lgt])
                  · intro a ha
                    have hwa := witF_bd s.now (gti o d s) (ix d (i : Int)) a
                    have e : witF s.now (gti o d s) (ix d (i : Int)) (a + 1) = if (0 <= ix (gti o d s) (a : Int) /\ 2520 * ix (ix d (i : Int)) (a : Int) <= s.now) /\ (witF s.now (gti o d s) (ix d (i : Int)) a < 0 \/ ix (gti o d s) (a : Int) < ix (gti o d s) (witF s.now (gti o d s) (ix d (i : Int)) a)) then (a : Int) else witF s.now (gti o d s) (ix d (i : Int)) a := rfl
                    have hsi := ix_setv (xs := over (gsett o d s).w s.w i) (k := i) (v := witF s.now (gti o d s) (ix d (i : Int)) a) (by omega)
                    have hsl : ((over (gsett o d s).w s.w i).set i (witF s.now (gti o d s) (ix d (i : Int)) a)).length = s.w.length := by rw [List.length_set, hol]
                    have hss := fun v : Int => List.set_set (l := over (gsett o d s).w s.w i) (i := i) (a := witF s.now (gti o d s) (ix d (i : Int)) a) (b := v)
                    simp only [go_sem]
                    simp only [hsi, hss, eg]
                    refine fork_intro (fun hd => ?_) (fun hd => ?_)
                    · have hde := h.ent hid (show a < o.length by omega)
                      refine ⟨by omega, by omega, by omega, fork_intro (fun _ => fork_intro (fun h1 => ?_) (fun h1 => ?_)) (fun hh => (hh trivial).elim)⟩
                      · refine ⟨⟨hp, by omega, by omega⟩, fork_intro (fun h2 => fork_intro (fun h3 => ?_) (fun h3 => ?_)) (fun h2 => ?_)⟩
                        · rw [if_pos ⟨⟨h1, h2⟩, .inl h3⟩] at e
                          repeat' (first | refine fork_intro (fun hb => ?_) (fun hb => ?_) | refine partB_intro (fun hb => ?_) (fun hb => ?_) | refine And.intro ?_ ?_)
                          all_goals first | exact True.intro | omega | with_reducible rfl | exact congrArg (AV.int _) (by omega) | (refine LoopEnd.intro (a + 1) (by first | omega) (by first | omega | (dsimp only; omega)) (by omega) ?_; simp only [go_sem]; (repeat' (first | refine fork_intro (fun hb => ?_) (fun hb => ?_) | refine partB_intro (fun hb => ?_) (fun hb => ?_) | refine And.intro ?_ ?_)); all_goals first | exact True.intro | omega | with_reducible rfl | exact congrArg (AV.int _) (by omega) | (first | rfl | rw [e])) | (first | rfl | rw [e])
                        · refine ⟨by omega, fork_intro (fun h4 => ?_) (fun h4 => ?_)⟩
                          · rw [if_pos ⟨⟨h1, h2⟩, .inr (by omega)⟩] at e
                            repeat' (first | refine fork_intro (fun hb => ?_) (fun hb => ?_) | refine partB_intro (fun hb => ?_) (fun hb => ?_) | refine And.intro ?_ ?_)
                            all_goals first | exact True.intro | omega | with_reducible rfl | exact congrArg (AV.int _) (by omega) | (refine LoopEnd.intro (a + 1) (by first | omega) (by first | omega | (dsimp only; omega)) (by omega) ?_; simp only [go_sem]; (repeat' (first | refine fork_intro (fun hb => ?_) (fun hb => ?_) | refine partB_intro (fun hb => ?_) (fun hb => ?_) | refine And.intro ?_ ?_)); all_goals first | exact True.intro | omega | with_reducible rfl | exact congrArg (AV.int _) (by omega) | (first | rfl | rw [e])) | (first | rfl | rw [e])
                          · rw [if_neg (fun hh => by omega)] at e
                            repeat' (first | refine fork_intro (fun hb => ?_) (fun hb => ?_) | refine partB_intro (fun hb => ?_) (fun hb => ?_) | refine And.intro ?_ ?_)
                            all_goals first | exact True.intro | omega | with_reducible rfl | exact congrArg (AV.int _) (by omega) | (refine LoopEnd.intro (a + 1) (by first | omega) (by first | omega | (dsimp only; omega)) (by omega) ?_; simp only [go_sem]; (repeat' (first | refine fork_intro (fun hb => ?_) (fun hb => ?_) | refine partB_intro (fun hb => ?_) (fun hb => ?_) | refine And.intro ?_ ?_)); all_goals first | exact True.intro | omega | with_reducible rfl | exact congrArg (AV.int _) (by omega) | (first | rfl | rw [e])) | (first | rfl | rw [e])
                        · rw [if_neg (fun hh => h2 hh.1.2)] at e
                          repeat' (first | refine fork_intro (fun hb => ?_) (fun hb => ?_) | refine partB_intro (fun hb => ?_) (fun hb => ?_) | refine And.intro ?_ ?_)
                          all_goals first | exact True.intro | omega | with_reducible rfl | exact congrArg (AV.int _) (by omega) | (refine LoopEnd.intro (a + 1) (by first | omega) (by first | omega | (dsimp only; omega)) (by omega) ?_; simp only [go_sem]; (repeat' (first | refine fork_intro (fun hb => ?_) (fun hb => ?_) | refine partB_intro (fun hb => ?_) (fun hb => ?_) | refine And.intro ?_ ?_)); all_goals first | exact True.intro | omega | with_reducible rfl | exact congrArg (AV.int _) (by omega) | (first | rfl | rw [e])) | (first | rfl | rw [e])
                      · rw [if_neg (fun hh => h1 hh.1.1)] at e
                        repeat' (first | refine fork_intro (fun hb => ?_) (fun hb => ?_) | refine partB_intro (fun hb => ?_) (fun hb => ?_) | refine And.intro ?_ ?_)
                        all_goals first | exact True.intro | omega | with_reducible rfl | exact congrArg (AV.int _) (by omega) | (refine LoopEnd.intro (a + 1) (by first | omega) (by first | omega | (dsimp only; omega)) (by omega) ?_; simp only [go_sem]; (repeat' (first | refine fork_intro (fun hb => ?_) (fun hb => ?_) | refine partB_intro (fun hb => ?_) (fun hb => ?_) | refine And.intro ?_ ?_)); all_goals first | exact True.intro | omega | with_reducible rfl | exact congrArg (AV.int _) (by omega) | (first | rfl | rw [e])) | (first | rfl | rw [e])
                    · have ea : a = o.length := by omega
                      subst ea
                      have ewt : witF s.now (gti o d s) (ix d (i : Int)) o.length = wit o d s i := rfl
                      rw [ewt, <- ew, hst]
                      refine fork_intro (fun hg => ?_) (fun hg => ?_)
                      · have hg1 := decide_eq_true (hbs.2 (.inl hg))
                        repeat' (first | refine fork_intro (fun hb => ?_) (fun hb => ?_) | refine partB_intro (fun hb => ?_) (fun hb => ?_) | refine And.intro ?_ ?_)
                        all_goals first | exact True.intro | omega | with_reducible rfl | exact congrArg (AV.int _) (by omega) | (refine LoopEnd.intro (i + 1) (by first | omega) (by first | omega | (dsimp only; omega)) (by omega) ?_; simp only [go_sem]; (repeat' (first | refine fork_intro (fun hb => ?_) (fun hb => ?_) | refine partB_intro (fun hb => ?_) (fun hb => ?_) | refine And.intro ?_ ?_)); all_goals first | exact True.intro | omega | with_reducible rfl | exact congrArg (AV.int _) (by omega) | (first | rfl | rw [hg1])) | (first | rfl | rw [hg1])
                      · have hg2 := (hbn hg).symm
                        repeat' (first | refine fork_intro (fun hb => ?_) (fun hb => ?_) | refine partB_intro (fun hb => ?_) (fun hb => ?_) | refine And.intro ?_ ?_)
                        all_goals first | exact True.intro | omega | with_reducible rfl | exact congrArg (AV.int _) (by omega) | (refine LoopEnd.intro (i + 1) (by first | omega) (by first | omega | (dsimp only; omega)) (by omega) ?_; simp only [go_sem]; (repeat' (first | refine fork_intro (fun hb => ?_) (fun hb => ?_) | refine partB_intro (fun hb => ?_) (fun hb => ?_) | refine And.intro ?_ ?_)); all_goals first | exact True.intro | omega | with_reducible rfl | exact congrArg (AV.int _) (by omega) | (first | rfl | exact congrArg AV.bool (decide_eq_decide.2 hg2))) | (first | rfl | exact congrArg AV.bool (decide_eq_decide.2 hg2))
                · rw [if_neg hw] at eg ew
                  have hsp := h.ps i hid (by omega)
                  have hsm := hsm ew
                  refine loop_intro (fun a : Nat => [(91, .int .i64 a), (90, .int .i64 o.length), (89, .sl 2), (11, .int .i64 i), (85, .int .i64 i), (84, .int .i64 d.length), (10, .bool (decide (∃ k : Nat, k < i /\ ix (gsett o d s).w (k : Int) < 0))), (6, .bx 5 0), (5, .fn 115 [.iptr [.ints o, .rows d]]), (4, .bx 4 0), (3, .int .i64 d.length), (2, .bx 0 0), (1, .iptr [.ints o, .rows d])]) (fun a => [(0, .box [.nils, .nils, .nils]), (1, .arr (.ints (gpr d s))), (2, .arr (.ints (gti o d s))), (3, .arr (.ints (over (gsett o d s).w s.w i))), (4, .box [.sl 1, .sl 2, .sl 3]), (5, .box [.int .i64 s.now])]) 6 (fun a => a <= o.length) (fun a => o.length - a) 0 (Nat.zero_le _) (by omega) ?_ ?_
                  · simp only [go_sem]
                    repeat' (first | refine fork_intro (fun hb => ?_) (fun hb => ?_) | refine partB_intro (fun hb => ?_) (fun hb => ?_) | refine And.intro ?_ ?_)
                    all_goals first | exact True.intro | omega | with_reducible rfl | exact congrArg (AV.int _) (by omega) | (first | rfl | rw [lgt])
                  · intro a ha
                    simp only [go_sem]
                    simp only [hix, eg]
                    refine fork_intro (fun hd => ?_) (fun hd => ?_)
                    · refine ⟨by omega, by omega, by omega, fork_intro (fun hh => by omega) (fun _ => ?_)⟩
                      repeat' (first | refine fork_intro (fun hb => ?_) (fun hb => ?_) | refine partB_intro (fun hb => ?_) (fun hb => ?_) | refine And.intro ?_ ?_)
                      all_goals first | exact True.intro | omega | with_reducible rfl | exact congrArg (AV.int _) (by omega) | (refine LoopEnd.intro (a + 1) (by first | omega) (by first | omega | (dsimp only; omega)) (by omega) ?_; simp only [go_sem]; (repeat' (first | refine fork_intro (fun hb => ?_) (fun hb => ?_) | refine partB_intro (fun hb => ?_) (fun hb => ?_) | refine And.intro ?_ ?_)); all_goals first | exact True.intro | omega | with_reducible rfl | exact congrArg (AV.int _) (by omega) | (first | rfl)) | (first | rfl)
                    · refine fork_intro (fun hg => ?_) (fun hg => ?_)
                      · have hg1 := decide_eq_true (hbs.2 (.inl hg))
                        repeat' (first | refine fork_intro (fun hb => ?_) (fun hb => ?_) | refine partB_intro (fun hb => ?_) (fun hb => ?_) | refine And.intro ?_ ?_)
                        all_goals first | exact True.intro | omega | with_reducible rfl | exact congrArg (AV.int _) (by omega) | (refine LoopEnd.intro (i + 1) (by first | omega) (by first | omega | (dsimp only; omega)) (by omega) ?_; simp only [go_sem]; (repeat' (first | refine fork_intro (fun hb => ?_) (fun hb => ?_) | refine partB_intro (fun hb => ?_) (fun hb => ?_) | refine And.intro ?_ ?_)); all_goals first | exact True.intro | omega | with_reducible rfl | exact congrArg (AV.int _) (by omega) | (first | rfl | rw [hg1] | rw [hsm])) | (first | rfl | rw [hg1] | rw [hsm])
                      · have hg2 := (hbn hg).symm
                        rw [ew] at hg2
                        repeat' (first | refine fork_intro (fun hb => ?_) (fun hb => ?_) | refine partB_intro (fun hb => ?_) (fun hb => ?_) | refine And.intro ?_ ?_)
                        all_goals first | exact True.intro | omega | with_reducible rfl | exact congrArg (AV.int _) (by omega) | (refine LoopEnd.intro (i + 1) (by first | omega) (by first | omega | (dsimp only; omega)) (by omega) ?_; simp only [go_sem]; (repeat' (first | refine fork_intro (fun hb => ?_) (fun hb => ?_) | refine partB_intro (fun hb => ?_) (fun hb => ?_) | refine And.intro ?_ ?_)); all_goals first | exact True.intro | omega | with_reducible rfl | exact congrArg (AV.int _) (by omega) | (first | rfl | rw [hsm] | exact congrArg AV.bool (decide_eq_decide.2 hg2))) | (first | rfl | rw [hsm] | exact congrArg AV.bool (decide_eq_decide.2 hg2))
              · have ei : i = d.length := by omega
                subst ei
                rw [show over (gsett o d s).w s.w d.length = (gsett o d s).w by rw [<- lw]; exact over_end _ _ (by omega)]
                have hal : (clms d (gpr d s) 2520 o.length).length = o.length := tab_len _ _
                refine fork_intro (fun hmv => ?_) (fun hmv => ?_)
                · have hmv : movingP d (gsett o d s) := hmv
                  refine ⟨h.clm, ?_⟩
                  have hstep := h.step_is
                  have hcb := fun {k i : Nat} (h1 : k <= o.length) (h2 : k < o.length \/ i = 0) (h3 : i <= d.length) {c : Int} hc => h.candI_bd (k := k) (i := i) h1 h2 h3 (c := c) hc
                  have hquo := fun {a : Nat} (ha : a < o.length) ht hs => h.quo (a := a) ha ht hs
                  have et : (gsett o d s).t = gti o d s := rfl
                  have enow : (gsett o d s).now = s.now := rfl
                  have hs7 := gsp7 hm (gsett o d s)
                  refine loop_intro (fun g : Nat × Int => [(160, .int .i64 g.1), (159, .int .i64 o.length), (17, .ints (clms d (gpr d s) 2520 o.length)), (16, .fn 116 [.bx 5 0, .bx 6 0]), (15, .bx 6 0), (6, .bx 5 0), (5, .fn 115 [.iptr [.ints o, .rows d]]), (4, .bx 4 0), (3, .int .i64 d.length), (2, .bx 0 0), (1, .iptr [.ints o, .rows d])]) (fun g => [(0, .box [.nils, .nils, .nils]), (1, .arr (.ints (gpr d s))), (2, .arr (.ints (gti o d s))), (3, .arr (.ints ((gsett o d s).w))), (4, .box [.sl 1, .sl 2, .sl 3]), (5, .box [.int .i64 s.now]), (6, .box [.int .i64 g.2])]) 7 (fun g => g.1 <= o.length /\ IsMn g.2 (candI o d (gsett o d s) g.1 0)) (fun g => o.length - g.1) (0, -1) ⟨Nat.zero_le _, .inl ⟨rfl, fun c => candI_zero _ c⟩⟩ (by omega) ?_ ?_
                  · simp only [go_sem]
                    repeat' (first | refine fork_intro (fun hb => ?_) (fun hb => ?_) | refine partB_intro (fun hb => ?_) (fun hb => ?_) | refine And.intro ?_ ?_)
                    all_goals first | exact True.intro | omega | with_reducible rfl | exact congrArg (AV.int _) (by omega) | (first | rfl)
                  · rintro ⟨a, x⟩ ⟨ha, hx⟩
                    simp only at ha hx
                    simp only [go_sem]
                    refine fork_intro (fun hd => ?_) (fun hd => ?_)
                    · have hao : a < o.length := by omega
                      refine loop_intro (fun g : Nat × Int => [(164, .int .i64 g.1), (163, .int .i64 d.length), (19, .int .i64 (cN (gspB d (gsett o d s) a) g.1 : Nat)), (18, .int .i64 a), (160, .int .i64 a), (159, .int .i64 o.length), (17, .ints (clms d (gpr d s) 2520 o.length)), (16, .fn 116 [.bx 5 0, .bx 6 0]), (15, .bx 6 0), (6, .bx 5 0), (5, .fn 115 [.iptr [.ints o, .rows d]]), (4, .bx 4 0), (3, .int .i64 d.length), (2, .bx 0 0), (1, .iptr [.ints o, .rows d])]) (fun g => [(0, .box [.nils, .nils, .nils]), (1, .arr (.ints (gpr d s))), (2, .arr (.ints (gti o d s))), (3, .arr (.ints ((gsett o d s).w))), (4, .box [.sl 1, .sl 2, .sl 3]), (5, .box [.int .i64 s.now]), (6, .box [.int .i64 g.2])]) 7 (fun g => g.1 <= d.length /\ IsMn g.2 (candI o d (gsett o d s) a g.1)) (fun g => d.length - g.1) (0, x) ⟨Nat.zero_le _, hx⟩ (by omega) ?_ ?_
                      · simp only [go_sem]
                        repeat' (first | refine fork_intro (fun hb => ?_) (fun hb => ?_) | refine partB_intro (fun hb => ?_) (fun hb => ?_) | refine And.intro ?_ ?_)
                        all_goals first | exact True.intro | omega | with_reducible rfl | exact congrArg (AV.int _) (by omega) | (first | rfl)
                      · rintro ⟨i, y⟩ ⟨hi, hy⟩
                        simp only at hi hy
                        simp only [go_sem]
                        refine fork_intro (fun hf2 => ?_) (fun hf2 => ?_)
                        · have hid : i < d.length := by omega
                          have ecn : cN (gspB d (gsett o d s) a) (i + 1) = cN (gspB d (gsett o d s) a) i + (if gspB d (gsett o d s) a i = true then 1 else 0) := rfl
                          have hcl := cN_le (gspB d (gsett o d s) a) i
                          have hde := h.ent hid hao
                          have eB : gspB d (gsett o d s) a i = decide (ix (gsett o d s).w (i : Int) < 0 /\ 2520 * ix (ix d (i : Int)) (a : Int) <= s.now) := rfl
                          refine ⟨by omega, fork_intro (fun h1 => ?_) (fun h1 => ?_)⟩
                          · rw [eB, decide_eq_false (fun hh => by omega), if_neg (by decide)] at ecn
                            have hz := hy.congr (candI_no (t := gsett o d s) (k := a) (i := i) (fun hh => by omega))
                            repeat' (first | refine fork_intro (fun hb => ?_) (fun hb => ?_) | refine partB_intro (fun hb => ?_) (fun hb => ?_) | refine And.intro ?_ ?_)
                            all_goals first | exact True.intro | omega | with_reducible rfl | exact congrArg (AV.int _) (by omega) | (refine LoopEnd.intro ((i + 1, y)) (by first | omega | (first | exact ⟨by omega, hz⟩)) (by first | omega | (dsimp only; omega)) (by omega) ?_; simp only [go_sem]; (repeat' (first | refine fork_intro (fun hb => ?_) (fun hb => ?_) | refine partB_intro (fun hb => ?_) (fun hb => ?_) | refine And.intro ?_ ?_)); all_goals first | exact True.intro | omega | with_reducible rfl | exact congrArg (AV.int _) (by omega) | (first | rfl | (rw [ecn]; rfl))) | (first | rfl | (rw [ecn]; rfl))
                          · refine ⟨⟨hp, by omega, by omega⟩, ⟨hp, by omega, by omega⟩, fork_intro (fun h2 => ?_) (fun h2 => ?_)⟩
                            · rw [eB, decide_eq_true ⟨by omega, h2⟩, if_pos rfl] at ecn
                              have hz := hy.congr (candI_no (t := gsett o d s) (k := a) (i := i) (fun hh => by omega))
                              rw [if_neg (show ¬ s.now < 2520 * ix (ix d (i : Int)) (a : Int) by omega)]
                              repeat' (first | refine fork_intro (fun hb => ?_) (fun hb => ?_) | refine partB_intro (fun hb => ?_) (fun hb => ?_) | refine And.intro ?_ ?_)
                              all_goals first | exact True.intro | omega | with_reducible rfl | exact congrArg (AV.int _) (by omega) | (refine LoopEnd.intro ((i + 1, y)) (by first | omega | (first | exact ⟨by omega, hz⟩)) (by first | omega | (dsimp only; omega)) (by omega) ?_; simp only [go_sem]; (repeat' (first | refine fork_intro (fun hb => ?_) (fun hb => ?_) | refine partB_intro (fun hb => ?_) (fun hb => ?_) | refine And.intro ?_ ?_)); all_goals first | exact True.intro | omega | with_reducible rfl | exact congrArg (AV.int _) (by omega) | (first | rfl | (rw [ecn]; rfl))) | (first | rfl | (rw [ecn]; rfl))
                            · rw [eB, decide_eq_false (fun hh => h2 hh.2), if_neg (by decide)] at ecn
                              have hz := hy.upd (c := 2520 * ix (ix d (i : Int)) (a : Int)) (by omega) (candI_yes (t := gsett o d s) (k := a) (i := i) ⟨by omega, by omega⟩)
                              rw [if_pos (show s.now < 2520 * ix (ix d (i : Int)) (a : Int) by omega)]
                              repeat' (first | refine fork_intro (fun hb => ?_) (fun hb => ?_) | refine partB_intro (fun hb => ?_) (fun hb => ?_) | refine And.intro ?_ ?_)
                              all_goals first | exact True.intro | omega | with_reducible rfl | exact congrArg (AV.int _) (by omega) | (refine LoopEnd.intro ((i + 1, mnU y (2520 * ix (ix d (i : Int)) (a : Int)))) (by first | omega | (first | exact ⟨by omega, hz⟩)) (by first | omega | (dsimp only; omega)) (by omega) ?_; simp only [go_sem]; (repeat' (first | refine fork_intro (fun hb => ?_) (fun hb => ?_) | refine partB_intro (fun hb => ?_) (fun hb => ?_) | refine And.intro ?_ ?_)); all_goals first | exact True.intro | omega | with_reducible rfl | exact congrArg (AV.int _) (by omega) | (first | rfl | (rw [ecn]; rfl))) | (first | rfl | (rw [ecn]; rfl))
                        · have ei : i = d.length := by omega
                          subst ei
                          have hcg : ix (clms d (gpr d s) 2520 o.length) (a : Int) = gcl d s a := tab_ix hao
                          have hgb := gcl_bd h hao
                          have hob := h.opn hao
                          have em : cN (gspB d (gsett o d s) a) d.length = gsp d (gsett o d s) a := rfl
                          have h7 := hs7 a
                          have er : grest o d (gsett o d s) a = 2520 * ix o (a : Int) - gcl d s a := by rw [<- gcl_gsett (o := o)]; rfl
                          have hye := hy.le (by decide) (fun c hc => hcb ha (.inl hao) (Nat.le_refl _) hc)
                          simp only [em, hcg]
                          refine fork_intro (fun h1 => ⟨by omega, fork_intro (fun h2 => ?_) (fun h2 => ?_)⟩) (fun h1 => ?_)
                          · have hcd : ix (gsett o d s).t (a : Int) < 0 /\ 0 < gsp d (gsett o d s) a := ⟨h2, by omega⟩
                            obtain ⟨q, e1, e2, e3, _⟩ := hquo hao hcd.1 hcd.2
                            have hz := hy.upd (Q := candI o d (gsett o d s) (a + 1) 0) (c := s.now + q) (by omega) (fun c => by rw [candI_row_yes hcd c, e2, enow])
                            rw [er] at e1
                            have hce := ceil_exact (r := ix o (a : Int) * 2520 - gcl d s a) (q := q) hcd.2 (by omega) e3
                            have h5 := Int.mul_le_mul_of_nonneg_right (show (1 : Int) <= (gsp d (gsett o d s) a : Nat) by omega) (show 0 <= q by omega)
                            simp only [hce]
                            rw [if_pos (show s.now < s.now + q by omega)]
                            refine ⟨by omega, by omega, by omega, by omega, by omega, by omega, by omega, by omega, by omega, ?_⟩
                            repeat' (first | refine fork_intro (fun hb => ?_) (fun hb => ?_) | refine partB_intro (fun hb => ?_) (fun hb => ?_) | refine And.intro ?_ ?_)
                            all_goals first | exact True.intro | omega | with_reducible rfl | exact congrArg (AV.int _) (by omega) | (refine LoopEnd.intro ((a + 1, mnU y (s.now + q))) (by first | omega | (first | exact ⟨by omega, hz⟩)) (by first | omega | (dsimp only; omega)) (by omega) ?_; simp only [go_sem]; (repeat' (first | refine fork_intro (fun hb => ?_) (fun hb => ?_) | refine partB_intro (fun hb => ?_) (fun hb => ?_) | refine And.intro ?_ ?_)); all_goals first | exact True.intro | omega | with_reducible rfl | exact congrArg (AV.int _) (by omega) | (first | rfl)) | (first | rfl)
                          · have hz := hy.congr (candI_row_no (t := gsett o d s) (k := a) (fun hh => h2 hh.1))
                            repeat' (first | refine fork_intro (fun hb => ?_) (fun hb => ?_) | refine partB_intro (fun hb => ?_) (fun hb => ?_) | refine And.intro ?_ ?_)
                            all_goals first | exact True.intro | omega | with_reducible rfl | exact congrArg (AV.int _) (by omega) | (refine LoopEnd.intro ((a + 1, y)) (by first | omega | (first | exact ⟨by omega, hz⟩)) (by first | omega | (dsimp only; omega)) (by omega) ?_; simp only [go_sem]; (repeat' (first | refine fork_intro (fun hb => ?_) (fun hb => ?_) | refine partB_intro (fun hb => ?_) (fun hb => ?_) | refine And.intro ?_ ?_)); all_goals first | exact True.intro | omega | with_reducible rfl | exact congrArg (AV.int _) (by omega) | (first | rfl)) | (first | rfl)
                          · have hz := hy.congr (candI_row_no (t := gsett o d s) (k := a) (fun hh => by omega))
                            repeat' (first | refine fork_intro (fun hb => ?_) (fun hb => ?_) | refine partB_intro (fun hb => ?_) (fun hb => ?_) | refine And.intro ?_ ?_)
                            all_goals first | exact True.intro | omega | with_reducible rfl | exact congrArg (AV.int _) (by omega) | (refine LoopEnd.intro ((a + 1, y)) (by first | omega | (first | exact ⟨by omega, hz⟩)) (by first | omega | (dsimp only; omega)) (by omega) ?_; simp only [go_sem]; (repeat' (first | refine fork_intro (fun hb => ?_) (fun hb => ?_) | refine partB_intro (fun hb => ?_) (fun hb => ?_) | refine And.intro ?_ ?_)); all_goals first | exact True.intro | omega | with_reducible rfl | exact congrArg (AV.int _) (by omega) | (first | rfl)) | (first | rfl)
                    · have ea : a = o.length := by omega
                      subst ea
                      have hz := hx.congr (candI_all (t := gsett o d s))
                      have hxe := hz.unique hstep
                      obtain ⟨g1, g2⟩ := hs.next hmv
                      have gn := g1.1.n0
                      have enx : (adv o d (gsett o d s)).now = gstep o d (gsett o d s) := rfl
                      refine LoopEnd.intro (adv o d (gsett o d s), gpr d s) ⟨g1, lg, fun j hj hw => h.stop_p hj hw⟩ ?_ ?_ ?_
                      · simp only; omega
                      · omega
                      · subst hxe
                        simp only [go_sem]
                        repeat' (first | refine fork_intro (fun hb => ?_) (fun hb => ?_) | refine partB_intro (fun hb => ?_) (fun hb => ?_) | refine And.intro ?_ ?_)
                        all_goals rfl
                · have hmv : ¬ movingP d (gsett o d s) := hmv
                  have e := hs.done hmv
                  have e2 := h.stop_all hmv
                  rw [<- e, <- e2]
                  repeat' (first | refine fork_intro (fun hb => ?_) (fun hb => ?_) | refine partB_intro (fun hb => ?_) (fun hb => ?_) | refine And.intro ?_ ?_)
                  all_goals first | exact True.intro | omega | with_reducible rfl | exact congrArg (AV.int _) (by omega) | (first | rfl)
def t_growI : Table := [(52, ownC g_growI)]
theorem t_growI_ok : TabOK Tryz.prog t_growI := .cons Tryz.func52 (by kernel_rfl) (.own (by intro args hp; unfold g_growI at hp ⊢; split at hp <;> first | exact hp.elim | exact ⟨growI_ok _ _ hp, rfl⟩)) (.nil _)
attribute [go_sem] g_growI_eq t_growI
end Go.Proofs.YteefjdbdknkcjaaGreat
namespace Go.Proofs.YteefjdbdknkcjaaGreat
open Go.Vc
set_option maxRecDepth 100000
set_option linter.unusedSimpArgs false
set_option linter.unusedVariables false

def g_growthPricesS : List AV -> Prop × AV
  | [.agg [.ints o, .rows d]] => (o.length <= 1048576000 /\ d.length <= 1048576000 /\ ∀ x ∈ d, x.length <= 1048576000, .tup [.ints (bif good o d then (grown o d).p else []), .bool (good o d)])
  | _ => (False, .undef)
theorem g_growthPricesS_eq (o : List Int) (d : List (List Int)) : g_growthPricesS [.agg [.ints o, .rows d]] = (o.length <= 1048576000 /\ d.length <= 1048576000 /\ ∀ x ∈ d, x.length <= 1048576000, .tup [.ints (bif good o d then (grown o d).p else []), .bool (good o d)]) := (rfl)
theorem growthPricesS_ok (o : List Int) (d : List (List Int)) (hp : o.length <= 1048576000 /\ d.length <= 1048576000 /\ ∀ x ∈ d, x.length <= 1048576000) : SpecOK Tryz.prog 9 [.agg [.ints o, .rows d]] (.tup [.ints (bif good o d then (grown o d).p else []), .bool (good o d)]) [] := by
  refine fun_ok (C := t_l2Good ++ t_growS) (hint := hintX [] [] 0 [] [] [] []) ((t_l2Good_ok).append t_growS_ok) mixed Tryz.func9 rfl (by kernel_rfl) rfl ?_
  show codeA _ _ _ _ _ _ _ _
  simp only [go_sem, Tryz.results9]
  refine ⟨hp, partB_intro (fun hg => ?_) (fun hg => ?_)⟩
  · rw [hg]
    have hf := good_iff.1 hg
    have e := grown_stW hf
    repeat' (first | refine fork_intro (fun hb => ?_) (fun hb => ?_) | refine partB_intro (fun hb => ?_) (fun hb => ?_) | refine And.intro ?_ ?_)
    all_goals first | exact True.intro | omega | with_reducible rfl | exact congrArg (AV.int _) (by omega) | (first | exact hf | rfl | (rw [e]; rfl))
  · rw [hg]
    repeat' (first | refine fork_intro (fun hb => ?_) (fun hb => ?_) | refine partB_intro (fun hb => ?_) (fun hb => ?_) | refine And.intro ?_ ?_)
    all_goals first | exact True.intro | omega | with_reducible rfl | exact congrArg (AV.int _) (by omega) | (first | rfl)
def t_growthPricesS : Table := [(9, pureC g_growthPricesS)]
theorem t_growthPricesS_ok : TabOK Tryz.prog t_growthPricesS := .cons Tryz.func9 (by kernel_rfl) (.pure (by intro args hp; unfold g_growthPricesS at hp ⊢; split at hp <;> first | exact hp.elim | exact growthPricesS_ok _ _ hp)) (.nil _)
attribute [go_sem] g_growthPricesS_eq t_growthPricesS
def g_growthPricesI : List AV -> Prop × AV × Heap
  | [.agg [.ints o, .rows d]] => (o.length <= 1048576000 /\ d.length <= 1048576000 /\ ∀ x ∈ d, x.length <= 1048576000, .tup [.sl 0, .bool (good o d)], [(0, .arr (.ints (bif good o d then (grown o d).p else [])))])
  | _ => (False, .undef, [])
theorem g_growthPricesI_eq (o : List Int) (d : List (List Int)) : g_growthPricesI [.agg [.ints o, .rows d]] = (o.length <= 1048576000 /\ d.length <= 1048576000 /\ ∀ x ∈ d, x.length <= 1048576000, .tup [.sl 0, .bool (good o d)], [(0, .arr (.ints (bif good o d then (grown o d).p else [])))]) := (rfl)
theorem growthPricesI_ok (o : List Int) (d : List (List Int)) (hp : o.length <= 1048576000 /\ d.length <= 1048576000 /\ ∀ x ∈ d, x.length <= 1048576000) : SpecOK Tryz.prog 8 [.agg [.ints o, .rows d]] (.tup [.sl 0, .bool (good o d)]) [(0, .arr (.ints (bif good o d then (grown o d).p else [])))] := by
  refine fun_ok (C := t_isF ++ t_growI) (hint := hintX [8] [(2, [.post, .up 2 (.arr (.ints []))]), (3, [.post, .ren 2 0])] 0 [] [] [] []) ((t_isF_ok).append t_growI_ok) mixed Tryz.func8 rfl (by kernel_rfl) rfl ?_
  show codeA _ _ _ _ _ _ _ _
  simp only [go_sem, Tryz.results8]
  refine ⟨hp, partB_intro (fun hg => ?_) (fun hg => ?_)⟩
  · rw [hg]
    have hf := good_iff.1 hg
    repeat' (first | refine fork_intro (fun hb => ?_) (fun hb => ?_) | refine partB_intro (fun hb => ?_) (fun hb => ?_) | refine And.intro ?_ ?_)
    all_goals first | exact True.intro | omega | with_reducible rfl | exact congrArg (AV.int _) (by omega) | (first | exact hf | rfl)
  · rw [hg]
    repeat' (first | refine fork_intro (fun hb => ?_) (fun hb => ?_) | refine partB_intro (fun hb => ?_) (fun hb => ?_) | refine And.intro ?_ ?_)
    all_goals first | exact True.intro | omega | with_reducible rfl | exact congrArg (AV.int _) (by omega) | (first | rfl)
def t_growthPricesI : Table := [(8, ownC g_growthPricesI)]
theorem t_growthPricesI_ok : TabOK Tryz.prog t_growthPricesI := .cons Tryz.func8 (by kernel_rfl) (.own (by intro args hp; unfold g_growthPricesI at hp ⊢; split at hp <;> first | exact hp.elim | exact ⟨growthPricesI_ok _ _ hp, rfl⟩)) (.nil _)
attribute [go_sem] g_growthPricesI_eq t_growthPricesI
def g_tightTimesS : List AV -> Prop × AV
  | [.agg [.ints o, .rows d]] => (o.length <= 1048576000 /\ d.length <= 1048576000 /\ ∀ x ∈ d, x.length <= 1048576000, .tup [.ints (bif good o d then (grown o d).t else []), .bool (good o d)])
  | _ => (False, .undef)
theorem g_tightTimesS_eq (o : List Int) (d : List (List Int)) : g_tightTimesS [.agg [.ints o, .rows d]] = (o.length <= 1048576000 /\ d.length <= 1048576000 /\ ∀ x ∈ d, x.length <= 1048576000, .tup [.ints (bif good o d then (grown o d).t else []), .bool (good o d)]) := (rfl)
theorem tightTimesS_ok (o : List Int) (d : List (List Int)) (hp : o.length <= 1048576000 /\ d.length <= 1048576000 /\ ∀ x ∈ d, x.length <= 1048576000) : SpecOK Tryz.prog 11 [.agg [.ints o, .rows d]] (.tup [.ints (bif good o d then (grown o d).t else []), .bool (good o d)]) [] := by
  refine fun_ok (C := t_l2Good ++ t_growS) (hint := hintX [] [] 0 [] [] [] []) ((t_l2Good_ok).append t_growS_ok) mixed Tryz.func11 rfl (by kernel_rfl) rfl ?_
  show codeA _ _ _ _ _ _ _ _
  simp only [go_sem, Tryz.results11]
  refine ⟨hp, partB_intro (fun hg => ?_) (fun hg => ?_)⟩
  · rw [hg]
    have hf := good_iff.1 hg
    have e := grown_stW hf
    repeat' (first | refine fork_intro (fun hb => ?_) (fun hb => ?_) | refine partB_intro (fun hb => ?_) (fun hb => ?_) | refine And.intro ?_ ?_)
    all_goals first | exact True.intro | omega | with_reducible rfl | exact congrArg (AV.int _) (by omega) | (first | exact hf | rfl | (rw [e]; rfl))
  · rw [hg]
    repeat' (first | refine fork_intro (fun hb => ?_) (fun hb => ?_) | refine partB_intro (fun hb => ?_) (fun hb => ?_) | refine And.intro ?_ ?_)
    all_goals first | exact True.intro | omega | with_reducible rfl | exact congrArg (AV.int _) (by omega) | (first | rfl)
def t_tightTimesS : Table := [(11, pureC g_tightTimesS)]
theorem t_tightTimesS_ok : TabOK Tryz.prog t_tightTimesS := .cons Tryz.func11 (by kernel_rfl) (.pure (by intro args hp; unfold g_tightTimesS at hp ⊢; split at hp <;> first | exact hp.elim | exact tightTimesS_ok _ _ hp)) (.nil _)
attribute [go_sem] g_tightTimesS_eq t_tightTimesS
def g_tightTimesI : List AV -> Prop × AV × Heap
  | [.agg [.ints o, .rows d]] => (o.length <= 1048576000 /\ d.length <= 1048576000 /\ ∀ x ∈ d, x.length <= 1048576000, .tup [.sl 0, .bool (good o d)], [(0, .arr (.ints (bif good o d then (grown o d).t else [])))])
  | _ => (False, .undef, [])
theorem g_tightTimesI_eq (o : List Int) (d : List (List Int)) : g_tightTimesI [.agg [.ints o, .rows d]] = (o.length <= 1048576000 /\ d.length <= 1048576000 /\ ∀ x ∈ d, x.length <= 1048576000, .tup [.sl 0, .bool (good o d)], [(0, .arr (.ints (bif good o d then (grown o d).t else [])))]) := (rfl)
theorem tightTimesI_ok (o : List Int) (d : List (List Int)) (hp : o.length <= 1048576000 /\ d.length <= 1048576000 /\ ∀ x ∈ d, x.length <= 1048576000) : SpecOK Tryz.prog 10 [.agg [.ints o, .rows d]] (.tup [.sl 0, .bool (good o d)]) [(0, .arr (.ints (bif good o d then (grown o d).t else [])))] := by
  refine fun_ok (C := t_isF ++ t_growI) (hint := hintX [8] [(2, [.post, .up 2 (.arr (.ints []))]), (3, [.post, .ren 2 0])] 0 [] [] [] []) ((t_isF_ok).append t_growI_ok) mixed Tryz.func10 rfl (by kernel_rfl) rfl ?_
  show codeA _ _ _ _ _ _ _ _
  simp only [go_sem, Tryz.results10]
  refine ⟨hp, partB_intro (fun hg => ?_) (fun hg => ?_)⟩
  · rw [hg]
    have hf := good_iff.1 hg
    repeat' (first | refine fork_intro (fun hb => ?_) (fun hb => ?_) | refine partB_intro (fun hb => ?_) (fun hb => ?_) | refine And.intro ?_ ?_)
    all_goals first | exact True.intro | omega | with_reducible rfl | exact congrArg (AV.int _) (by omega) | (first | exact hf | rfl)
  · rw [hg]
    repeat' (first | refine fork_intro (fun hb => ?_) (fun hb => ?_) | refine partB_intro (fun hb => ?_) (fun hb => ?_) | refine And.intro ?_ ?_)
    all_goals first | exact True.intro | omega | with_reducible rfl | exact congrArg (AV.int _) (by omega) | (first | rfl)
def t_tightTimesI : Table := [(10, ownC g_tightTimesI)]
theorem t_tightTimesI_ok : TabOK Tryz.prog t_tightTimesI := .cons Tryz.func10 (by kernel_rfl) (.own (by intro args hp; unfold g_tightTimesI at hp ⊢; split at hp <;> first | exact hp.elim | exact ⟨tightTimesI_ok _ _ hp, rfl⟩)) (.nil _)
attribute [go_sem] g_tightTimesI_eq t_tightTimesI
def g_witnessesOfS : List AV -> Prop × AV
  | [.agg [.ints o, .rows d]] => (o.length <= 1048576000 /\ d.length <= 1048576000 /\ ∀ x ∈ d, x.length <= 1048576000, .tup [.ints (bif good o d then (grown o d).w else []), .bool (good o d)])
  | _ => (False, .undef)
theorem g_witnessesOfS_eq (o : List Int) (d : List (List Int)) : g_witnessesOfS [.agg [.ints o, .rows d]] = (o.length <= 1048576000 /\ d.length <= 1048576000 /\ ∀ x ∈ d, x.length <= 1048576000, .tup [.ints (bif good o d then (grown o d).w else []), .bool (good o d)]) := (rfl)
theorem witnessesOfS_ok (o : List Int) (d : List (List Int)) (hp : o.length <= 1048576000 /\ d.length <= 1048576000 /\ ∀ x ∈ d, x.length <= 1048576000) : SpecOK Tryz.prog 13 [.agg [.ints o, .rows d]] (.tup [.ints (bif good o d then (grown o d).w else []), .bool (good o d)]) [] := by
  refine fun_ok (C := t_l2Good ++ t_growS) (hint := hintX [] [] 0 [] [] [] []) ((t_l2Good_ok).append t_growS_ok) mixed Tryz.func13 rfl (by kernel_rfl) rfl ?_
  show codeA _ _ _ _ _ _ _ _
  simp only [go_sem, Tryz.results13]
  refine ⟨hp, partB_intro (fun hg => ?_) (fun hg => ?_)⟩
  · rw [hg]
    have hf := good_iff.1 hg
    have e := grown_stW hf
    repeat' (first | refine fork_intro (fun hb => ?_) (fun hb => ?_) | refine partB_intro (fun hb => ?_) (fun hb => ?_) | refine And.intro ?_ ?_)
    all_goals first | exact True.intro | omega | with_reducible rfl | exact congrArg (AV.int _) (by omega) | (first | exact hf | rfl | (rw [e]; rfl))
  · rw [hg]
    repeat' (first | refine fork_intro (fun hb => ?_) (fun hb => ?_) | refine partB_intro (fun hb => ?_) (fun hb => ?_) | refine And.intro ?_ ?_)
    all_goals first | exact True.intro | omega | with_reducible rfl | exact congrArg (AV.int _) (by omega) | (first | rfl)
def t_witnessesOfS : Table := [(13, pureC g_witnessesOfS)]
theorem t_witnessesOfS_ok : TabOK Tryz.prog t_witnessesOfS := .cons Tryz.func13 (by kernel_rfl) (.pure (by intro args hp; unfold g_witnessesOfS at hp ⊢; split at hp <;> first | exact hp.elim | exact witnessesOfS_ok _ _ hp)) (.nil _)
attribute [go_sem] g_witnessesOfS_eq t_witnessesOfS
def g_witnessesOfI : List AV -> Prop × AV × Heap
  | [.agg [.ints o, .rows d]] => (o.length <= 1048576000 /\ d.length <= 1048576000 /\ ∀ x ∈ d, x.length <= 1048576000, .tup [.sl 0, .bool (good o d)], [(0, .arr (.ints (bif good o d then (grown o d).w else [])))])
  | _ => (False, .undef, [])
theorem g_witnessesOfI_eq (o : List Int) (d : List (List Int)) : g_witnessesOfI [.agg [.ints o, .rows d]] = (o.length <= 1048576000 /\ d.length <= 1048576000 /\ ∀ x ∈ d, x.length <= 1048576000, .tup [.sl 0, .bool (good o d)], [(0, .arr (.ints (bif good o d then (grown o d).w else [])))]) := (rfl)
theorem witnessesOfI_ok (o : List Int) (d : List (List Int)) (hp : o.length <= 1048576000 /\ d.length <= 1048576000 /\ ∀ x ∈ d, x.length <= 1048576000) : SpecOK Tryz.prog 12 [.agg [.ints o, .rows d]] (.tup [.sl 0, .bool (good o d)]) [(0, .arr (.ints (bif good o d then (grown o d).w else [])))] := by
  refine fun_ok (C := t_isF ++ t_growI) (hint := hintX [8] [(2, [.post, .up 2 (.arr (.ints []))]), (3, [.post, .ren 2 0])] 0 [] [] [] []) ((t_isF_ok).append t_growI_ok) mixed Tryz.func12 rfl (by kernel_rfl) rfl ?_
  show codeA _ _ _ _ _ _ _ _
  simp only [go_sem, Tryz.results12]
  refine ⟨hp, partB_intro (fun hg => ?_) (fun hg => ?_)⟩
  · rw [hg]
    have hf := good_iff.1 hg
    repeat' (first | refine fork_intro (fun hb => ?_) (fun hb => ?_) | refine partB_intro (fun hb => ?_) (fun hb => ?_) | refine And.intro ?_ ?_)
    all_goals first | exact True.intro | omega | with_reducible rfl | exact congrArg (AV.int _) (by omega) | (first | exact hf | rfl)
  · rw [hg]
    repeat' (first | refine fork_intro (fun hb => ?_) (fun hb => ?_) | refine partB_intro (fun hb => ?_) (fun hb => ?_) | refine And.intro ?_ ?_)
    all_goals first | exact True.intro | omega | with_reducible rfl | exact congrArg (AV.int _) (by omega) | (first | rfl)
def t_witnessesOfI : Table := [(12, ownC g_witnessesOfI)]
theorem t_witnessesOfI_ok : TabOK Tryz.prog t_witnessesOfI := .cons Tryz.func12 (by kernel_rfl) (.own (by intro args hp; unfold g_witnessesOfI at hp ⊢; split at hp <;> first | exact hp.elim | exact ⟨witnessesOfI_ok _ _ hp, rfl⟩)) (.nil _)
attribute [go_sem] g_witnessesOfI_eq t_witnessesOfI
end Go.Proofs.YteefjdbdknkcjaaGreat
namespace Go.Proofs.YteefjdbdknkcjaaGreat
open Go.Vc Go.RowKit
set_option maxRecDepth 100000
set_option linter.unusedSimpArgs false
set_option linter.unusedVariables false

end Go.Proofs.YteefjdbdknkcjaaGreat
namespace Go.Proofs.YteefjdbdknkcjaaGreat
open Go.Vc
set_option maxRecDepth 100000
set_option linter.unusedSimpArgs false
set_option linter.unusedVariables false

end Go.Proofs.YteefjdbdknkcjaaGreat
namespace Go.Proofs.YteefjdbdknkcjaaGreat
open Go.Vc
set_option maxRecDepth 100000
set_option maxHeartbeats 1600000
set_option linter.unusedSimpArgs false
set_option linter.unusedVariables false

def g_conflictS : List AV -> Prop × AV
  | [.agg [.ints o, .rows d], .agg [.int .i64 now, .ints p, .bools bs, .ints wt, .ints t], .int .i64 a, .int .i64 b] => ((FieldOK o d /\ p.length = d.length /\ t.length = o.length) /\ (0 <= a /\ a < o.length) /\ 0 <= b /\ b < o.length, .bool (cnfB d p t a b))
  | _ => (False, .undef)
theorem g_conflictS_eq (o : List Int) (d : List (List Int)) (now : Int) (p : List Int) (bs : List Bool) (wt t : List Int) (a b : Int) : g_conflictS [.agg [.ints o, .rows d], .agg [.int .i64 now, .ints p, .bools bs, .ints wt, .ints t], .int .i64 a, .int .i64 b] = ((FieldOK o d /\ p.length = d.length /\ t.length = o.length) /\ (0 <= a /\ a < o.length) /\ 0 <= b /\ b < o.length, .bool (cnfB d p t a b)) := (rfl)
theorem conflictS_ok (o : List Int) (d : List (List Int)) (now : Int) (p : List Int) (bs : List Bool) (wt t : List Int) (a b : Int) (hp : (FieldOK o d /\ p.length = d.length /\ t.length = o.length) /\ (0 <= a /\ a < o.length) /\ 0 <= b /\ b < o.length) : SpecOK Tryz.prog 56 [.agg [.ints o, .rows d], .agg [.int .i64 now, .ints p, .bools bs, .ints wt, .ints t], .int .i64 a, .int .i64 b] (.bool (cnfB d p t a b)) [] := by
  refine fun_ok (C := []) (hint := hintX [] [] 0 [] [] [] []) (TabOK.nil _) mixed Tryz.func56 rfl (by kernel_rfl) rfl ?_
  show codeA _ _ _ _ _ _ _ _
  simp only [go_sem, Tryz.results56]
  obtain ⟨⟨hf, lp, lt⟩, ⟨ha0, ha1⟩, hb0, hb1⟩ := hp
  have hm := hf.m7
  refine loop_intro (fun j : Nat => [(9, .int .i64 j), (2, .int .i64 a), (3, .int .i64 b), (4, .iptr [.ints o, .rows d]), (5, .iptr [.int .i64 now, .ints p, .bools bs, .ints wt, .ints t])]) (fun _ => []) 0 (fun j => j <= d.length /\ ∀ k : Nat, k < j -> ¬ (2520 * ix (ix d (k : Int)) a < ix p (k : Int) /\ 2520 * ix (ix d (k : Int)) b < ix p (k : Int))) (fun j => d.length - j) 0 ⟨Nat.zero_le _, fun k hk => by omega⟩ (by omega) ?_ ?_
  · simp only [go_sem]
    repeat' (first | refine fork_intro (fun hb => ?_) (fun hb => ?_) | refine partB_intro (fun hb => ?_) (fun hb => ?_) | refine And.intro ?_ ?_)
    all_goals first | exact True.intro | omega | with_reducible rfl | exact congrArg (AV.int _) (by omega) | (first | rfl)
  · rintro j ⟨hj, hn⟩
    simp only [go_sem]
    refine fork_intro (fun hc => ?_) (fun hc => ?_)
    · have hjd : j < d.length := by omega
      have hr := ix_mem d hjd
      have hl := hf.len _ hr
      have e1 := hf.d99 _ hr _ (ix_memI (ix d (j : Int)) ha0 (by omega))
      have e2 := hf.d99 _ hr _ (ix_memI (ix d (j : Int)) hb0 (by omega))
      have hnext : ¬ (2520 * ix (ix d (j : Int)) a < ix p (j : Int) /\ 2520 * ix (ix d (j : Int)) b < ix p (j : Int)) -> ∀ k : Nat, k < j + 1 -> ¬ (2520 * ix (ix d (k : Int)) a < ix p (k : Int) /\ 2520 * ix (ix d (k : Int)) b < ix p (k : Int)) := fun h k hk => by
        by_cases e : k = j
        · subst e; exact h
        · exact hn k (by omega)
      have hyes : 2520 * ix (ix d (j : Int)) a < ix p (j : Int) /\ 2520 * ix (ix d (j : Int)) b < ix p (j : Int) -> cnfX d p a b = true := fun h => decide_eq_true ⟨j, hjd, h⟩
      refine ⟨by omega, by omega, by omega, by omega, fork_intro (fun h1 => ⟨by omega, by omega, by omega, by omega, fork_intro (fun h2 => ?_) (fun h2 => ?_)⟩) (fun h1 => ?_)⟩
      · have hy := hyes ⟨h1, h2⟩
        have hcb : cnfB d p t a b = (decide (0 <= ix t a) && decide (0 <= ix t b)) := by unfold cnfB; rw [hy, Bool.and_true]
        refine ⟨by omega, fork_intro (fun h3 => ⟨by omega, ?_⟩) (fun h3 => ?_)⟩
        · rw [hcb, decide_eq_true h3, Bool.true_and]
        · rw [hcb, decide_eq_false h3, Bool.false_and]
      · have hz := hnext (fun hh => h2 hh.2)
        repeat' (first | refine fork_intro (fun hb => ?_) (fun hb => ?_) | refine partB_intro (fun hb => ?_) (fun hb => ?_) | refine And.intro ?_ ?_)
        all_goals first | exact True.intro | omega | with_reducible rfl | exact congrArg (AV.int _) (by omega) | (refine LoopEnd.intro (j + 1) (by first | omega | (first | exact ⟨by omega, hz⟩)) (by first | omega | (dsimp only; omega)) (by omega) ?_; simp only [go_sem]; (repeat' (first | refine fork_intro (fun hb => ?_) (fun hb => ?_) | refine partB_intro (fun hb => ?_) (fun hb => ?_) | refine And.intro ?_ ?_)); all_goals first | exact True.intro | omega | with_reducible rfl | exact congrArg (AV.int _) (by omega) | (first | rfl)) | (first | rfl)
      · have hz := hnext (fun hh => h1 hh.1)
        repeat' (first | refine fork_intro (fun hb => ?_) (fun hb => ?_) | refine partB_intro (fun hb => ?_) (fun hb => ?_) | refine And.intro ?_ ?_)
        all_goals first | exact True.intro | omega | with_reducible rfl | exact congrArg (AV.int _) (by omega) | (refine LoopEnd.intro (j + 1) (by first | omega | (first | exact ⟨by omega, hz⟩)) (by first | omega | (dsimp only; omega)) (by omega) ?_; simp only [go_sem]; (repeat' (first | refine fork_intro (fun hb => ?_) (fun hb => ?_) | refine partB_intro (fun hb => ?_) (fun hb => ?_) | refine And.intro ?_ ?_)); all_goals first | exact True.intro | omega | with_reducible rfl | exact congrArg (AV.int _) (by omega) | (first | rfl)) | (first | rfl)
    · have ej : j = d.length := by omega
      subst ej
      have e : cnfX d p a b = false := decide_eq_false (fun ⟨k, h1, h2⟩ => hn k h1 h2)
      unfold cnfB
      rw [e, Bool.and_false]
def t_conflictS : Table := [(56, pureC g_conflictS)]
theorem t_conflictS_ok : TabOK Tryz.prog t_conflictS := .cons Tryz.func56 (by kernel_rfl) (.pure (by intro args hp; unfold g_conflictS at hp ⊢; split at hp <;> first | exact hp.elim | exact conflictS_ok _ _ _ _ _ _ _ _ _ hp)) (.nil _)
attribute [go_sem] g_conflictS_eq t_conflictS
def g_conflictI : List AV -> Prop × AV
  | [.agg [.ints o, .rows d], .agg [.ints p, .ints t, .ints w], .int .i64 a, .int .i64 b] => ((FieldOK o d /\ p.length = d.length) /\ (0 <= a /\ a < o.length) /\ 0 <= b /\ b < o.length, .bool (cnfX d p a b))
  | _ => (False, .undef)
theorem g_conflictI_eq (o : List Int) (d : List (List Int)) (p t w : List Int) (a b : Int) : g_conflictI [.agg [.ints o, .rows d], .agg [.ints p, .ints t, .ints w], .int .i64 a, .int .i64 b] = ((FieldOK o d /\ p.length = d.length) /\ (0 <= a /\ a < o.length) /\ 0 <= b /\ b < o.length, .bool (cnfX d p a b)) := (rfl)
theorem conflictI_ok (o : List Int) (d : List (List Int)) (p t w : List Int) (a b : Int) (hp : (FieldOK o d /\ p.length = d.length) /\ (0 <= a /\ a < o.length) /\ 0 <= b /\ b < o.length) : SpecOK Tryz.prog 55 [.agg [.ints o, .rows d], .agg [.ints p, .ints t, .ints w], .int .i64 a, .int .i64 b] (.bool (cnfX d p a b)) [] := by
  refine fun_ok (C := []) (hint := hintX [] [] 0 [] [] [] []) (TabOK.nil _) mixed Tryz.func55 rfl (by kernel_rfl) rfl ?_
  show codeA _ _ _ _ _ _ _ _
  simp only [go_sem, Tryz.results55]
  obtain ⟨⟨hf, lp⟩, ⟨ha0, ha1⟩, hb0, hb1⟩ := hp
  have hm := hf.m7
  refine loop_intro (fun j : Nat => [(14, .int .i64 j), (13, .int .i64 d.length), (12, .rows d), (2, .int .i64 a), (3, .int .i64 b), (4, .iptr [.ints o, .rows d]), (5, .iptr [.ints p, .ints t, .ints w])]) (fun _ => []) 0 (fun j => j <= d.length /\ ∀ k : Nat, k < j -> ¬ (2520 * ix (ix d (k : Int)) a < ix p (k : Int) /\ 2520 * ix (ix d (k : Int)) b < ix p (k : Int))) (fun j => d.length - j) 0 ⟨Nat.zero_le _, fun k hk => by omega⟩ (by omega) ?_ ?_
  · simp only [go_sem]
    repeat' (first | refine fork_intro (fun hb => ?_) (fun hb => ?_) | refine partB_intro (fun hb => ?_) (fun hb => ?_) | refine And.intro ?_ ?_)
    all_goals first | exact True.intro | omega | with_reducible rfl | exact congrArg (AV.int _) (by omega) | (first | rfl)
  · rintro j ⟨hj, hn⟩
    simp only [go_sem]
    refine fork_intro (fun hc => ?_) (fun hc => ?_)
    · have hjd : j < d.length := by omega
      have hr := ix_mem d hjd
      have hl := hf.len _ hr
      have e1 := hf.d99 _ hr _ (ix_memI (ix d (j : Int)) ha0 (by omega))
      have e2 := hf.d99 _ hr _ (ix_memI (ix d (j : Int)) hb0 (by omega))
      have hnext : ¬ (2520 * ix (ix d (j : Int)) a < ix p (j : Int) /\ 2520 * ix (ix d (j : Int)) b < ix p (j : Int)) -> ∀ k : Nat, k < j + 1 -> ¬ (2520 * ix (ix d (k : Int)) a < ix p (k : Int) /\ 2520 * ix (ix d (k : Int)) b < ix p (k : Int)) := fun h k hk => by
        by_cases e : k = j
        · subst e; exact h
        · exact hn k (by omega)
      have hyes : 2520 * ix (ix d (j : Int)) a < ix p (j : Int) /\ 2520 * ix (ix d (j : Int)) b < ix p (j : Int) -> cnfX d p a b = true := fun h => decide_eq_true ⟨j, hjd, h⟩
      simp only [Int.mul_comm (ix (ix d (j : Int)) a) 2520, Int.mul_comm (ix (ix d (j : Int)) b) 2520]
      refine ⟨by omega, by omega, by omega, by omega, fork_intro (fun h1 => ⟨by omega, by omega, by omega, fork_intro (fun h2 => ?_) (fun h2 => ?_)⟩) (fun h1 => ?_)⟩
      · rw [hyes ⟨h1, h2⟩]
      · have hz := hnext (fun hh => h2 hh.2)
        repeat' (first | refine fork_intro (fun hb => ?_) (fun hb => ?_) | refine partB_intro (fun hb => ?_) (fun hb => ?_) | refine And.intro ?_ ?_)
        all_goals first | exact True.intro | omega | with_reducible rfl | exact congrArg (AV.int _) (by omega) | (refine LoopEnd.intro (j + 1) (by first | omega | (first | exact ⟨by omega, hz⟩)) (by first | omega | (dsimp only; omega)) (by omega) ?_; simp only [go_sem]; (repeat' (first | refine fork_intro (fun hb => ?_) (fun hb => ?_) | refine partB_intro (fun hb => ?_) (fun hb => ?_) | refine And.intro ?_ ?_)); all_goals first | exact True.intro | omega | with_reducible rfl | exact congrArg (AV.int _) (by omega) | (first | rfl)) | (first | rfl)
      · have hz := hnext (fun hh => h1 hh.1)
        repeat' (first | refine fork_intro (fun hb => ?_) (fun hb => ?_) | refine partB_intro (fun hb => ?_) (fun hb => ?_) | refine And.intro ?_ ?_)
        all_goals first | exact True.intro | omega | with_reducible rfl | exact congrArg (AV.int _) (by omega) | (refine LoopEnd.intro (j + 1) (by first | omega | (first | exact ⟨by omega, hz⟩)) (by first | omega | (dsimp only; omega)) (by omega) ?_; simp only [go_sem]; (repeat' (first | refine fork_intro (fun hb => ?_) (fun hb => ?_) | refine partB_intro (fun hb => ?_) (fun hb => ?_) | refine And.intro ?_ ?_)); all_goals first | exact True.intro | omega | with_reducible rfl | exact congrArg (AV.int _) (by omega) | (first | rfl)) | (first | rfl)
    · have ej : j = d.length := by omega
      subst ej
      have e : cnfX d p a b = false := decide_eq_false (fun ⟨k, h1, h2⟩ => hn k h1 h2)
      rw [e]
def t_conflictI : Table := [(55, pureC g_conflictI)]
theorem t_conflictI_ok : TabOK Tryz.prog t_conflictI := .cons Tryz.func55 (by kernel_rfl) (.pure (by intro args hp; unfold g_conflictI at hp ⊢; split at hp <;> first | exact hp.elim | exact conflictI_ok _ _ _ _ _ _ _ hp)) (.nil _)
attribute [go_sem] g_conflictI_eq t_conflictI
def g_conflictsOfS : List AV -> Prop × AV
  | [.agg [.ints o, .rows d]] => (o.length <= 1048576000 /\ d.length <= 1048576000 /\ ∀ x ∈ d, x.length <= 1048576000, .tup [.pairs (bif good o d then confL o d else []), .bool (good o d)])
  | _ => (False, .undef)
theorem g_conflictsOfS_eq (o : List Int) (d : List (List Int)) : g_conflictsOfS [.agg [.ints o, .rows d]] = (o.length <= 1048576000 /\ d.length <= 1048576000 /\ ∀ x ∈ d, x.length <= 1048576000, .tup [.pairs (bif good o d then confL o d else []), .bool (good o d)]) := (rfl)
theorem conflictsOfS_ok (o : List Int) (d : List (List Int)) (hp : o.length <= 1048576000 /\ d.length <= 1048576000 /\ ∀ x ∈ d, x.length <= 1048576000) : SpecOK Tryz.prog 15 [.agg [.ints o, .rows d]] (.tup [.pairs (bif good o d then confL o d else []), .bool (good o d)]) [] := by
  refine fun_ok (C := t_l2Good ++ t_growS ++ t_conflictS) (hint := hintX [5, 8] [] 0 [] [] [] []) (((t_l2Good_ok).append t_growS_ok).append t_conflictS_ok) mixed Tryz.func15 rfl (by kernel_rfl) rfl ?_
  show codeA _ _ _ _ _ _ _ _
  simp only [go_sem, Tryz.results15]
  refine ⟨hp, partB_intro (fun hg => ?_) (fun hg => ?_)⟩
  · rw [hg]
    have hf := good_iff.1 hg
    have hn := hf.n7
    obtain ⟨l1, l2, l3⟩ := grown_lens o d
    have hk := fun {a : Nat} (ha : a <= o.length) => conf7 hn (cnfQ d (grown o d)) ha
    refine ⟨hf, ?_⟩
    refine loop_intro (fun a : Nat => [(6, .int .i64 a), (5, .bx 1 0), (4, .sl 0), (1, .iptr [.ints o, .rows d])]) (fun a => [(0, .arr (.pairs (confA (cnfQ d (grown o d)) o.length a))), (1, .box [.int .i64 (grown o d).now, .ints (grown o d).p, .bools (stB (grown o d).w), .ints (stW (grown o d).w), .ints (grown o d).t])]) 2 (fun a => a <= o.length) (fun a => o.length - a) 0 (Nat.zero_le _) (by omega) ?_ ?_
    · simp only [go_sem]
      repeat' (first | refine fork_intro (fun hb => ?_) (fun hb => ?_) | refine partB_intro (fun hb => ?_) (fun hb => ?_) | refine And.intro ?_ ?_)
      all_goals first | exact True.intro | omega | with_reducible rfl | exact congrArg (AV.int _) (by omega) | (first | rfl)
    · intro a ha
      have hka := hk ha
      simp only [go_sem]
      refine fork_intro (fun hc => ?_) (fun hc => ?_)
      · refine ⟨by omega, ?_⟩
        refine loop_intro (fun b : Nat => [(7, .int .i64 b), (6, .int .i64 a), (5, .bx 1 0), (4, .sl 0), (1, .iptr [.ints o, .rows d])]) (fun b => [(0, .arr (.pairs (confA (cnfQ d (grown o d)) o.length a ++ confR (cnfQ d (grown o d)) a b))), (1, .box [.int .i64 (grown o d).now, .ints (grown o d).p, .bools (stB (grown o d).w), .ints (stW (grown o d).w), .ints (grown o d).t])]) 2 (fun b => a < b /\ b <= o.length) (fun b => o.length - b) (a + 1) ⟨by omega, by omega⟩ (by omega) ?_ ?_
        · have e0 := confR_none (cnfQ d (grown o d)) a (a + 1) (Nat.le_refl _)
          simp only [go_sem]
          repeat' (first | refine fork_intro (fun hb => ?_) (fun hb => ?_) | refine partB_intro (fun hb => ?_) (fun hb => ?_) | refine And.intro ?_ ?_)
          all_goals first | exact True.intro | omega | with_reducible rfl | exact congrArg (AV.int _) (by omega) | (first | rfl | rw [e0, List.append_nil])
        · rintro b ⟨hab, hb⟩
          have hR := confR_len (cnfQ d (grown o d)) a b
          have hl : (confA (cnfQ d (grown o d)) o.length a ++ confR (cnfQ d (grown o d)) a b).length <= 56 := by rw [List.length_append]; omega
          simp only [go_sem]
          refine fork_intro (fun hd => ?_) (fun hd => ?_)
          · refine ⟨⟨⟨hf, l1, l2⟩, by omega, by omega⟩, partB_intro (fun hq => ?_) (fun hq => ?_)⟩
            · have e := confR_t (q := cnfQ d (grown o d)) (a := a) (k := b) hab hq
              repeat' (first | refine fork_intro (fun hb => ?_) (fun hb => ?_) | refine partB_intro (fun hb => ?_) (fun hb => ?_) | refine And.intro ?_ ?_)
              all_goals first | exact True.intro | omega | with_reducible rfl | exact congrArg (AV.int _) (by omega) | (refine LoopEnd.intro (b + 1) (by first | omega | (first | exact ⟨by omega, by omega⟩)) (by first | omega | (dsimp only; omega)) (by omega) ?_; simp only [go_sem]; (repeat' (first | refine fork_intro (fun hb => ?_) (fun hb => ?_) | refine partB_intro (fun hb => ?_) (fun hb => ?_) | refine And.intro ?_ ?_)); all_goals first | exact True.intro | omega | with_reducible rfl | exact congrArg (AV.int _) (by omega) | (first | rfl | (rw [List.append_assoc, e]))) | (first | rfl | (rw [List.append_assoc, e]))
            · have e := confR_f (q := cnfQ d (grown o d)) (a := a) (k := b) hq
              repeat' (first | refine fork_intro (fun hb => ?_) (fun hb => ?_) | refine partB_intro (fun hb => ?_) (fun hb => ?_) | refine And.intro ?_ ?_)
              all_goals first | exact True.intro | omega | with_reducible rfl | exact congrArg (AV.int _) (by omega) | (refine LoopEnd.intro (b + 1) (by first | omega | (first | exact ⟨by omega, by omega⟩)) (by first | omega | (dsimp only; omega)) (by omega) ?_; simp only [go_sem]; (repeat' (first | refine fork_intro (fun hb => ?_) (fun hb => ?_) | refine partB_intro (fun hb => ?_) (fun hb => ?_) | refine And.intro ?_ ?_)); all_goals first | exact True.intro | omega | with_reducible rfl | exact congrArg (AV.int _) (by omega) | (first | rfl | rw [e])) | (first | rfl | rw [e])
          · have eb : b = o.length := by omega
            subst eb
            repeat' (first | refine fork_intro (fun hb => ?_) (fun hb => ?_) | refine partB_intro (fun hb => ?_) (fun hb => ?_) | refine And.intro ?_ ?_)
            all_goals first | exact True.intro | omega | with_reducible rfl | exact congrArg (AV.int _) (by omega) | (refine LoopEnd.intro (a + 1) (by first | omega) (by first | omega | (dsimp only; omega)) (by omega) ?_; simp only [go_sem]; (repeat' (first | refine fork_intro (fun hb => ?_) (fun hb => ?_) | refine partB_intro (fun hb => ?_) (fun hb => ?_) | refine And.intro ?_ ?_)); all_goals first | exact True.intro | omega | with_reducible rfl | exact congrArg (AV.int _) (by omega) | (first | rfl)) | (first | rfl)
      · have ea : a = o.length := by omega
        subst ea
        repeat' (first | refine fork_intro (fun hb => ?_) (fun hb => ?_) | refine partB_intro (fun hb => ?_) (fun hb => ?_) | refine And.intro ?_ ?_)
        all_goals first | exact True.intro | omega | with_reducible rfl | exact congrArg (AV.int _) (by omega) | (first | rfl)
  · rw [hg]
    repeat' (first | refine fork_intro (fun hb => ?_) (fun hb => ?_) | refine partB_intro (fun hb => ?_) (fun hb => ?_) | refine And.intro ?_ ?_)
    all_goals first | exact True.intro | omega | with_reducible rfl | exact congrArg (AV.int _) (by omega) | (first | rfl)
def t_conflictsOfS : Table := [(15, pureC g_conflictsOfS)]
theorem t_conflictsOfS_ok : TabOK Tryz.prog t_conflictsOfS := .cons Tryz.func15 (by kernel_rfl) (.pure (by intro args hp; unfold g_conflictsOfS at hp ⊢; split at hp <;> first | exact hp.elim | exact conflictsOfS_ok _ _ hp)) (.nil _)
attribute [go_sem] g_conflictsOfS_eq t_conflictsOfS
def g_conflictsOfI : List AV -> Prop × AV × Heap
  | [.agg [.ints o, .rows d]] => (o.length <= 1048576000 /\ d.length <= 1048576000 /\ ∀ x ∈ d, x.length <= 1048576000, .tup [.sl 0, .bool (good o d)], [(0, .arr (.pairs (bif good o d then confL o d else [])))])
  | _ => (False, .undef, [])
theorem g_conflictsOfI_eq (o : List Int) (d : List (List Int)) : g_conflictsOfI [.agg [.ints o, .rows d]] = (o.length <= 1048576000 /\ d.length <= 1048576000 /\ ∀ x ∈ d, x.length <= 1048576000, .tup [.sl 0, .bool (good o d)], [(0, .arr (.pairs (bif good o d then confL o d else [])))]) := (rfl)
theorem conflictsOfI_ok (o : List Int) (d : List (List Int)) (hp : o.length <= 1048576000 /\ d.length <= 1048576000 /\ ∀ x ∈ d, x.length <= 1048576000) : SpecOK Tryz.prog 14 [.agg [.ints o, .rows d]] (.tup [.sl 0, .bool (good o d)]) [(0, .arr (.pairs (bif good o d then confL o d else [])))] := by
  refine fun_ok (C := t_isF ++ t_growI ++ t_conflictI) (hint := hintX [4, 12, 13] [(2, [.post, .up 2 (.arr (.pairs []))]), (13, [.post, .ren 2 0])] 0 [] [] [] []) (((t_isF_ok).append t_growI_ok).append t_conflictI_ok) mixed Tryz.func14 rfl (by kernel_rfl) rfl ?_
  show codeA _ _ _ _ _ _ _ _
  simp only [go_sem, Tryz.results14]
  refine ⟨hp, partB_intro (fun hg => ?_) (fun hg => ?_)⟩
  · rw [hg]
    have hf := good_iff.1 hg
    have hn := hf.n7
    obtain ⟨l1, l2, l3⟩ := grown_lens o d
    have hk := fun {a : Nat} (ha : a <= o.length) => conf7 hn (cnfQ d (grown o d)) ha
    refine ⟨hf, ?_⟩
    refine loop_intro (fun a : Nat => [(17, .int .i64 a), (16, .int .i64 o.length), (5, .sl 4), (4, .bx 5 0), (1, .iptr [.ints o, .rows d])]) (fun a => [(1, .arr (.ints (grown o d).p)), (2, .arr (.ints (grown o d).t)), (3, .arr (.ints (grown o d).w)), (4, .arr (.pairs (confA (cnfQ d (grown o d)) o.length a))), (5, .box [.sl 1, .sl 2, .sl 3])]) 6 (fun a => a <= o.length) (fun a => o.length - a) 0 (Nat.zero_le _) (by omega) ?_ ?_
    · simp only [go_sem]
      repeat' (first | refine fork_intro (fun hb => ?_) (fun hb => ?_) | refine partB_intro (fun hb => ?_) (fun hb => ?_) | refine And.intro ?_ ?_)
      all_goals first | exact True.intro | omega | with_reducible rfl | exact congrArg (AV.int _) (by omega) | (first | rfl)
    · intro a ha
      have hka := hk ha
      simp only [go_sem]
      refine fork_intro (fun hc => ?_) (fun hc => ?_)
      · refine ⟨by omega, ?_⟩
        refine loop_intro (fun b : Nat => [(7, .int .i64 b), (6, .int .i64 a), (17, .int .i64 a), (16, .int .i64 o.length), (5, .sl 4), (4, .bx 5 0), (1, .iptr [.ints o, .rows d])]) (fun b => [(1, .arr (.ints (grown o d).p)), (2, .arr (.ints (grown o d).t)), (3, .arr (.ints (grown o d).w)), (4, .arr (.pairs (confA (cnfQ d (grown o d)) o.length a ++ confR (cnfQ d (grown o d)) a b))), (5, .box [.sl 1, .sl 2, .sl 3])]) 6 (fun b => a < b /\ b <= o.length) (fun b => o.length - b) (a + 1) ⟨by omega, by omega⟩ (by omega) ?_ ?_
        · have e0 := confR_none (cnfQ d (grown o d)) a (a + 1) (Nat.le_refl _)
          simp only [go_sem]
          repeat' (first | refine fork_intro (fun hb => ?_) (fun hb => ?_) | refine partB_intro (fun hb => ?_) (fun hb => ?_) | refine And.intro ?_ ?_)
          all_goals first | exact True.intro | omega | with_reducible rfl | exact congrArg (AV.int _) (by omega) | (first | rfl | rw [e0, List.append_nil])
        · rintro b ⟨hab, hb⟩
          have hR := confR_len (cnfQ d (grown o d)) a b
          have hl : (confA (cnfQ d (grown o d)) o.length a ++ confR (cnfQ d (grown o d)) a b).length <= 56 := by rw [List.length_append]; omega
          have eq : (cnfQ d (grown o d)) a b = (decide (0 <= ix (grown o d).t (a : Int)) && decide (0 <= ix (grown o d).t (b : Int)) && cnfX d (grown o d).p (a : Int) (b : Int)) := rfl
          simp only [go_sem]
          refine fork_intro (fun hd => ?_) (fun hd => ?_)
          · refine ⟨by omega, fork_intro (fun h1 => ⟨by omega, fork_intro (fun h2 => ⟨⟨⟨hf, l1⟩, by omega, by omega⟩, partB_intro (fun hq => ?_) (fun hq => ?_)⟩) (fun h2 => ?_)⟩) (fun h1 => ?_)⟩
            · rw [decide_eq_true h1, decide_eq_true h2, hq] at eq
              have e := confR_t (q := cnfQ d (grown o d)) (a := a) (k := b) hab eq
              repeat' (first | refine fork_intro (fun hb => ?_) (fun hb => ?_) | refine partB_intro (fun hb => ?_) (fun hb => ?_) | refine And.intro ?_ ?_)
              all_goals first | exact True.intro | omega | with_reducible rfl | exact congrArg (AV.int _) (by omega) | (refine LoopEnd.intro (b + 1) (by first | omega | (first | exact ⟨by omega, by omega⟩)) (by first | omega | (dsimp only; omega)) (by omega) ?_; simp only [go_sem]; (repeat' (first | refine fork_intro (fun hb => ?_) (fun hb => ?_) | refine partB_intro (fun hb => ?_) (fun hb => ?_) | refine And.intro ?_ ?_)); all_goals first | exact True.intro | omega | with_reducible rfl | exact congrArg (AV.int _) (by omega) | (first | rfl | (rw [List.append_assoc, e]))) | (first | rfl | (rw [List.append_assoc, e]))
            · rw [hq, Bool.and_false] at eq
              have e := confR_f (q := cnfQ d (grown o d)) (a := a) (k := b) eq
              repeat' (first | refine fork_intro (fun hb => ?_) (fun hb => ?_) | refine partB_intro (fun hb => ?_) (fun hb => ?_) | refine And.intro ?_ ?_)
              all_goals first | exact True.intro | omega | with_reducible rfl | exact congrArg (AV.int _) (by omega) | (refine LoopEnd.intro (b + 1) (by first | omega | (first | exact ⟨by omega, by omega⟩)) (by first | omega | (dsimp only; omega)) (by omega) ?_; simp only [go_sem]; (repeat' (first | refine fork_intro (fun hb => ?_) (fun hb => ?_) | refine partB_intro (fun hb => ?_) (fun hb => ?_) | refine And.intro ?_ ?_)); all_goals first | exact True.intro | omega | with_reducible rfl | exact congrArg (AV.int _) (by omega) | (first | rfl | rw [e])) | (first | rfl | rw [e])
            · rw [decide_eq_false h2, Bool.and_false, Bool.false_and] at eq
              have e := confR_f (q := cnfQ d (grown o d)) (a := a) (k := b) eq
              repeat' (first | refine fork_intro (fun hb => ?_) (fun hb => ?_) | refine partB_intro (fun hb => ?_) (fun hb => ?_) | refine And.intro ?_ ?_)
              all_goals first | exact True.intro | omega | with_reducible rfl | exact congrArg (AV.int _) (by omega) | (refine LoopEnd.intro (b + 1) (by first | omega | (first | exact ⟨by omega, by omega⟩)) (by first | omega | (dsimp only; omega)) (by omega) ?_; simp only [go_sem]; (repeat' (first | refine fork_intro (fun hb => ?_) (fun hb => ?_) | refine partB_intro (fun hb => ?_) (fun hb => ?_) | refine And.intro ?_ ?_)); all_goals first | exact True.intro | omega | with_reducible rfl | exact congrArg (AV.int _) (by omega) | (first | rfl | rw [e])) | (first | rfl | rw [e])
            · rw [decide_eq_false h1, Bool.false_and, Bool.false_and] at eq
              have e := confR_f (q := cnfQ d (grown o d)) (a := a) (k := b) eq
              repeat' (first | refine fork_intro (fun hb => ?_) (fun hb => ?_) | refine partB_intro (fun hb => ?_) (fun hb => ?_) | refine And.intro ?_ ?_)
              all_goals first | exact True.intro | omega | with_reducible rfl | exact congrArg (AV.int _) (by omega) | (refine LoopEnd.intro (b + 1) (by first | omega | (first | exact ⟨by omega, by omega⟩)) (by first | omega | (dsimp only; omega)) (by omega) ?_; simp only [go_sem]; (repeat' (first | refine fork_intro (fun hb => ?_) (fun hb => ?_) | refine partB_intro (fun hb => ?_) (fun hb => ?_) | refine And.intro ?_ ?_)); all_goals first | exact True.intro | omega | with_reducible rfl | exact congrArg (AV.int _) (by omega) | (first | rfl | rw [e])) | (first | rfl | rw [e])
          · have eb : b = o.length := by omega
            subst eb
            repeat' (first | refine fork_intro (fun hb => ?_) (fun hb => ?_) | refine partB_intro (fun hb => ?_) (fun hb => ?_) | refine And.intro ?_ ?_)
            all_goals first | exact True.intro | omega | with_reducible rfl | exact congrArg (AV.int _) (by omega) | (refine LoopEnd.intro (a + 1) (by first | omega) (by first | omega | (dsimp only; omega)) (by omega) ?_; simp only [go_sem]; (repeat' (first | refine fork_intro (fun hb => ?_) (fun hb => ?_) | refine partB_intro (fun hb => ?_) (fun hb => ?_) | refine And.intro ?_ ?_)); all_goals first | exact True.intro | omega | with_reducible rfl | exact congrArg (AV.int _) (by omega) | (first | rfl)) | (first | rfl)
      · have ea : a = o.length := by omega
        subst ea
        repeat' (first | refine fork_intro (fun hb => ?_) (fun hb => ?_) | refine partB_intro (fun hb => ?_) (fun hb => ?_) | refine And.intro ?_ ?_)
        all_goals first | exact True.intro | omega | with_reducible rfl | exact congrArg (AV.int _) (by omega) | (first | rfl)
  · rw [hg]
    repeat' (first | refine fork_intro (fun hb => ?_) (fun hb => ?_) | refine partB_intro (fun hb => ?_) (fun hb => ?_) | refine And.intro ?_ ?_)
    all_goals first | exact True.intro | omega | with_reducible rfl | exact congrArg (AV.int _) (by omega) | (first | rfl)
def t_conflictsOfI : Table := [(14, ownC g_conflictsOfI)]
theorem t_conflictsOfI_ok : TabOK Tryz.prog t_conflictsOfI := .cons Tryz.func14 (by kernel_rfl) (.own (by intro args hp; unfold g_conflictsOfI at hp ⊢; split at hp <;> first | exact hp.elim | exact ⟨conflictsOfI_ok _ _ hp, rfl⟩)) (.nil _)
attribute [go_sem] g_conflictsOfI_eq t_conflictsOfI
end Go.Proofs.YteefjdbdknkcjaaGreat
