/- Growth in the reference, from the first time to the last. -/
import Derived.Test.YtibomnplkclkmaaA28
namespace Go.Proofs.Ytibomnplkclkmaa
open Go.Vc
set_option maxRecDepth 100000
set_option maxHeartbeats 1600000
set_option linter.unusedSimpArgs false
set_option linter.unusedVariables false

theorem st0_views (n m : Nat) : stB (st0 n m).w = List.replicate m false ∧ stW (st0 n m).w = List.replicate m 0 := by
  exact ⟨by unfold stB st0; simp, by unfold stW st0; rw [List.map_replicate]; rfl⟩
theorem moving_view {d : List (List Int)} {t : St} (h : t.w.length = d.length) : (∃ j, j < (stB t.w).length ∧ ix (stB t.w) (j : Int) = false) ↔ movingP d t := by
  unfold movingP
  rw [stB_len, h]
  refine exists_congr fun j => and_congr_right fun hj => ?_
  rw [stB_ix (by omega)]; simp

def g_growS : List AV → Prop × AV
  | [.agg [.ints o, .rows d]] => (FieldOK o d, .agg [.int .i64 (grown o d).now, .ints (grown o d).p, .bools (stB (grown o d).w), .ints (stW (grown o d).w), .ints (grown o d).t])
  | _ => (False, .undef)
theorem g_growS_eq (o : List Int) (d : List (List Int)) : g_growS [.agg [.ints o, .rows d]] = (FieldOK o d, .agg [.int .i64 (grown o d).now, .ints (grown o d).p, .bools (stB (grown o d).w), .ints (stW (grown o d).w), .ints (grown o d).t]) := (rfl)
theorem growS_ok (o : List Int) (d : List (List Int)) (hp : FieldOK o d) : SpecOK Try.prog 79 [.agg [.ints o, .rows d]] (.agg [.int .i64 (grown o d).now, .ints (grown o d).p, .bools (stB (grown o d).w), .ints (stW (grown o d).w), .ints (grown o d).t]) [] := by
  refine fun_ok (C := t_settleS ++ t_movingS ++ t_stepS) (hint := hintX [2, 3, 8, 12, 16] [(1, [.post, .upf 3 4 (.arr (.ints []))])] 0 [125] [] [] []) (((t_settleS_ok).append t_movingS_ok).append t_stepS_ok) mixed Try.func79 rfl (by kernel_rfl) rfl ?_
  show codeA _ _ _ _ _ _ _ _
  simp only [go_sem, ↓reduceIte, Nat.reduceEqDiff, Nat.reduceBEq, Nat.reduceAdd, Nat.reduceSub, Nat.reduceLeDiff, Nat.reduceMul, Nat.reduceLT, Try.results79]
  have hn := hp.n7
  have hm := hp.m7
  have h0 := st0_inv hp
  obtain ⟨v1, v2⟩ := st0_views o.length d.length
  have e0 : St.mk 0 (List.replicate d.length 0) (unW (List.replicate d.length false) (List.replicate d.length 0)) (List.replicate o.length (-1)) = st0 o.length d.length := by
    have := h0.un
    rw [v1, v2] at this
    exact this
  refine ⟨by omega, by omega, by omega, ?_⟩
  refine loop_intro (fun a : Nat => [(4, .int .i64 a), (1, .iptr [.ints o, .rows d]), (2, .bx 0 0), (3, .bx 4 0)]) (fun a => [(0, .box [.int .i64 0, .nils, .nils, .nils, .nils]), (1, .arr (.ints (List.replicate d.length 0))), (2, .arr (.bools (List.replicate d.length false))), (3, .arr (.ints (List.replicate d.length 0))), (4, .box [.int .i64 0, .sl 1, .sl 2, .sl 3, .sl 5]), (5, .arr (.ints (List.replicate a (-1))))]) 6 (fun a => a ≤ o.length) (fun a => o.length - a) 0 (Nat.zero_le _) (by omega) ?_ ?_
  · simp only [go_sem, ↓reduceIte, Nat.reduceEqDiff, Nat.reduceBEq, Nat.reduceAdd, Nat.reduceSub, Nat.reduceLeDiff, Nat.reduceMul, Nat.reduceLT]
    repeat' (first | refine fork_intro (fun hb => ?_) (fun hb => ?_) | refine partB_intro (fun hb => ?_) (fun hb => ?_) | refine And.intro ?_ ?_)
    all_goals first | exact True.intro | omega | with_reducible rfl | exact congrArg (AV.int _) (by omega) | (first | rfl)
  · intro a ha
    have hl : (List.replicate a (-1 : Int)).length = a := List.length_replicate
    have e : List.replicate a (-1 : Int) ++ [-1] = List.replicate (a + 1) (-1) := List.replicate_succ'.symm
    simp only [go_sem, ↓reduceIte, Nat.reduceEqDiff, Nat.reduceBEq, Nat.reduceAdd, Nat.reduceSub, Nat.reduceLeDiff, Nat.reduceMul, Nat.reduceLT]
    refine fork_intro (fun hc => ?_) (fun hc => ?_)
    · repeat' (first | refine fork_intro (fun hb => ?_) (fun hb => ?_) | refine partB_intro (fun hb => ?_) (fun hb => ?_) | refine And.intro ?_ ?_)
      all_goals first | exact True.intro | omega | with_reducible rfl | exact congrArg (AV.int _) (by omega) | (refine LoopEnd.intro (a + 1) (by first | omega) (by first | omega | (dsimp only; omega)) (by omega) ?_; simp only [go_sem, ↓reduceIte, Nat.reduceEqDiff, Nat.reduceBEq, Nat.reduceAdd, Nat.reduceSub, Nat.reduceLeDiff, Nat.reduceMul, Nat.reduceLT]; (repeat' (first | refine fork_intro (fun hb => ?_) (fun hb => ?_) | refine partB_intro (fun hb => ?_) (fun hb => ?_) | refine And.intro ?_ ?_)); all_goals first | exact True.intro | omega | with_reducible rfl | exact congrArg (AV.int _) (by omega) | (first | rfl | rw [e])) | (first | rfl | rw [e])
    · have ea : a = o.length := by omega
      subst ea
      refine ⟨⟨st0 o.length d.length, h0, rfl, rfl, v1.symm, v2.symm, rfl⟩, ?_⟩
      rw [e0]
      refine loop_intro (fun s : St => [(1, .iptr [.ints o, .rows d]), (2, .bx 0 0), (3, .bx 4 0)]) (fun s => [(0, .box [.int .i64 0, .nils, .nils, .nils, .nils]), (1, .arr (.ints (gsett o d s).p)), (2, .arr (.bools (stB (gsett o d s).w))), (3, .arr (.ints (stW (gsett o d s).w))), (4, .box [.int .i64 s.now, .sl 1, .sl 2, .sl 3, .sl 5]), (5, .arr (.ints (gsett o d s).t))]) 6 (fun s => Going o d s) (fun s => (1000000 - s.now).toNat) (st0 o.length d.length) (going0 hp) (by omega) ?_ ?_
      · simp only [go_sem, ↓reduceIte, Nat.reduceEqDiff, Nat.reduceBEq, Nat.reduceAdd, Nat.reduceSub, Nat.reduceLeDiff, Nat.reduceMul, Nat.reduceLT]
        repeat' (first | refine fork_intro (fun hb => ?_) (fun hb => ?_) | refine partB_intro (fun hb => ?_) (fun hb => ?_) | refine And.intro ?_ ?_)
        all_goals first | exact True.intro | omega | with_reducible rfl | exact congrArg (AV.int _) (by omega) | (first | rfl)
      · intro s hs
        have h := hs.1
        have hn0 := h.n0
        have lw : (gsett o d s).w.length = d.length := tab_len _ _
        have lb : (stB (gsett o d s).w).length = d.length := by rw [stB_len, lw]
        have hmv := moving_view lw
        simp only [go_sem, ↓reduceIte, Nat.reduceEqDiff, Nat.reduceBEq, Nat.reduceAdd, Nat.reduceSub, Nat.reduceLeDiff, Nat.reduceMul, Nat.reduceLT]
        refine ⟨by omega, fork_intro (fun hg => ?_) (fun hg => ?_)⟩
        · have hmov := hmv.1 hg
          obtain ⟨h2, h3⟩ := hs.next hmov
          have hb2 := h2.1.n0
          have e1 : St.mk s.now (gsett o d s).p (unW (stB (gsett o d s).w) (stW (gsett o d s).w)) (gsett o d s).t = gsett o d s := h.un2
          have e2 : St.mk (gstep o d (gsett o d s)) (gsett o d s).p (unW (stB (gsett o d s).w) (stW (gsett o d s).w)) (gsett o d s).t = adv o d (gsett o d s) := h2.1.un
          have e3 : (adv o d (gsett o d s)).now = gstep o d (gsett o d s) := rfl
          rw [e1, e2]
          refine ⟨⟨s, h, rfl, rfl, rfl, rfl, rfl⟩, ⟨adv o d (gsett o d s), h2.1, rfl, rfl, rfl, rfl, rfl⟩, ?_⟩
          refine LoopEnd.intro (adv o d (gsett o d s)) h2 (by omega) (by omega) ?_
          rw [e3]
          simp only [go_sem, ↓reduceIte, Nat.reduceEqDiff, Nat.reduceBEq, Nat.reduceAdd, Nat.reduceSub, Nat.reduceLeDiff, Nat.reduceMul, Nat.reduceLT]
        · have hmov : ¬ movingP d (gsett o d s) := fun hh => hg (hmv.2 hh)
          have e := hs.done hmov
          rw [← e]
          repeat' (first | refine fork_intro (fun hb => ?_) (fun hb => ?_) | refine partB_intro (fun hb => ?_) (fun hb => ?_) | refine And.intro ?_ ?_)
          all_goals first | exact True.intro | omega | with_reducible rfl | exact congrArg (AV.int _) (by omega) | (first | rfl)
def t_growS : Table := [(79, pureC g_growS)]
theorem t_growS_ok : TabOK Try.prog t_growS := .cons Try.func79 (by kernel_rfl) (.pure (by intro args hp; unfold g_growS at hp ⊢; split at hp <;> first | exact hp.elim | exact growS_ok _ _ hp)) (.nil _)
attribute [go_sem] g_growS_eq t_growS
end Go.Proofs.Ytibomnplkclkmaa
