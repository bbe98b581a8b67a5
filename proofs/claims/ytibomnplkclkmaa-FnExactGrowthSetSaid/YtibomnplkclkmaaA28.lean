/- Growth in the reference: settling. -/
import Derived.Test.YtibomnplkclkmaaA27
namespace Go.Proofs.Ytibomnplkclkmaa
open Go.Vc
set_option maxRecDepth 100000
set_option maxHeartbeats 1600000
set_option linter.unusedSimpArgs false
set_option linter.unusedVariables false

def g_grownO : List AV → Prop × AV × Heap
  | [.agg [.int .i64 now, .ints p, .bools bs, .ints wt, .ints t]] => (p.length ≤ 1000 ∧ bs.length = p.length, .sl 0, [(0, .arr (.ints (tab p.length fun j => if ix bs (j : Int) = true then ix p (j : Int) else now)))])
  | _ => (False, .undef, [])
theorem g_grownO_eq (now : Int) (p : List Int) (bs : List Bool) (wt t : List Int) : g_grownO [.agg [.int .i64 now, .ints p, .bools bs, .ints wt, .ints t]] = (p.length ≤ 1000 ∧ bs.length = p.length, .sl 0, [(0, .arr (.ints (tab p.length fun j => if ix bs (j : Int) = true then ix p (j : Int) else now)))]) := (rfl)
theorem grownO_ok (now : Int) (p : List Int) (bs : List Bool) (wt t : List Int) (hp : p.length ≤ 1000 ∧ bs.length = p.length) : SpecOK Try.prog 159 [.agg [.int .i64 now, .ints p, .bools bs, .ints wt, .ints t]] (.sl 0) [(0, .arr (.ints (tab p.length fun j => if ix bs (j : Int) = true then ix p (j : Int) else now)))] := by
  refine fun_ok (C := []) (hint := hintX [6] [] 0 [] [] [] []) (TabOK.nil _) mixed Try.func159 rfl (by kernel_rfl) rfl ?_
  show codeA _ _ _ _ _ _ _ _
  simp only [go_sem, ↓reduceIte, Nat.reduceEqDiff, Nat.reduceBEq, Nat.reduceAdd, Nat.reduceSub, Nat.reduceLeDiff, Nat.reduceMul, Nat.reduceLT, Try.results159]
  obtain ⟨h0, h1⟩ := hp
  refine loop_intro (fun j : Nat => [(3, .sl 0), (4, .int .i64 j), (1, .iptr [.int .i64 now, .ints p, .bools bs, .ints wt, .ints t])]) (fun j => [(0, .arr (.ints (tab j fun j => if ix bs (j : Int) = true then ix p (j : Int) else now)))]) 1 (fun j => j ≤ p.length) (fun j => p.length - j) 0 (Nat.zero_le _) (by omega) ?_ ?_
  · simp only [go_sem, ↓reduceIte, Nat.reduceEqDiff, Nat.reduceBEq, Nat.reduceAdd, Nat.reduceSub, Nat.reduceLeDiff, Nat.reduceMul, Nat.reduceLT]
    repeat' (first | refine fork_intro (fun hb => ?_) (fun hb => ?_) | refine partB_intro (fun hb => ?_) (fun hb => ?_) | refine And.intro ?_ ?_)
    all_goals first | exact True.intro | omega | with_reducible rfl | exact congrArg (AV.int _) (by omega) | (first | rfl)
  · intro j hj
    have hl : (tab j fun j => if ix bs (j : Int) = true then ix p (j : Int) else now).length = j := tab_len _ _
    have e := tab_succ j (fun j => if ix bs (j : Int) = true then ix p (j : Int) else now)
    simp only [go_sem, ↓reduceIte, Nat.reduceEqDiff, Nat.reduceBEq, Nat.reduceAdd, Nat.reduceSub, Nat.reduceLeDiff, Nat.reduceMul, Nat.reduceLT]
    refine fork_intro (fun hc => ?_) (fun hc => ?_)
    · refine ⟨by omega, partB_intro (fun hb => ?_) (fun hb => ?_)⟩
      · rw [if_pos hb] at e
        repeat' (first | refine fork_intro (fun hb => ?_) (fun hb => ?_) | refine partB_intro (fun hb => ?_) (fun hb => ?_) | refine And.intro ?_ ?_)
        all_goals first | exact True.intro | omega | with_reducible rfl | exact congrArg (AV.int _) (by omega) | (refine LoopEnd.intro (j + 1) (by first | omega) (by first | omega | (dsimp only; omega)) (by omega) ?_; simp only [go_sem, ↓reduceIte, Nat.reduceEqDiff, Nat.reduceBEq, Nat.reduceAdd, Nat.reduceSub, Nat.reduceLeDiff, Nat.reduceMul, Nat.reduceLT]; (repeat' (first | refine fork_intro (fun hb => ?_) (fun hb => ?_) | refine partB_intro (fun hb => ?_) (fun hb => ?_) | refine And.intro ?_ ?_)); all_goals first | exact True.intro | omega | with_reducible rfl | exact congrArg (AV.int _) (by omega) | (first | rw [e])) | (first | rw [e])
      · rw [if_neg (by rw [hb]; decide)] at e
        repeat' (first | refine fork_intro (fun hb => ?_) (fun hb => ?_) | refine partB_intro (fun hb => ?_) (fun hb => ?_) | refine And.intro ?_ ?_)
        all_goals first | exact True.intro | omega | with_reducible rfl | exact congrArg (AV.int _) (by omega) | (refine LoopEnd.intro (j + 1) (by first | omega) (by first | omega | (dsimp only; omega)) (by omega) ?_; simp only [go_sem, ↓reduceIte, Nat.reduceEqDiff, Nat.reduceBEq, Nat.reduceAdd, Nat.reduceSub, Nat.reduceLeDiff, Nat.reduceMul, Nat.reduceLT]; (repeat' (first | refine fork_intro (fun hb => ?_) (fun hb => ?_) | refine partB_intro (fun hb => ?_) (fun hb => ?_) | refine And.intro ?_ ?_)); all_goals first | exact True.intro | omega | with_reducible rfl | exact congrArg (AV.int _) (by omega) | (first | rw [e])) | (first | rw [e])
    · rw [show j = p.length by omega]
def t_grownO : Table := [(159, ownC g_grownO)]
theorem t_grownO_ok : TabOK Try.prog t_grownO := .cons Try.func159 (by kernel_rfl) (.own (by intro args hp; unfold g_grownO at hp ⊢; split at hp <;> first | exact hp.elim | exact ⟨grownO_ok _ _ _ _ _ hp, rfl⟩)) (.nil _)
attribute [go_sem] g_grownO_eq t_grownO
def g_settleS : List AV → Heap → Prop × AV × Heap
  | [.agg [.ints o, .rows d], .agg [.int .i64 now, .sl 0, .sl 1, .sl 2, .sl 3]], [(0, .arr (.ints p)), (1, .arr (.bools bs)), (2, .arr (.ints wt)), (3, .arr (.ints t))] => (∃ s, GInv o d s ∧ now = s.now ∧ p = s.p ∧ bs = stB s.w ∧ wt = stW s.w ∧ t = s.t, .agg [.int .i64 now, .sl 0, .sl 1, .sl 2, .sl 3], [(0, .arr (.ints (gsett o d ⟨now, p, unW bs wt, t⟩).p)), (1, .arr (.bools (stB (gsett o d ⟨now, p, unW bs wt, t⟩).w))), (2, .arr (.ints (stW (gsett o d ⟨now, p, unW bs wt, t⟩).w))), (3, .arr (.ints (gsett o d ⟨now, p, unW bs wt, t⟩).t))])
  | _, _ => (False, .undef, [])
theorem g_settleS_eq (o : List Int) (d : List (List Int)) (now : Int) (p : List Int) (bs : List Bool) (wt t : List Int) : g_settleS [.agg [.ints o, .rows d], .agg [.int .i64 now, .sl 0, .sl 1, .sl 2, .sl 3]] [(0, .arr (.ints p)), (1, .arr (.bools bs)), (2, .arr (.ints wt)), (3, .arr (.ints t))] = (∃ s, GInv o d s ∧ now = s.now ∧ p = s.p ∧ bs = stB s.w ∧ wt = stW s.w ∧ t = s.t, .agg [.int .i64 now, .sl 0, .sl 1, .sl 2, .sl 3], [(0, .arr (.ints (gsett o d ⟨now, p, unW bs wt, t⟩).p)), (1, .arr (.bools (stB (gsett o d ⟨now, p, unW bs wt, t⟩).w))), (2, .arr (.ints (stW (gsett o d ⟨now, p, unW bs wt, t⟩).w))), (3, .arr (.ints (gsett o d ⟨now, p, unW bs wt, t⟩).t))]) := (rfl)
theorem settleS_ok (o : List Int) (d : List (List Int)) (now : Int) (p : List Int) (bs : List Bool) (wt t : List Int) (hp : ∃ s, GInv o d s ∧ now = s.now ∧ p = s.p ∧ bs = stB s.w ∧ wt = stW s.w ∧ t = s.t) : SpecM Try.prog 125 [.agg [.ints o, .rows d], .agg [.int .i64 now, .sl 0, .sl 1, .sl 2, .sl 3]] [(0, .arr (.ints p)), (1, .arr (.bools bs)), (2, .arr (.ints wt)), (3, .arr (.ints t))] 4 (.agg [.int .i64 now, .sl 0, .sl 1, .sl 2, .sl 3]) [(0, .arr (.ints (gsett o d ⟨now, p, unW bs wt, t⟩).p)), (1, .arr (.bools (stB (gsett o d ⟨now, p, unW bs wt, t⟩).w))), (2, .arr (.ints (stW (gsett o d ⟨now, p, unW bs wt, t⟩).w))), (3, .arr (.ints (gsett o d ⟨now, p, unW bs wt, t⟩).t))] := by
  refine fun_okM (C := t_grownO ++ t_claimS ++ t_earlierS) (hint := hintX [3, 4, 11] [] 4 [] [] [] []) (((t_grownO_ok).append t_claimS_ok).append t_earlierS_ok) mixed Try.func125 rfl (by kernel_rfl) rfl (Nat.le_refl _) (upTo_look rfl) (shapes ?_) ?_
  · obtain ⟨s, h, rfl, rfl, rfl, rfl, rfl⟩ := hp; rw [h.un]; exact ⟨fun k' h' => by cases h'; exact ss_ints (by rw [h.lp, show (gsett o d s).p.length = d.length from tab_len _ _]), fun k' h' => by cases h'; exact ss_bools (by rw [stB_len, stB_len, h.lw, show (gsett o d s).w.length = d.length from tab_len _ _]), fun k' h' => by cases h'; exact ss_ints (by rw [stW_len, stW_len, h.lw, show (gsett o d s).w.length = d.length from tab_len _ _]), fun k' h' => by cases h'; exact ss_ints (by rw [h.lt, show (gsett o d s).t.length = o.length from tab_len _ _]), trivial⟩
  show codeA _ _ _ _ _ _ _ _
  simp only [go_sem, ↓reduceIte, Nat.reduceEqDiff, Nat.reduceBEq, Nat.reduceAdd, Nat.reduceSub, Nat.reduceLeDiff, Nat.reduceMul, Nat.reduceLT, Try.results125]
  obtain ⟨s, h, rfl, rfl, rfl, rfl, rfl⟩ := hp
  rw [h.un]
  have hf := h.f
  have hm := hf.m7
  have hn := hf.n7
  have hn0 := h.n0
  have lp := h.lp
  have lw := h.lw
  have lt := h.lt
  have lb : (stB s.w).length = d.length := by rw [stB_len, lw]
  have lW : (stW s.w).length = d.length := by rw [stW_len, lw]
  have lp2 : (gsett o d s).p.length = d.length := tab_len _ _
  have lw2 : (gsett o d s).w.length = d.length := tab_len _ _
  have lt2 : (gti o d s).length = o.length := tab_len _ _
  have lb2 : (stB (gsett o d s).w).length = d.length := by rw [stB_len, lw2]
  have lW2 : (stW (gsett o d s).w).length = d.length := by rw [stW_len, lw2]
  have hclm := h.clm
  have hbd := fun {a : Nat} (ha : a < o.length) => gcl_bd h ha
  refine ⟨⟨by omega, by rw [lb, lp]⟩, ?_⟩
  rw [show (tab s.p.length fun j => if ix (stB s.w) (j : Int) = true then ix s.p (j : Int) else s.now) = gpr d s from gpr_view lp lw]
  have hgl : (gpr d s).length = d.length := gpr_len
  refine loop_intro (fun a : Nat => [(6, .int .i64 a), (2, .iptr [.ints o, .rows d]), (3, .bx 4 0), (4, .bx 5 0), (5, .sl 6)]) (fun a => [(0, .arr (.ints s.p)), (1, .arr (.bools (stB s.w))), (2, .arr (.ints (stW s.w))), (3, .arr (.ints (over (gti o d s) s.t a))), (4, .box [.int .i64 s.now, .sl 0, .sl 1, .sl 2, .sl 3]), (5, .box [.int .i64 0, .nils, .nils, .nils, .nils]), (6, .arr (.ints (gpr d s)))]) 7 (fun a => a ≤ o.length) (fun a => o.length - a) 0 (Nat.zero_le _) (by omega) ?_ ?_
  · simp only [go_sem, ↓reduceIte, Nat.reduceEqDiff, Nat.reduceBEq, Nat.reduceAdd, Nat.reduceSub, Nat.reduceLeDiff, Nat.reduceMul, Nat.reduceLT]
    repeat' (first | refine fork_intro (fun hb => ?_) (fun hb => ?_) | refine partB_intro (fun hb => ?_) (fun hb => ?_) | refine And.intro ?_ ?_)
    all_goals first | exact True.intro | omega | with_reducible rfl | exact congrArg (AV.int _) (by omega) | (first | rfl | simp [over_zero])
  · intro a ha
    have hol := over_len (gti o d s) s.t (by omega) (show a ≤ s.t.length by omega)
    simp only [go_sem, ↓reduceIte, Nat.reduceEqDiff, Nat.reduceBEq, Nat.reduceAdd, Nat.reduceSub, Nat.reduceLeDiff, Nat.reduceMul, Nat.reduceLT]
    refine fork_intro (fun hc => ?_) (fun hc => ?_)
    · have hao : a < o.length := by omega
      have hi := over_ix (gti o d s) s.t (by omega) (show a < s.t.length by omega)
      have hs := over_set (gti o d s) s.t (by omega) (show a < s.t.length by omega)
      have hsm := over_same (ys := gti o d s) (xs := s.t) (k := a) (by omega) (by omega)
      have eg := gti_ix (d := d) (s := s) hao
      have ec : clm d (gpr d s) 2520 (a : Int) = gcl d s a := rfl
      have ho := h.opn hao
      simp only [hi, ec]
      refine ⟨by omega, fork_intro (fun h1 => ?_) (fun h1 => ?_)⟩
      · refine ⟨⟨hclm, by omega, by omega⟩, by omega, by omega, fork_intro (fun h2 => ?_) (fun h2 => ?_)⟩
        · rw [if_pos ⟨h1, h2⟩] at eg
          rw [eg] at hs
          repeat' (first | refine fork_intro (fun hb => ?_) (fun hb => ?_) | refine partB_intro (fun hb => ?_) (fun hb => ?_) | refine And.intro ?_ ?_)
          all_goals first | exact True.intro | omega | with_reducible rfl | exact congrArg (AV.int _) (by omega) | (refine LoopEnd.intro (a + 1) (by first | omega) (by first | omega | (dsimp only; omega)) (by omega) ?_; simp only [go_sem, ↓reduceIte, Nat.reduceEqDiff, Nat.reduceBEq, Nat.reduceAdd, Nat.reduceSub, Nat.reduceLeDiff, Nat.reduceMul, Nat.reduceLT]; (repeat' (first | refine fork_intro (fun hb => ?_) (fun hb => ?_) | refine partB_intro (fun hb => ?_) (fun hb => ?_) | refine And.intro ?_ ?_)); all_goals first | exact True.intro | omega | with_reducible rfl | exact congrArg (AV.int _) (by omega) | (first | rfl | rw [hs])) | (first | rfl | rw [hs])
        · rw [if_neg (fun hh => h2 hh.2)] at eg
          have hsm := hsm eg
          repeat' (first | refine fork_intro (fun hb => ?_) (fun hb => ?_) | refine partB_intro (fun hb => ?_) (fun hb => ?_) | refine And.intro ?_ ?_)
          all_goals first | exact True.intro | omega | with_reducible rfl | exact congrArg (AV.int _) (by omega) | (refine LoopEnd.intro (a + 1) (by first | omega) (by first | omega | (dsimp only; omega)) (by omega) ?_; simp only [go_sem, ↓reduceIte, Nat.reduceEqDiff, Nat.reduceBEq, Nat.reduceAdd, Nat.reduceSub, Nat.reduceLeDiff, Nat.reduceMul, Nat.reduceLT]; (repeat' (first | refine fork_intro (fun hb => ?_) (fun hb => ?_) | refine partB_intro (fun hb => ?_) (fun hb => ?_) | refine And.intro ?_ ?_)); all_goals first | exact True.intro | omega | with_reducible rfl | exact congrArg (AV.int _) (by omega) | (first | rfl | rw [hsm])) | (first | rfl | rw [hsm])
      · rw [if_neg (fun hh => h1 hh.1)] at eg
        have hsm := hsm eg
        repeat' (first | refine fork_intro (fun hb => ?_) (fun hb => ?_) | refine partB_intro (fun hb => ?_) (fun hb => ?_) | refine And.intro ?_ ?_)
        all_goals first | exact True.intro | omega | with_reducible rfl | exact congrArg (AV.int _) (by omega) | (refine LoopEnd.intro (a + 1) (by first | omega) (by first | omega | (dsimp only; omega)) (by omega) ?_; simp only [go_sem, ↓reduceIte, Nat.reduceEqDiff, Nat.reduceBEq, Nat.reduceAdd, Nat.reduceSub, Nat.reduceLeDiff, Nat.reduceMul, Nat.reduceLT]; (repeat' (first | refine fork_intro (fun hb => ?_) (fun hb => ?_) | refine partB_intro (fun hb => ?_) (fun hb => ?_) | refine And.intro ?_ ?_)); all_goals first | exact True.intro | omega | with_reducible rfl | exact congrArg (AV.int _) (by omega) | (first | rfl | rw [hsm])) | (first | rfl | rw [hsm])
    · have ea : a = o.length := by omega
      subst ea
      rw [show over (gti o d s) s.t o.length = gti o d s by rw [← lt]; exact over_end _ _ (by omega)]
      refine loop_intro (fun j : Nat => [(7, .int .i64 j), (2, .iptr [.ints o, .rows d]), (3, .bx 4 0), (4, .bx 5 0), (5, .sl 6)]) (fun j => [(0, .arr (.ints (over (gsett o d s).p s.p j))), (1, .arr (.bools (over (stB (gsett o d s).w) (stB s.w) j))), (2, .arr (.ints (over (stW (gsett o d s).w) (stW s.w) j))), (3, .arr (.ints (gti o d s))), (4, .box [.int .i64 s.now, .sl 0, .sl 1, .sl 2, .sl 3]), (5, .box [.int .i64 0, .nils, .nils, .nils, .nils]), (6, .arr (.ints (gpr d s)))]) 7 (fun j => j ≤ d.length) (fun j => d.length - j) 0 (Nat.zero_le _) (by omega) ?_ ?_
      · simp only [go_sem, ↓reduceIte, Nat.reduceEqDiff, Nat.reduceBEq, Nat.reduceAdd, Nat.reduceSub, Nat.reduceLeDiff, Nat.reduceMul, Nat.reduceLT]
        repeat' (first | refine fork_intro (fun hb => ?_) (fun hb => ?_) | refine partB_intro (fun hb => ?_) (fun hb => ?_) | refine And.intro ?_ ?_)
        all_goals first | exact True.intro | omega | with_reducible rfl | exact congrArg (AV.int _) (by omega) | (first | rfl | simp [over_zero])
      · intro j hj
        simp only [go_sem, ↓reduceIte, Nat.reduceEqDiff, Nat.reduceBEq, Nat.reduceAdd, Nat.reduceSub, Nat.reduceLeDiff, Nat.reduceMul, Nat.reduceLT]
        refine fork_intro (fun hc => ?_) (fun hc => ?_)
        · have hjd : j < d.length := by omega
          have hwl : j < s.w.length := by omega
          have hbi := over_ix (stB (gsett o d s).w) (stB s.w) (k := j) (by omega) (by omega)
          rw [stB_ix hwl] at hbi
          have hsp := over_set (gsett o d s).p s.p (k := j) (by omega) (by omega)
          have hsb := over_set (stB (gsett o d s).w) (stB s.w) (k := j) (by omega) (by omega)
          have hsw := over_set (stW (gsett o d s).w) (stW s.w) (k := j) (by omega) (by omega)
          have hmp := over_same (ys := (gsett o d s).p) (xs := s.p) (k := j) (by omega) (by omega)
          have hmb := over_same (ys := stB (gsett o d s).w) (xs := stB s.w) (k := j) (by omega) (by omega)
          have hmw := over_same (ys := stW (gsett o d s).w) (xs := stW s.w) (k := j) (by omega) (by omega)
          have hl0 := over_len (gsett o d s).p s.p (k := j) (by omega) (by omega)
          have hl1 := over_len (stB (gsett o d s).w) (stB s.w) (k := j) (by omega) (by omega)
          have hl2 := over_len (stW (gsett o d s).w) (stW s.w) (k := j) (by omega) (by omega)
          have ep := set_p (o := o) (s := s) hjd
          have ew := set_w (o := o) (s := s) hjd
          have eb := stB_ix (w := (gsett o d s).w) (j := j) (by omega)
          have eW := stW_ix (w := (gsett o d s).w) (j := j) (by omega)
          have eb0 := stB_ix hwl
          have eW0 := stW_ix hwl
          have hwb := wit_bd (o := o) (d := d) (s := s) j
          have hr := ix_mem d (k := j) hjd
          have hrl := hf.len _ hr
          by_cases hw : ix s.w (j : Int) < 0
          · rw [decide_eq_false (by omega)] at hbi
            refine loop_intro (fun a : Nat => [(9, .int .i64 a), (8, .int .i64 (witF s.now (gti o d s) (ix d (j : Int)) a)), (7, .int .i64 j), (2, .iptr [.ints o, .rows d]), (3, .bx 4 0), (4, .bx 5 0), (5, .sl 6)]) (fun _ => [(0, .arr (.ints (over (gsett o d s).p s.p j))), (1, .arr (.bools (over (stB (gsett o d s).w) (stB s.w) j))), (2, .arr (.ints (over (stW (gsett o d s).w) (stW s.w) j))), (3, .arr (.ints (gti o d s))), (4, .box [.int .i64 s.now, .sl 0, .sl 1, .sl 2, .sl 3]), (5, .box [.int .i64 0, .nils, .nils, .nils, .nils]), (6, .arr (.ints (gpr d s)))]) 7 (fun a => a ≤ o.length) (fun a => o.length - a) 0 (Nat.zero_le _) (by omega) ?_ ?_
            · simp only [go_sem, ↓reduceIte, Nat.reduceEqDiff, Nat.reduceBEq, Nat.reduceAdd, Nat.reduceSub, Nat.reduceLeDiff, Nat.reduceMul, Nat.reduceLT]
              repeat' (first | refine fork_intro (fun hb => ?_) (fun hb => ?_) | refine partB_intro (fun hb => ?_) (fun hb => ?_) | refine And.intro ?_ ?_)
              all_goals first | exact True.intro | omega | with_reducible rfl | exact congrArg (AV.int _) (by omega) | (first | rfl)
            · intro a ha
              have hwa := witF_bd s.now (gti o d s) (ix d (j : Int)) a
              have e : witF s.now (gti o d s) (ix d (j : Int)) (a + 1) = if (0 ≤ ix (gti o d s) (a : Int) ∧ 2520 * ix (ix d (j : Int)) (a : Int) ≤ s.now) ∧ (witF s.now (gti o d s) (ix d (j : Int)) a < 0 ∨ ix (gti o d s) (a : Int) < ix (gti o d s) (witF s.now (gti o d s) (ix d (j : Int)) a)) then (a : Int) else witF s.now (gti o d s) (ix d (j : Int)) a := rfl
              simp only [go_sem, ↓reduceIte, Nat.reduceEqDiff, Nat.reduceBEq, Nat.reduceAdd, Nat.reduceSub, Nat.reduceLeDiff, Nat.reduceMul, Nat.reduceLT]
              simp only [hbi]
              simp only [go_sem, ↓reduceIte, Nat.reduceEqDiff, Nat.reduceBEq, Nat.reduceAdd, Nat.reduceSub, Nat.reduceLeDiff, Nat.reduceMul, Nat.reduceLT]
              refine fork_intro (fun hd => ?_) (fun hd => ?_)
              · have hde := h.ent hjd (show a < o.length by omega)
                refine ⟨by omega, by omega, fork_intro (fun h1 => ?_) (fun h1 => ?_)⟩
                · refine ⟨by omega, by omega, by omega, fork_intro (fun h2 => fork_intro (fun h3 => ?_) (fun h3 => ?_)) (fun h2 => ?_)⟩
                  · rw [if_pos ⟨⟨h1, h2⟩, .inl h3⟩] at e
                    repeat' (first | refine fork_intro (fun hb => ?_) (fun hb => ?_) | refine partB_intro (fun hb => ?_) (fun hb => ?_) | refine And.intro ?_ ?_)
                    all_goals first | exact True.intro | omega | with_reducible rfl | exact congrArg (AV.int _) (by omega) | (refine LoopEnd.intro (a + 1) (by first | omega) (by first | omega | (dsimp only; omega)) (by omega) ?_; simp only [go_sem, ↓reduceIte, Nat.reduceEqDiff, Nat.reduceBEq, Nat.reduceAdd, Nat.reduceSub, Nat.reduceLeDiff, Nat.reduceMul, Nat.reduceLT]; (repeat' (first | refine fork_intro (fun hb => ?_) (fun hb => ?_) | refine partB_intro (fun hb => ?_) (fun hb => ?_) | refine And.intro ?_ ?_)); all_goals first | exact True.intro | omega | with_reducible rfl | exact congrArg (AV.int _) (by omega) | (first | rfl | rw [e])) | (first | rfl | rw [e])
                  · refine ⟨by omega, fork_intro (fun h4 => ?_) (fun h4 => ?_)⟩
                    · rw [if_pos ⟨⟨h1, h2⟩, .inr (by omega)⟩] at e
                      repeat' (first | refine fork_intro (fun hb => ?_) (fun hb => ?_) | refine partB_intro (fun hb => ?_) (fun hb => ?_) | refine And.intro ?_ ?_)
                      all_goals first | exact True.intro | omega | with_reducible rfl | exact congrArg (AV.int _) (by omega) | (refine LoopEnd.intro (a + 1) (by first | omega) (by first | omega | (dsimp only; omega)) (by omega) ?_; simp only [go_sem, ↓reduceIte, Nat.reduceEqDiff, Nat.reduceBEq, Nat.reduceAdd, Nat.reduceSub, Nat.reduceLeDiff, Nat.reduceMul, Nat.reduceLT]; (repeat' (first | refine fork_intro (fun hb => ?_) (fun hb => ?_) | refine partB_intro (fun hb => ?_) (fun hb => ?_) | refine And.intro ?_ ?_)); all_goals first | exact True.intro | omega | with_reducible rfl | exact congrArg (AV.int _) (by omega) | (first | rfl | rw [e])) | (first | rfl | rw [e])
                    · rw [if_neg (fun hh => by omega)] at e
                      repeat' (first | refine fork_intro (fun hb => ?_) (fun hb => ?_) | refine partB_intro (fun hb => ?_) (fun hb => ?_) | refine And.intro ?_ ?_)
                      all_goals first | exact True.intro | omega | with_reducible rfl | exact congrArg (AV.int _) (by omega) | (refine LoopEnd.intro (a + 1) (by first | omega) (by first | omega | (dsimp only; omega)) (by omega) ?_; simp only [go_sem, ↓reduceIte, Nat.reduceEqDiff, Nat.reduceBEq, Nat.reduceAdd, Nat.reduceSub, Nat.reduceLeDiff, Nat.reduceMul, Nat.reduceLT]; (repeat' (first | refine fork_intro (fun hb => ?_) (fun hb => ?_) | refine partB_intro (fun hb => ?_) (fun hb => ?_) | refine And.intro ?_ ?_)); all_goals first | exact True.intro | omega | with_reducible rfl | exact congrArg (AV.int _) (by omega) | (first | rfl | rw [e])) | (first | rfl | rw [e])
                  · rw [if_neg (fun hh => h2 hh.1.2)] at e
                    repeat' (first | refine fork_intro (fun hb => ?_) (fun hb => ?_) | refine partB_intro (fun hb => ?_) (fun hb => ?_) | refine And.intro ?_ ?_)
                    all_goals first | exact True.intro | omega | with_reducible rfl | exact congrArg (AV.int _) (by omega) | (refine LoopEnd.intro (a + 1) (by first | omega) (by first | omega | (dsimp only; omega)) (by omega) ?_; simp only [go_sem, ↓reduceIte, Nat.reduceEqDiff, Nat.reduceBEq, Nat.reduceAdd, Nat.reduceSub, Nat.reduceLeDiff, Nat.reduceMul, Nat.reduceLT]; (repeat' (first | refine fork_intro (fun hb => ?_) (fun hb => ?_) | refine partB_intro (fun hb => ?_) (fun hb => ?_) | refine And.intro ?_ ?_)); all_goals first | exact True.intro | omega | with_reducible rfl | exact congrArg (AV.int _) (by omega) | (first | rfl | rw [e])) | (first | rfl | rw [e])
                · rw [if_neg (fun hh => h1 hh.1.1)] at e
                  repeat' (first | refine fork_intro (fun hb => ?_) (fun hb => ?_) | refine partB_intro (fun hb => ?_) (fun hb => ?_) | refine And.intro ?_ ?_)
                  all_goals first | exact True.intro | omega | with_reducible rfl | exact congrArg (AV.int _) (by omega) | (refine LoopEnd.intro (a + 1) (by first | omega) (by first | omega | (dsimp only; omega)) (by omega) ?_; simp only [go_sem, ↓reduceIte, Nat.reduceEqDiff, Nat.reduceBEq, Nat.reduceAdd, Nat.reduceSub, Nat.reduceLeDiff, Nat.reduceMul, Nat.reduceLT]; (repeat' (first | refine fork_intro (fun hb => ?_) (fun hb => ?_) | refine partB_intro (fun hb => ?_) (fun hb => ?_) | refine And.intro ?_ ?_)); all_goals first | exact True.intro | omega | with_reducible rfl | exact congrArg (AV.int _) (by omega) | (first | rfl | rw [e])) | (first | rfl | rw [e])
              · have ea : a = o.length := by omega
                subst ea
                have ewt : witF s.now (gti o d s) (ix d (j : Int)) o.length = wit o d s j := rfl
                rw [ewt]
                rw [if_pos hw] at ew
                refine fork_intro (fun h1 => ?_) (fun h1 => ?_)
                · rw [if_pos ⟨hw, h1⟩] at ep
                  rw [ep] at hsp
                  rw [eb, ew, decide_eq_true h1] at hsb
                  rw [eW, ew, show max 0 (wit o d s j) = wit o d s j by omega] at hsw
                  repeat' (first | refine fork_intro (fun hb => ?_) (fun hb => ?_) | refine partB_intro (fun hb => ?_) (fun hb => ?_) | refine And.intro ?_ ?_)
                  all_goals first | exact True.intro | omega | with_reducible rfl | exact congrArg (AV.int _) (by omega) | (refine LoopEnd.intro (j + 1) (by first | omega) (by first | omega | (dsimp only; omega)) (by omega) ?_; simp only [go_sem, ↓reduceIte, Nat.reduceEqDiff, Nat.reduceBEq, Nat.reduceAdd, Nat.reduceSub, Nat.reduceLeDiff, Nat.reduceMul, Nat.reduceLT]; (repeat' (first | refine fork_intro (fun hb => ?_) (fun hb => ?_) | refine partB_intro (fun hb => ?_) (fun hb => ?_) | refine And.intro ?_ ?_)); all_goals first | exact True.intro | omega | with_reducible rfl | exact congrArg (AV.int _) (by omega) | (first | rfl | rw [hsp] | rw [hsb] | rw [hsw])) | (first | rfl | rw [hsp] | rw [hsb] | rw [hsw])
                · rw [if_neg (fun hh => h1 hh.2)] at ep
                  have hmp := hmp ep
                  have hmb := hmb (by rw [eb, eb0, ew, decide_eq_false h1, decide_eq_false (by omega)])
                  have hmw := hmw (by rw [eW, eW0, ew]; omega)
                  repeat' (first | refine fork_intro (fun hb => ?_) (fun hb => ?_) | refine partB_intro (fun hb => ?_) (fun hb => ?_) | refine And.intro ?_ ?_)
                  all_goals first | exact True.intro | omega | with_reducible rfl | exact congrArg (AV.int _) (by omega) | (refine LoopEnd.intro (j + 1) (by first | omega) (by first | omega | (dsimp only; omega)) (by omega) ?_; simp only [go_sem, ↓reduceIte, Nat.reduceEqDiff, Nat.reduceBEq, Nat.reduceAdd, Nat.reduceSub, Nat.reduceLeDiff, Nat.reduceMul, Nat.reduceLT]; (repeat' (first | refine fork_intro (fun hb => ?_) (fun hb => ?_) | refine partB_intro (fun hb => ?_) (fun hb => ?_) | refine And.intro ?_ ?_)); all_goals first | exact True.intro | omega | with_reducible rfl | exact congrArg (AV.int _) (by omega) | (first | rfl | rw [hmp] | rw [hmb] | rw [hmw])) | (first | rfl | rw [hmp] | rw [hmb] | rw [hmw])
          · rw [decide_eq_true (by omega)] at hbi
            refine loop_intro (fun a : Nat => [(9, .int .i64 a), (8, .int .i64 (-1)), (7, .int .i64 j), (2, .iptr [.ints o, .rows d]), (3, .bx 4 0), (4, .bx 5 0), (5, .sl 6)]) (fun _ => [(0, .arr (.ints (over (gsett o d s).p s.p j))), (1, .arr (.bools (over (stB (gsett o d s).w) (stB s.w) j))), (2, .arr (.ints (over (stW (gsett o d s).w) (stW s.w) j))), (3, .arr (.ints (gti o d s))), (4, .box [.int .i64 s.now, .sl 0, .sl 1, .sl 2, .sl 3]), (5, .box [.int .i64 0, .nils, .nils, .nils, .nils]), (6, .arr (.ints (gpr d s)))]) 7 (fun a => a = 0) (fun a => o.length - a) 0 rfl (by omega) ?_ ?_
            · simp only [go_sem, ↓reduceIte, Nat.reduceEqDiff, Nat.reduceBEq, Nat.reduceAdd, Nat.reduceSub, Nat.reduceLeDiff, Nat.reduceMul, Nat.reduceLT]
              repeat' (first | refine fork_intro (fun hb => ?_) (fun hb => ?_) | refine partB_intro (fun hb => ?_) (fun hb => ?_) | refine And.intro ?_ ?_)
              all_goals first | exact True.intro | omega | with_reducible rfl | exact congrArg (AV.int _) (by omega) | (first | rfl)
            · rintro a rfl
              have ho0 : 0 < o.length := hf.n1
              rw [if_neg hw] at ew
              rw [if_neg (fun hh => hw hh.1)] at ep
              have hmp := hmp ep
              have hmb := hmb (by rw [eb, eb0, ew])
              have hmw := hmw (by rw [eW, eW0, ew])
              simp only [go_sem, ↓reduceIte, Nat.reduceEqDiff, Nat.reduceBEq, Nat.reduceAdd, Nat.reduceSub, Nat.reduceLeDiff, Nat.reduceMul, Nat.reduceLT]
              simp only [hbi]
              simp only [go_sem, ↓reduceIte, Nat.reduceEqDiff, Nat.reduceBEq, Nat.reduceAdd, Nat.reduceSub, Nat.reduceLeDiff, Nat.reduceMul, Nat.reduceLT]
              refine fork_intro (fun hd => ⟨by omega, fork_intro (fun h1 => by omega) (fun h1 => ?_)⟩) (fun hd => by omega)
              repeat' (first | refine fork_intro (fun hb => ?_) (fun hb => ?_) | refine partB_intro (fun hb => ?_) (fun hb => ?_) | refine And.intro ?_ ?_)
              all_goals first | exact True.intro | omega | with_reducible rfl | exact congrArg (AV.int _) (by omega) | (refine LoopEnd.intro (j + 1) (by first | omega) (by first | omega | (dsimp only; omega)) (by omega) ?_; simp only [go_sem, ↓reduceIte, Nat.reduceEqDiff, Nat.reduceBEq, Nat.reduceAdd, Nat.reduceSub, Nat.reduceLeDiff, Nat.reduceMul, Nat.reduceLT]; (repeat' (first | refine fork_intro (fun hb => ?_) (fun hb => ?_) | refine partB_intro (fun hb => ?_) (fun hb => ?_) | refine And.intro ?_ ?_)); all_goals first | exact True.intro | omega | with_reducible rfl | exact congrArg (AV.int _) (by omega) | (first | rfl | rw [hmp] | rw [hmb] | rw [hmw])) | (first | rfl | rw [hmp] | rw [hmb] | rw [hmw])
        · have ej : j = d.length := by omega
          subst ej
          have e0 : over (gsett o d s).p s.p d.length = (gsett o d s).p := by rw [← lp]; exact over_end _ _ (by omega)
          have e1 : over (stB (gsett o d s).w) (stB s.w) d.length = stB (gsett o d s).w := by rw [← lb]; exact over_end _ _ (by omega)
          have e2 : over (stW (gsett o d s).w) (stW s.w) d.length = stW (gsett o d s).w := by rw [← lW]; exact over_end _ _ (by omega)
          rw [e0, e1, e2]
          repeat' (first | refine fork_intro (fun hb => ?_) (fun hb => ?_) | refine partB_intro (fun hb => ?_) (fun hb => ?_) | refine And.intro ?_ ?_)
          all_goals first | exact True.intro | omega | with_reducible rfl | exact congrArg (AV.int _) (by omega) | (first | rfl)
def t_settleS : Table := [(125, mutC 4 g_settleS)]
theorem t_settleS_ok : TabOK Try.prog t_settleS := .cons Try.func125 (by kernel_rfl) (.mut (by intro args pre _ hp; unfold g_settleS at hp ⊢; split at hp <;> first | exact hp.elim | exact settleS_ok _ _ _ _ _ _ _ hp)) (.nil _)
attribute [go_sem] g_settleS_eq t_settleS
end Go.Proofs.Ytibomnplkclkmaa
