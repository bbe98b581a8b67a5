/- Texts joined: A28 A29 A30 PlQ XR. -/
import Derived.Test.YteefjdbdknkcjaaGreatJ6
import Derived.Test.YteefjdbdknkcjaaGreatTy
import Derived.WalkKit
import Derived.Laws.CopyOwn
import Derived.Deep.OwnRows
import Derived.Deep.LoopGhost
import Derived.Shelf.Abstract
namespace Go.Proofs.YteefjdbdknkcjaaGreat
open Go.Vc
set_option maxRecDepth 100000
set_option maxHeartbeats 1600000
set_option linter.unusedSimpArgs false
set_option linter.unusedVariables false

def g_grownO : List AV -> Prop × AV × Heap
  | [.agg [.int .i64 now, .ints p, .bools bs, .ints wt, .ints t]] => (p.length <= 1000 /\ bs.length = p.length, .sl 0, [(0, .arr (.ints (tab p.length fun j => if ix bs (j : Int) = true then ix p (j : Int) else now)))])
  | _ => (False, .undef, [])
theorem g_grownO_eq (now : Int) (p : List Int) (bs : List Bool) (wt t : List Int) : g_grownO [.agg [.int .i64 now, .ints p, .bools bs, .ints wt, .ints t]] = (p.length <= 1000 /\ bs.length = p.length, .sl 0, [(0, .arr (.ints (tab p.length fun j => if ix bs (j : Int) = true then ix p (j : Int) else now)))]) := (rfl)
theorem grownO_ok (now : Int) (p : List Int) (bs : List Bool) (wt t : List Int) (hp : p.length <= 1000 /\ bs.length = p.length) : SpecOK Tryz.prog 152 [.agg [.int .i64 now, .ints p, .bools bs, .ints wt, .ints t]] (.sl 0) [(0, .arr (.ints (tab p.length fun j => if ix bs (j : Int) = true then ix p (j : Int) else now)))] := by
  refine fun_ok (C := []) (hint := hintX [6] [] 0 [] [] [] []) (TabOK.nil _) mixed Tryz.func152 rfl (by kernel_rfl) rfl ?_
  show codeA _ _ _ _ _ _ _ _
  simp only [go_sem, Tryz.results152]
  obtain ⟨h0, h1⟩ := hp
  refine loop_intro (fun j : Nat => [(3, .sl 0), (4, .int .i64 j), (1, .iptr [.int .i64 now, .ints p, .bools bs, .ints wt, .ints t])]) (fun j => [(0, .arr (.ints (tab j fun j => if ix bs (j : Int) = true then ix p (j : Int) else now)))]) 1 (fun j => j <= p.length) (fun j => p.length - j) 0 (Nat.zero_le _) (by omega) ?_ ?_
  · simp only [go_sem]
    repeat' (first | refine fork_intro (fun hb => ?_) (fun hb => ?_) | refine partB_intro (fun hb => ?_) (fun hb => ?_) | refine And.intro ?_ ?_)
    all_goals first | exact True.intro | omega | with_reducible rfl | exact congrArg (AV.int _) (by omega) | (first | rfl)
  · intro j hj
    have hl : (tab j fun j => if ix bs (j : Int) = true then ix p (j : Int) else now).length = j := tab_len _ _
    have e := tab_succ j (fun j => if ix bs (j : Int) = true then ix p (j : Int) else now)
    simp only [go_sem]
    refine fork_intro (fun hc => ?_) (fun hc => ?_)
    · refine ⟨by omega, partB_intro (fun hb => ?_) (fun hb => ?_)⟩
      · rw [if_pos hb] at e
        repeat' (first | refine fork_intro (fun hb => ?_) (fun hb => ?_) | refine partB_intro (fun hb => ?_) (fun hb => ?_) | refine And.intro ?_ ?_)
        all_goals first | exact True.intro | omega | with_reducible rfl | exact congrArg (AV.int _) (by omega) | (refine LoopEnd.intro (j + 1) (by first | omega) (by first | omega | (dsimp only; omega)) (by omega) ?_; simp only [go_sem]; (repeat' (first | refine fork_intro (fun hb => ?_) (fun hb => ?_) | refine partB_intro (fun hb => ?_) (fun hb => ?_) | refine And.intro ?_ ?_)); all_goals first | exact True.intro | omega | with_reducible rfl | exact congrArg (AV.int _) (by omega) | (first | rw [e])) | (first | rw [e])
      · rw [if_neg (by rw [hb]; decide)] at e
        repeat' (first | refine fork_intro (fun hb => ?_) (fun hb => ?_) | refine partB_intro (fun hb => ?_) (fun hb => ?_) | refine And.intro ?_ ?_)
        all_goals first | exact True.intro | omega | with_reducible rfl | exact congrArg (AV.int _) (by omega) | (refine LoopEnd.intro (j + 1) (by first | omega) (by first | omega | (dsimp only; omega)) (by omega) ?_; simp only [go_sem]; (repeat' (first | refine fork_intro (fun hb => ?_) (fun hb => ?_) | refine partB_intro (fun hb => ?_) (fun hb => ?_) | refine And.intro ?_ ?_)); all_goals first | exact True.intro | omega | with_reducible rfl | exact congrArg (AV.int _) (by omega) | (first | rw [e])) | (first | rw [e])
    · rw [show j = p.length by omega]
def t_grownO : Table := [(152, ownC g_grownO)]
theorem t_grownO_ok : TabOK Tryz.prog t_grownO := .cons Tryz.func152 (by kernel_rfl) (.own (by intro args hp; unfold g_grownO at hp ⊢; split at hp <;> first | exact hp.elim | exact ⟨grownO_ok _ _ _ _ _ hp, rfl⟩)) (.nil _)
attribute [go_sem] g_grownO_eq t_grownO
def g_settleS : List AV -> Heap -> Prop × AV × Heap
  | [.agg [.ints o, .rows d], .agg [.int .i64 now, .sl 0, .sl 1, .sl 2, .sl 3]], [(0, .arr (.ints p)), (1, .arr (.bools bs)), (2, .arr (.ints wt)), (3, .arr (.ints t))] => (∃ s, GInv o d s /\ now = s.now /\ p = s.p /\ bs = stB s.w /\ wt = stW s.w /\ t = s.t, .agg [.int .i64 now, .sl 0, .sl 1, .sl 2, .sl 3], [(0, .arr (.ints (gsett o d ⟨now, p, unW bs wt, t⟩).p)), (1, .arr (.bools (stB (gsett o d ⟨now, p, unW bs wt, t⟩).w))), (2, .arr (.ints (stW (gsett o d ⟨now, p, unW bs wt, t⟩).w))), (3, .arr (.ints (gsett o d ⟨now, p, unW bs wt, t⟩).t))])
  | _, _ => (False, .undef, [])
theorem g_settleS_eq (o : List Int) (d : List (List Int)) (now : Int) (p : List Int) (bs : List Bool) (wt t : List Int) : g_settleS [.agg [.ints o, .rows d], .agg [.int .i64 now, .sl 0, .sl 1, .sl 2, .sl 3]] [(0, .arr (.ints p)), (1, .arr (.bools bs)), (2, .arr (.ints wt)), (3, .arr (.ints t))] = (∃ s, GInv o d s /\ now = s.now /\ p = s.p /\ bs = stB s.w /\ wt = stW s.w /\ t = s.t, .agg [.int .i64 now, .sl 0, .sl 1, .sl 2, .sl 3], [(0, .arr (.ints (gsett o d ⟨now, p, unW bs wt, t⟩).p)), (1, .arr (.bools (stB (gsett o d ⟨now, p, unW bs wt, t⟩).w))), (2, .arr (.ints (stW (gsett o d ⟨now, p, unW bs wt, t⟩).w))), (3, .arr (.ints (gsett o d ⟨now, p, unW bs wt, t⟩).t))]) := (rfl)
theorem settleS_ok (o : List Int) (d : List (List Int)) (now : Int) (p : List Int) (bs : List Bool) (wt t : List Int) (hp : ∃ s, GInv o d s /\ now = s.now /\ p = s.p /\ bs = stB s.w /\ wt = stW s.w /\ t = s.t) : SpecM Tryz.prog 118 [.agg [.ints o, .rows d], .agg [.int .i64 now, .sl 0, .sl 1, .sl 2, .sl 3]] [(0, .arr (.ints p)), (1, .arr (.bools bs)), (2, .arr (.ints wt)), (3, .arr (.ints t))] 4 (.agg [.int .i64 now, .sl 0, .sl 1, .sl 2, .sl 3]) [(0, .arr (.ints (gsett o d ⟨now, p, unW bs wt, t⟩).p)), (1, .arr (.bools (stB (gsett o d ⟨now, p, unW bs wt, t⟩).w))), (2, .arr (.ints (stW (gsett o d ⟨now, p, unW bs wt, t⟩).w))), (3, .arr (.ints (gsett o d ⟨now, p, unW bs wt, t⟩).t))] := by
  refine fun_okM (C := t_grownO ++ t_claimS ++ t_earlierS) (hint := hintX [3, 4, 11] [] 4 [] [] [] []) (((t_grownO_ok).append t_claimS_ok).append t_earlierS_ok) mixed Tryz.func118 rfl (by kernel_rfl) rfl (Nat.le_refl _) (upTo_look rfl) (shapes ?_) ?_
  · obtain ⟨s, h, rfl, rfl, rfl, rfl, rfl⟩ := hp; rw [h.un]; exact ⟨fun k' h' => by cases h'; exact ss_ints (by rw [h.lp, show (gsett o d s).p.length = d.length from tab_len _ _]), fun k' h' => by cases h'; exact ss_bools (by rw [stB_len, stB_len, h.lw, show (gsett o d s).w.length = d.length from tab_len _ _]), fun k' h' => by cases h'; exact ss_ints (by rw [stW_len, stW_len, h.lw, show (gsett o d s).w.length = d.length from tab_len _ _]), fun k' h' => by cases h'; exact ss_ints (by rw [h.lt, show (gsett o d s).t.length = o.length from tab_len _ _]), trivial⟩
  show codeA _ _ _ _ _ _ _ _
  simp only [go_sem, Tryz.results118]
  obtain ⟨s, h, rfl, rfl, rfl, rfl, rfl⟩ := hp
  rw [h.un]
  have hf := h.f
  have hm := hf.m7
  have hn := hf.n7
  have hn0 := h.n0
  have lp := h.lp
  have lw := h.lw
  have lt := h.lt
  have lb : (stB s.w).length = d.length := by rw [stB_len, lw]
  have lW : (stW s.w).length = d.length := by rw [stW_len, lw]
  have lp2 : (gsett o d s).p.length = d.length := tab_len _ _
  have lw2 : (gsett o d s).w.length = d.length := tab_len _ _
  have lt2 : (gti o d s).length = o.length := tab_len _ _
  have lb2 : (stB (gsett o d s).w).length = d.length := by rw [stB_len, lw2]
  have lW2 : (stW (gsett o d s).w).length = d.length := by rw [stW_len, lw2]
  have hclm := h.clm
  have hbd := fun {a : Nat} (ha : a < o.length) => gcl_bd h ha
  refine ⟨⟨by omega, by rw [lb, lp]⟩, ?_⟩
  rw [show (tab s.p.length fun j => if ix (stB s.w) (j : Int) = true then ix s.p (j : Int) else s.now) = gpr d s from gpr_view lp lw]
  have hgl : (gpr d s).length = d.length := gpr_len
  refine loop_intro (fun a : Nat => [(6, .int .i64 a), (2, .iptr [.ints o, .rows d]), (3, .bx 4 0), (4, .bx 5 0), (5, .sl 6)]) (fun a => [(0, .arr (.ints s.p)), (1, .arr (.bools (stB s.w))), (2, .arr (.ints (stW s.w))), (3, .arr (.ints (over (gti o d s) s.t a))), (4, .box [.int .i64 s.now, .sl 0, .sl 1, .sl 2, .sl 3]), (5, .box [.int .i64 0, .nils, .nils, .nils, .nils]), (6, .arr (.ints (gpr d s)))]) 7 (fun a => a <= o.length) (fun a => o.length - a) 0 (Nat.zero_le _) (by omega) ?_ ?_
  · simp only [go_sem]
    repeat' (first | refine fork_intro (fun hb => ?_) (fun hb => ?_) | refine partB_intro (fun hb => ?_) (fun hb => ?_) | refine And.intro ?_ ?_)
    all_goals first | exact True.intro | omega | with_reducible rfl | exact congrArg (AV.int _) (by omega) | (first | rfl | simp [over_zero])
  · intro a ha
    have hol := over_len (gti o d s) s.t (by omega) (show a <= s.t.length by omega)
    simp only [go_sem]
    refine fork_intro (fun hc => ?_) (fun hc => ?_)
    · have hao : a < o.length := by omega
      have hi := over_ix (gti o d s) s.t (by omega) (show a < s.t.length by omega)
      have hs := over_set (gti o d s) s.t (by omega) (show a < s.t.length by omega)
      have hsm := over_same (ys := gti o d s) (xs := s.t) (k := a) (by omega) (by omega)
      have eg := gti_ix (d := d) (s := s) hao
      have ec : clm d (gpr d s) 2520 (a : Int) = gcl d s a := rfl
      have ho := h.opn hao
      simp only [hi, ec]
      refine ⟨by omega, fork_intro (fun h1 => ?_) (fun h1 => ?_)⟩
      · refine ⟨⟨hclm, by omega, by omega⟩, by omega, by omega, fork_intro (fun h2 => ?_) (fun h2 => ?_)⟩
        · rw [if_pos ⟨h1, h2⟩] at eg
          rw [eg] at hs
          repeat' (first | refine fork_intro (fun hb => ?_) (fun hb => ?_) | refine partB_intro (fun hb => ?_) (fun hb => ?_) | refine And.intro ?_ ?_)
          all_goals first | exact True.intro | omega | with_reducible rfl | exact congrArg (AV.int _) (by omega) | (refine LoopEnd.intro (a + 1) (by first | omega) (by first | omega | (dsimp only; omega)) (by omega) ?_; simp only [go_sem]; (repeat' (first | refine fork_intro (fun hb => ?_) (fun hb => ?_) | refine partB_intro (fun hb => ?_) (fun hb => ?_) | refine And.intro ?_ ?_)); all_goals first | exact True.intro | omega | with_reducible rfl | exact congrArg (AV.int _) (by omega) | (first | rfl | rw [hs])) | (first | rfl | rw [hs])
        · rw [if_neg (fun hh => h2 hh.2)] at eg
          have hsm := hsm eg
          repeat' (first | refine fork_intro (fun hb => ?_) (fun hb => ?_) | refine partB_intro (fun hb => ?_) (fun hb => ?_) | refine And.intro ?_ ?_)
          all_goals first | exact True.intro | omega | with_reducible rfl | exact congrArg (AV.int _) (by omega) | (refine LoopEnd.intro (a + 1) (by first | omega) (by first | omega | (dsimp only; omega)) (by omega) ?_; simp only [go_sem]; (repeat' (first | refine fork_intro (fun hb => ?_) (fun hb => ?_) | refine partB_intro (fun hb => ?_) (fun hb => ?_) | refine And.intro ?_ ?_)); all_goals first | exact True.intro | omega | with_reducible rfl | exact congrArg (AV.int _) (by omega) | (first | rfl | rw [hsm])) | (first | rfl | rw [hsm])
      · rw [if_neg (fun hh => h1 hh.1)] at eg
        have hsm := hsm eg
        repeat' (first | refine fork_intro (fun hb => ?_) (fun hb => ?_) | refine partB_intro (fun hb => ?_) (fun hb => ?_) | refine And.intro ?_ ?_)
        all_goals first | exact True.intro | omega | with_reducible rfl | exact congrArg (AV.int _) (by omega) | (refine LoopEnd.intro (a + 1) (by first | omega) (by first | omega | (dsimp only; omega)) (by omega) ?_; simp only [go_sem]; (repeat' (first | refine fork_intro (fun hb => ?_) (fun hb => ?_) | refine partB_intro (fun hb => ?_) (fun hb => ?_) | refine And.intro ?_ ?_)); all_goals first | exact True.intro | omega | with_reducible rfl | exact congrArg (AV.int _) (by omega) | (first | rfl | rw [hsm])) | (first | rfl | rw [hsm])
    · have ea : a = o.length := by omega
      subst ea
      rw [show over (gti o d s) s.t o.length = gti o d s by rw [<- lt]; exact over_end _ _ (by omega)]
      refine loop_intro (fun j : Nat => [(7, .int .i64 j), (2, .iptr [.ints o, .rows d]), (3, .bx 4 0), (4, .bx 5 0), (5, .sl 6)]) (fun j => [(0, .arr (.ints (over (gsett o d s).p s.p j))), (1, .arr (.bools (over (stB (gsett o d s).w) (stB s.w) j))), (2, .arr (.ints (over (stW (gsett o d s).w) (stW s.w) j))), (3, .arr (.ints (gti o d s))), (4, .box [.int .i64 s.now, .sl 0, .sl 1, .sl 2, .sl 3]), (5, .box [.int .i64 0, .nils, .nils, .nils, .nils]), (6, .arr (.ints (gpr d s)))]) 7 (fun j => j <= d.length) (fun j => d.length - j) 0 (Nat.zero_le _) (by omega) ?_ ?_
      · simp only [go_sem]
        repeat' (first | refine fork_intro (fun hb => ?_) (fun hb => ?_) | refine partB_intro (fun hb => ?_) (fun hb => ?_) | refine And.intro ?_ ?_)
        all_goals first | exact True.intro | omega | with_reducible rfl | exact congrArg (AV.int _) (by omega) | (first | rfl | simp [over_zero])
      · intro j hj
        simp only [go_sem]
        refine fork_intro (fun hc => ?_) (fun hc => ?_)
        · have hjd : j < d.length := by omega
          have hwl : j < s.w.length := by omega
          have hbi := over_ix (stB (gsett o d s).w) (stB s.w) (k := j) (by omega) (by omega)
          rw [stB_ix hwl] at hbi
          have hsp := over_set (gsett o d s).p s.p (k := j) (by omega) (by omega)
          have hsb := over_set (stB (gsett o d s).w) (stB s.w) (k := j) (by omega) (by omega)
          have hsw := over_set (stW (gsett o d s).w) (stW s.w) (k := j) (by omega) (by omega)
          have hmp := over_same (ys := (gsett o d s).p) (xs := s.p) (k := j) (by omega) (by omega)
          have hmb := over_same (ys := stB (gsett o d s).w) (xs := stB s.w) (k := j) (by omega) (by omega)
          have hmw := over_same (ys := stW (gsett o d s).w) (xs := stW s.w) (k := j) (by omega) (by omega)
          have hl0 := over_len (gsett o d s).p s.p (k := j) (by omega) (by omega)
          have hl1 := over_len (stB (gsett o d s).w) (stB s.w) (k := j) (by omega) (by omega)
          have hl2 := over_len (stW (gsett o d s).w) (stW s.w) (k := j) (by omega) (by omega)
          have ep := set_p (o := o) (s := s) hjd
          have ew := set_w (o := o) (s := s) hjd
          have eb := stB_ix (w := (gsett o d s).w) (j := j) (by omega)
          have eW := stW_ix (w := (gsett o d s).w) (j := j) (by omega)
          have eb0 := stB_ix hwl
          have eW0 := stW_ix hwl
          have hwb := wit_bd (o := o) (d := d) (s := s) j
          have hr := ix_mem d (k := j) hjd
          have hrl := hf.len _ hr
          by_cases hw : ix s.w (j : Int) < 0
          · rw [decide_eq_false (by omega)] at hbi
            refine loop_intro (fun a : Nat => [(9, .int .i64 a), (8, .int .i64 (witF s.now (gti o d s) (ix d (j : Int)) a)), (7, .int .i64 j), (2, .iptr [.ints o, .rows d]), (3, .bx 4 0), (4, .bx 5 0), (5, .sl 6)]) (fun _ => [(0, .arr (.ints (over (gsett o d s).p s.p j))), (1, .arr (.bools (over (stB (gsett o d s).w) (stB s.w) j))), (2, .arr (.ints (over (stW (gsett o d s).w) (stW s.w) j))), (3, .arr (.ints (gti o d s))), (4, .box [.int .i64 s.now, .sl 0, .sl 1, .sl 2, .sl 3]), (5, .box [.int .i64 0, .nils, .nils, .nils, .nils]), (6, .arr (.ints (gpr d s)))]) 7 (fun a => a <= o.length) (fun a => o.length - a) 0 (Nat.zero_le _) (by omega) ?_ ?_
            · simp only [go_sem]
              repeat' (first | refine fork_intro (fun hb => ?_) (fun hb => ?_) | refine partB_intro (fun hb => ?_) (fun hb => ?_) | refine And.intro ?_ ?_)
              all_goals first | exact True.intro | omega | with_reducible rfl | exact congrArg (AV.int _) (by omega) | (first | rfl)
            · intro a ha
              have hwa := witF_bd s.now (gti o d s) (ix d (j : Int)) a
              have e : witF s.now (gti o d s) (ix d (j : Int)) (a + 1) = if (0 <= ix (gti o d s) (a : Int) /\ 2520 * ix (ix d (j : Int)) (a : Int) <= s.now) /\ (witF s.now (gti o d s) (ix d (j : Int)) a < 0 \/ ix (gti o d s) (a : Int) < ix (gti o d s) (witF s.now (gti o d s) (ix d (j : Int)) a)) then (a : Int) else witF s.now (gti o d s) (ix d (j : Int)) a := rfl
              simp only [go_sem]
              simp only [hbi]
              simp only [go_sem]
              refine fork_intro (fun hd => ?_) (fun hd => ?_)
              · have hde := h.ent hjd (show a < o.length by omega)
                refine ⟨by omega, by omega, fork_intro (fun h1 => ?_) (fun h1 => ?_)⟩
                · refine ⟨by omega, by omega, by omega, fork_intro (fun h2 => fork_intro (fun h3 => ?_) (fun h3 => ?_)) (fun h2 => ?_)⟩
                  · rw [if_pos ⟨⟨h1, h2⟩, .inl h3⟩] at e
                    repeat' (first | refine fork_intro (fun hb => ?_) (fun hb => ?_) | refine partB_intro (fun hb => ?_) (fun hb => ?_) | refine And.intro ?_ ?_)
                    all_goals first | exact True.intro | omega | with_reducible rfl | exact congrArg (AV.int _) (by omega) | (refine LoopEnd.intro (a + 1) (by first | omega) (by first | omega | (dsimp only; omega)) (by omega) ?_; simp only [go_sem]; (repeat' (first | refine fork_intro (fun hb => ?_) (fun hb => ?_) | refine partB_intro (fun hb => ?_) (fun hb => ?_) | refine And.intro ?_ ?_)); all_goals first | exact True.intro | omega | with_reducible rfl | exact congrArg (AV.int _) (by omega) | (first | rfl | rw [e])) | (first | rfl | rw [e])
                  · refine ⟨by omega, fork_intro (fun h4 => ?_) (fun h4 => ?_)⟩
                    · rw [if_pos ⟨⟨h1, h2⟩, .inr (by omega)⟩] at e
                      repeat' (first | refine fork_intro (fun hb => ?_) (fun hb => ?_) | refine partB_intro (fun hb => ?_) (fun hb => ?_) | refine And.intro ?_ ?_)
                      all_goals first | exact True.intro | omega | with_reducible rfl | exact congrArg (AV.int _) (by omega) | (refine LoopEnd.intro (a + 1) (by first | omega) (by first | omega | (dsimp only; omega)) (by omega) ?_; simp only [go_sem]; (repeat' (first | refine fork_intro (fun hb => ?_) (fun hb => ?_) | refine partB_intro (fun hb => ?_) (fun hb => ?_) | refine And.intro ?_ ?_)); all_goals first | exact True.intro | omega | with_reducible rfl | exact congrArg (AV.int _) (by omega) | (first | rfl | rw [e])) | (first | rfl | rw [e])
                    · rw [if_neg (fun hh => by omega)] at e
                      repeat' (first | refine fork_intro (fun hb => ?_) (fun hb => ?_) | refine partB_intro (fun hb => ?_) (fun hb => ?_) | refine And.intro ?_ ?_)
                      all_goals first | exact True.intro | omega | with_reducible rfl | exact congrArg (AV.int _) (by omega) | (refine LoopEnd.intro (a + 1) (by first | omega) (by first | omega | (dsimp only; omega)) (by omega) ?_; simp only [go_sem]; (repeat' (first | refine fork_intro (fun hb => ?_) (fun hb => ?_) | refine partB_intro (fun hb => ?_) (fun hb => ?_) | refine And.intro ?_ ?_)); all_goals first | exact True.intro | omega | with_reducible rfl | exact congrArg (AV.int _) (by omega) | (first | rfl | rw [e])) | (first | rfl | rw [e])
                  · rw [if_neg (fun hh => h2 hh.1.2)] at e
                    repeat' (first | refine fork_intro (fun hb => ?_) (fun hb => ?_) | refine partB_intro (fun hb => ?_) (fun hb => ?_) | refine And.intro ?_ ?_)
                    all_goals first | exact True.intro | omega | with_reducible rfl | exact congrArg (AV.int _) (by omega) | (refine LoopEnd.intro (a + 1) (by first | omega) (by first | omega | (dsimp only; omega)) (by omega) ?_; simp only [go_sem]; (repeat' (first | refine fork_intro (fun hb => ?_) (fun hb => ?_) | refine partB_intro (fun hb => ?_) (fun hb => ?_) | refine And.intro ?_ ?_)); all_goals first | exact True.intro | omega | with_reducible rfl | exact congrArg (AV.int _) (by omega) | (first | rfl | rw [e])) | (first | rfl | rw [e])
                · rw [if_neg (fun hh => h1 hh.1.1)] at e
                  repeat' (first | refine fork_intro (fun hb => ?_) (fun hb => ?_) | refine partB_intro (fun hb => ?_) (fun hb => ?_) | refine And.intro ?_ ?_)
                  all_goals first | exact True.intro | omega | with_reducible rfl | exact congrArg (AV.int _) (by omega) | (refine LoopEnd.intro (a + 1) (by first | omega) (by first | omega | (dsimp only; omega)) (by omega) ?_; simp only [go_sem]; (repeat' (first | refine fork_intro (fun hb => ?_) (fun hb => ?_) | refine partB_intro (fun hb => ?_) (fun hb => ?_) | refine And.intro ?_ ?_)); all_goals first | exact True.intro | omega | with_reducible rfl | exact congrArg (AV.int _) (by omega) | (first | rfl | rw [e])) | (first | rfl | rw [e])
              · have ea : a = o.length := by omega
                subst ea
                have ewt : witF s.now (gti o d s) (ix d (j : Int)) o.length = wit o d s j := rfl
                rw [ewt]
                rw [if_pos hw] at ew
                refine fork_intro (fun h1 => ?_) (fun h1 => ?_)
                · rw [if_pos ⟨hw, h1⟩] at ep
                  rw [ep] at hsp
                  rw [eb, ew, decide_eq_true h1] at hsb
                  rw [eW, ew, show max 0 (wit o d s j) = wit o d s j by omega] at hsw
                  repeat' (first | refine fork_intro (fun hb => ?_) (fun hb => ?_) | refine partB_intro (fun hb => ?_) (fun hb => ?_) | refine And.intro ?_ ?_)
                  all_goals first | exact True.intro | omega | with_reducible rfl | exact congrArg (AV.int _) (by omega) | (refine LoopEnd.intro (j + 1) (by first | omega) (by first | omega | (dsimp only; omega)) (by omega) ?_; simp only [go_sem]; (repeat' (first | refine fork_intro (fun hb => ?_) (fun hb => ?_) | refine partB_intro (fun hb => ?_) (fun hb => ?_) | refine And.intro ?_ ?_)); all_goals first | exact True.intro | omega | with_reducible rfl | exact congrArg (AV.int _) (by omega) | (first | rfl | rw [hsp] | rw [hsb] | rw [hsw])) | (first | rfl | rw [hsp] | rw [hsb] | rw [hsw])
                · rw [if_neg (fun hh => h1 hh.2)] at ep
                  have hmp := hmp ep
                  have hmb := hmb (by rw [eb, eb0, ew, decide_eq_false h1, decide_eq_false (by omega)])
                  have hmw := hmw (by rw [eW, eW0, ew]; omega)
                  repeat' (first | refine fork_intro (fun hb => ?_) (fun hb => ?_) | refine partB_intro (fun hb => ?_) (fun hb => ?_) | refine And.intro ?_ ?_)
                  all_goals first | exact True.intro | omega | with_reducible rfl | exact congrArg (AV.int _) (by omega) | (refine LoopEnd.intro (j + 1) (by first | omega) (by first | omega | (dsimp only; omega)) (by omega) ?_; simp only [go_sem]; (repeat' (first | refine fork_intro (fun hb => ?_) (fun hb => ?_) | refine partB_intro (fun hb => ?_) (fun hb => ?_) | refine And.intro ?_ ?_)); all_goals first | exact True.intro | omega | with_reducible rfl | exact congrArg (AV.int _) (by omega) | (first | rfl | rw [hmp] | rw [hmb] | rw [hmw])) | (first | rfl | rw [hmp] | rw [hmb] | rw [hmw])
          · rw [decide_eq_true (by omega)] at hbi
            refine loop_intro (fun a : Nat => [(9, .int .i64 a), (8, .int .i64 (-1)), (7, .int .i64 j), (2, .iptr [.ints o, .rows d]), (3, .bx 4 0), (4, .bx 5 0), (5, .sl 6)]) (fun _ => [(0, .arr (.ints (over (gsett o d s).p s.p j))), (1, .arr (.bools (over (stB (gsett o d s).w) (stB s.w) j))), (2, .arr (.ints (over (stW (gsett o d s).w) (stW s.w) j))), (3, .arr (.ints (gti o d s))), (4, .box [.int .i64 s.now, .sl 0, .sl 1, .sl 2, .sl 3]), (5, .box [.int .i64 0, .nils, .nils, .nils, .nils]), (6, .arr (.ints (gpr d s)))]) 7 (fun a => a = 0) (fun a => o.length - a) 0 rfl (by omega) ?_ ?_
            · simp only [go_sem]
              repeat' (first | refine fork_intro (fun hb => ?_) (fun hb => ?_) | refine partB_intro (fun hb => ?_) (fun hb => ?_) | refine And.intro ?_ ?_)
              all_goals first | exact True.intro | omega | with_reducible rfl | exact congrArg (AV.int _) (by omega) | (first | rfl)
            · rintro a rfl
              have ho0 : 0 < o.length := hf.n1
              rw [if_neg hw] at ew
              rw [if_neg (fun hh => hw hh.1)] at ep
              have hmp := hmp ep
              have hmb := hmb (by rw [eb, eb0, ew])
              have hmw := hmw (by rw [eW, eW0, ew])
              simp only [go_sem]
              simp only [hbi]
              simp only [go_sem]
              refine fork_intro (fun hd => ⟨by omega, fork_intro (fun h1 => by omega) (fun h1 => ?_)⟩) (fun hd => by omega)
              repeat' (first | refine fork_intro (fun hb => ?_) (fun hb => ?_) | refine partB_intro (fun hb => ?_) (fun hb => ?_) | refine And.intro ?_ ?_)
              all_goals first | exact True.intro | omega | with_reducible rfl | exact congrArg (AV.int _) (by omega) | (refine LoopEnd.intro (j + 1) (by first | omega) (by first | omega | (dsimp only; omega)) (by omega) ?_; simp only [go_sem]; (repeat' (first | refine fork_intro (fun hb => ?_) (fun hb => ?_) | refine partB_intro (fun hb => ?_) (fun hb => ?_) | refine And.intro ?_ ?_)); all_goals first | exact True.intro | omega | with_reducible rfl | exact congrArg (AV.int _) (by omega) | (first | rfl | rw [hmp] | rw [hmb] | rw [hmw])) | (first | rfl | rw [hmp] | rw [hmb] | rw [hmw])
        · have ej : j = d.length := by omega
          subst ej
          have e0 : over (gsett o d s).p s.p d.length = (gsett o d s).p := by rw [<- lp]; exact over_end _ _ (by omega)
          have e1 : over (stB (gsett o d s).w) (stB s.w) d.length = stB (gsett o d s).w := by rw [<- lb]; exact over_end _ _ (by omega)
          have e2 : over (stW (gsett o d s).w) (stW s.w) d.length = stW (gsett o d s).w := by rw [<- lW]; exact over_end _ _ (by omega)
          rw [e0, e1, e2]
          repeat' (first | refine fork_intro (fun hb => ?_) (fun hb => ?_) | refine partB_intro (fun hb => ?_) (fun hb => ?_) | refine And.intro ?_ ?_)
          all_goals first | exact True.intro | omega | with_reducible rfl | exact congrArg (AV.int _) (by omega) | (first | rfl)
def t_settleS : Table := [(118, mutC 4 g_settleS)]
theorem t_settleS_ok : TabOK Tryz.prog t_settleS := .cons Tryz.func118 (by kernel_rfl) (.mut (by intro args pre _ hp; unfold g_settleS at hp ⊢; split at hp <;> first | exact hp.elim | exact settleS_ok _ _ _ _ _ _ _ hp)) (.nil _)
attribute [go_sem] g_settleS_eq t_settleS
end Go.Proofs.YteefjdbdknkcjaaGreat
namespace Go.Proofs.YteefjdbdknkcjaaGreat
open Go.Vc
set_option maxRecDepth 100000
set_option maxHeartbeats 1600000
set_option linter.unusedSimpArgs false
set_option linter.unusedVariables false

theorem st0_views (n m : Nat) : stB (st0 n m).w = List.replicate m false /\ stW (st0 n m).w = List.replicate m 0 := by
  exact ⟨by unfold stB st0; simp, by unfold stW st0; rw [List.map_replicate]; rfl⟩
theorem moving_view {d : List (List Int)} {t : St} (h : t.w.length = d.length) : (∃ j, j < (stB t.w).length /\ ix (stB t.w) (j : Int) = false) ↔ movingP d t := by
  unfold movingP
  rw [stB_len, h]
  refine exists_congr fun j => and_congr_right fun hj => ?_
  rw [stB_ix (by omega)]; simp

def g_growS : List AV -> Prop × AV
  | [.agg [.ints o, .rows d]] => (FieldOK o d, .agg [.int .i64 (grown o d).now, .ints (grown o d).p, .bools (stB (grown o d).w), .ints (stW (grown o d).w), .ints (grown o d).t])
  | _ => (False, .undef)
theorem g_growS_eq (o : List Int) (d : List (List Int)) : g_growS [.agg [.ints o, .rows d]] = (FieldOK o d, .agg [.int .i64 (grown o d).now, .ints (grown o d).p, .bools (stB (grown o d).w), .ints (stW (grown o d).w), .ints (grown o d).t]) := (rfl)
theorem growS_ok (o : List Int) (d : List (List Int)) (hp : FieldOK o d) : SpecOK Tryz.prog 54 [.agg [.ints o, .rows d]] (.agg [.int .i64 (grown o d).now, .ints (grown o d).p, .bools (stB (grown o d).w), .ints (stW (grown o d).w), .ints (grown o d).t]) [] := by
  refine fun_ok (C := t_settleS ++ t_movingS ++ t_stepS) (hint := hintX [2, 3, 8, 12, 16] [(1, [.post, .upf 3 4 (.arr (.ints []))])] 0 [118] [] [] []) (((t_settleS_ok).append t_movingS_ok).append t_stepS_ok) mixed Tryz.func54 rfl (by kernel_rfl) rfl ?_
  show codeA _ _ _ _ _ _ _ _
  simp only [go_sem, Tryz.results54]
  have hn := hp.n7
  have hm := hp.m7
  have h0 := st0_inv hp
  obtain ⟨v1, v2⟩ := st0_views o.length d.length
  have e0 : St.mk 0 (List.replicate d.length 0) (unW (List.replicate d.length false) (List.replicate d.length 0)) (List.replicate o.length (-1)) = st0 o.length d.length := by
    have := h0.un
    rw [v1, v2] at this
    exact this
  refine ⟨by omega, by omega, by omega, ?_⟩
  refine loop_intro (fun a : Nat => [(4, .int .i64 a), (1, .iptr [.ints o, .rows d]), (2, .bx 0 0), (3, .bx 4 0)]) (fun a => [(0, .box [.int .i64 0, .nils, .nils, .nils, .nils]), (1, .arr (.ints (List.replicate d.length 0))), (2, .arr (.bools (List.replicate d.length false))), (3, .arr (.ints (List.replicate d.length 0))), (4, .box [.int .i64 0, .sl 1, .sl 2, .sl 3, .sl 5]), (5, .arr (.ints (List.replicate a (-1))))]) 6 (fun a => a <= o.length) (fun a => o.length - a) 0 (Nat.zero_le _) (by omega) ?_ ?_
  · simp only [go_sem]
    repeat' (first | refine fork_intro (fun hb => ?_) (fun hb => ?_) | refine partB_intro (fun hb => ?_) (fun hb => ?_) | refine And.intro ?_ ?_)
    all_goals first | exact True.intro | omega | with_reducible rfl | exact congrArg (AV.int _) (by omega) | (first | rfl)
  · intro a ha
    have hl : (List.replicate a (-1 : Int)).length = a := List.length_replicate
    have e : List.replicate a (-1 : Int) ++ [-1] = List.replicate (a + 1) (-1) := List.replicate_succ'.symm
    simp only [go_sem]
    refine fork_intro (fun hc => ?_) (fun hc => ?_)
    · repeat' (first | refine fork_intro (fun hb => ?_) (fun hb => ?_) | refine partB_intro (fun hb => ?_) (fun hb => ?_) | refine And.intro ?_ ?_)
      all_goals first | exact True.intro | omega | with_reducible rfl | exact congrArg (AV.int _) (by omega) | (refine LoopEnd.intro (a + 1) (by first | omega) (by first | omega | (dsimp only; omega)) (by omega) ?_; simp only [go_sem]; (repeat' (first | refine fork_intro (fun hb => ?_) (fun hb => ?_) | refine partB_intro (fun hb => ?_) (fun hb => ?_) | refine And.intro ?_ ?_)); all_goals first | exact True.intro | omega | with_reducible rfl | exact congrArg (AV.int _) (by omega) | (first | rfl | rw [e])) | (first | rfl | rw [e])
    · have ea : a = o.length := by omega
      subst ea
      refine ⟨⟨st0 o.length d.length, h0, rfl, rfl, v1.symm, v2.symm, rfl⟩, ?_⟩
      rw [e0]
      refine loop_intro (fun s : St => [(1, .iptr [.ints o, .rows d]), (2, .bx 0 0), (3, .bx 4 0)]) (fun s => [(0, .box [.int .i64 0, .nils, .nils, .nils, .nils]), (1, .arr (.ints (gsett o d s).p)), (2, .arr (.bools (stB (gsett o d s).w))), (3, .arr (.ints (stW (gsett o d s).w))), (4, .box [.int .i64 s.now, .sl 1, .sl 2, .sl 3, .sl 5]), (5, .arr (.ints (gsett o d s).t))]) 6 (fun s => Going o d s) (fun s => (1000000 - s.now).toNat) (st0 o.length d.length) (going0 hp) (by omega) ?_ ?_
      · simp only [go_sem]
        repeat' (first | refine fork_intro (fun hb => ?_) (fun hb => ?_) | refine partB_intro (fun hb => ?_) (fun hb => ?_) | refine And.intro ?_ ?_)
        all_goals first | exact True.intro | omega | with_reducible rfl | exact congrArg (AV.int _) (by omega) | (first | rfl)
      · intro s hs
        have h := hs.1
        have hn0 := h.n0
        have lw : (gsett o d s).w.length = d.length := tab_len _ _
        have lb : (stB (gsett o d s).w).length = d.length := by rw [stB_len, lw]
        have hmv := moving_view lw
        simp only [go_sem]
        refine ⟨by omega, fork_intro (fun hg => ?_) (fun hg => ?_)⟩
        · have hmov := hmv.1 hg
          obtain ⟨h2, h3⟩ := hs.next hmov
          have hb2 := h2.1.n0
          have e1 : St.mk s.now (gsett o d s).p (unW (stB (gsett o d s).w) (stW (gsett o d s).w)) (gsett o d s).t = gsett o d s := h.un2
          have e2 : St.mk (gstep o d (gsett o d s)) (gsett o d s).p (unW (stB (gsett o d s).w) (stW (gsett o d s).w)) (gsett o d s).t = adv o d (gsett o d s) := h2.1.un
          have e3 : (adv o d (gsett o d s)).now = gstep o d (gsett o d s) := rfl
          rw [e1, e2]
          refine ⟨⟨s, h, rfl, rfl, rfl, rfl, rfl⟩, ⟨adv o d (gsett o d s), h2.1, rfl, rfl, rfl, rfl, rfl⟩, ?_⟩
          refine LoopEnd.intro (adv o d (gsett o d s)) h2 (by omega) (by omega) ?_
          rw [e3]
          simp only [go_sem]
        · have hmov : ¬ movingP d (gsett o d s) := fun hh => hg (hmv.2 hh)
          have e := hs.done hmov
          rw [<- e]
          repeat' (first | refine fork_intro (fun hb => ?_) (fun hb => ?_) | refine partB_intro (fun hb => ?_) (fun hb => ?_) | refine And.intro ?_ ?_)
          all_goals first | exact True.intro | omega | with_reducible rfl | exact congrArg (AV.int _) (by omega) | (first | rfl)
def t_growS : Table := [(54, pureC g_growS)]
theorem t_growS_ok : TabOK Tryz.prog t_growS := .cons Tryz.func54 (by kernel_rfl) (.pure (by intro args hp; unfold g_growS at hp ⊢; split at hp <;> first | exact hp.elim | exact growS_ok _ _ hp)) (.nil _)
attribute [go_sem] g_growS_eq t_growS
end Go.Proofs.YteefjdbdknkcjaaGreat
namespace Go.Proofs.YteefjdbdknkcjaaGreat
open Go.Vc
set_option maxRecDepth 100000
set_option linter.unusedSimpArgs false
set_option linter.unusedVariables false

def g_lenC : List AV -> Prop × AV
  | [.int .i64 i, .int .i64 a, .iptr [.ints o, .rows d]] => (FieldOK o d /\ (0 <= i /\ i < d.length) /\ 0 <= a /\ a < o.length, .int .i64 (2520 * ix (ix d i) a))
  | _ => (False, .undef)
theorem g_lenC_eq (i a : Int) (o : List Int) (d : List (List Int)) : g_lenC [.int .i64 i, .int .i64 a, .iptr [.ints o, .rows d]] = (FieldOK o d /\ (0 <= i /\ i < d.length) /\ 0 <= a /\ a < o.length, .int .i64 (2520 * ix (ix d i) a)) := (rfl)
theorem lenC_ok (i a : Int) (o : List Int) (d : List (List Int)) (hp : FieldOK o d /\ (0 <= i /\ i < d.length) /\ 0 <= a /\ a < o.length) : SpecOK Tryz.prog 115 [.int .i64 i, .int .i64 a, .iptr [.ints o, .rows d]] (.int .i64 (2520 * ix (ix d i) a)) [] := by
  refine fun_ok (C := []) (hint := hintX [] [] 0 [] [] [] []) (TabOK.nil _) mixed Tryz.func115 rfl (by kernel_rfl) rfl ?_
  show codeA _ _ _ _ _ _ _ _
  simp only [go_sem, Tryz.results115]
  obtain ⟨hf, ⟨h0, h1⟩, h2, h3⟩ := hp
  have hr := ix_memI d h0 h1
  have hl := hf.len _ hr
  have hd := hf.d99 _ hr _ (ix_memI (ix d i) h2 (by omega))
  repeat' (first | refine fork_intro (fun hb => ?_) (fun hb => ?_) | refine partB_intro (fun hb => ?_) (fun hb => ?_) | refine And.intro ?_ ?_)
  all_goals first | exact True.intro | omega | with_reducible rfl | exact congrArg (AV.int _) (by omega) | (first | rfl)
def t_lenC : Table := [(115, pureC g_lenC)]
theorem t_lenC_ok : TabOK Tryz.prog t_lenC := .cons Tryz.func115 (by kernel_rfl) (.pure (by intro args hp; unfold g_lenC at hp ⊢; split at hp <;> first | exact hp.elim | exact lenC_ok _ _ _ _ hp)) (.nil _)
attribute [go_sem] g_lenC_eq t_lenC
def g_atC : List AV -> Heap -> Prop × AV × Heap
  | [.int .i64 c, .bx 0 0, .bx 1 0], [(0, .box [.int .i64 now]), (1, .box [.int .i64 x])] => (True, .tup [], [(0, .box [.int .i64 now]), (1, .box [.int .i64 (if now < c then mnU x c else x)])])
  | _, _ => (False, .undef, [])
theorem g_atC_eq (c now x : Int) : g_atC [.int .i64 c, .bx 0 0, .bx 1 0] [(0, .box [.int .i64 now]), (1, .box [.int .i64 x])] = (True, .tup [], [(0, .box [.int .i64 now]), (1, .box [.int .i64 (if now < c then mnU x c else x)])]) := (rfl)
theorem atC_ok (c now x : Int) (hp : True) : SpecM Tryz.prog 116 [.int .i64 c, .bx 0 0, .bx 1 0] [(0, .box [.int .i64 now]), (1, .box [.int .i64 x])] 2 (.tup []) [(0, .box [.int .i64 now]), (1, .box [.int .i64 (if now < c then mnU x c else x)])] := by
  refine fun_okM (C := []) (hint := hintX [] [] 2 [] [] [] []) (TabOK.nil _) mixed Tryz.func116 rfl (by kernel_rfl) rfl (Nat.le_refl _) (upTo_look rfl) (shapes ?_) ?_
  · exact ⟨fun k' h => by cases h; exact ss_box rfl, fun k' h => by cases h; exact ss_box rfl, trivial⟩
  show codeA _ _ _ _ _ _ _ _
  simp only [go_sem, Tryz.results116]
  unfold mnU
  refine fork_intro (fun h1 => fork_intro (fun h2 => ?_) (fun h2 => fork_intro (fun h3 => ?_) (fun h3 => ?_))) (fun h1 => ?_)
  · rw [if_pos h1, if_pos (.inl h2)]
  · rw [if_pos h1, if_pos (.inr h3)]
  · rw [if_pos h1, if_neg (fun h => by rcases h with h | h; exact h2 h; exact h3 h)]
  · rw [if_neg h1]
def t_atC : Table := [(116, mutC 2 g_atC)]
theorem t_atC_ok : TabOK Tryz.prog t_atC := .cons Tryz.func116 (by kernel_rfl) (.mut (by intro args pre _ hp; unfold g_atC at hp ⊢; split at hp <;> first | exact hp.elim | exact atC_ok _ _ _ hp)) (.nil _)
attribute [go_sem] g_atC_eq t_atC
end Go.Proofs.YteefjdbdknkcjaaGreat
namespace Go.Vc
set_option linter.unusedSimpArgs false
set_option linter.unusedVariables false
set_option linter.unusedSectionVars false

theorem set_self {α : Type} [Inhabited α] {xs : List α} {k : Nat} (h : k < xs.length) : xs.set k (ix xs (k : Int)) = xs := by
  refine List.ext_getElem? fun j => ?_
  by_cases e : k = j
  · subst e; rw [List.getElem?_set_self h, ix_some xs h]
  · rw [List.getElem?_set_ne e]
theorem ix_setv {α : Type} [Inhabited α] {xs : List α} {k : Nat} {v : α} (h : k < xs.length) : ix (xs.set k v) (k : Int) = v := by
  have h1 := ix_some (xs.set k v) (k := k) (by simpa using h)
  rw [List.getElem?_set_self h] at h1
  exact (Option.some.inj h1).symm

section
variable {o : List Int} {d : List (List Int)} {s : St}
def candI (o : List Int) (d : List (List Int)) (t : St) (k i : Nat) (c : Int) : Prop :=
  (∃ a, a < k /\ ((∃ j, j < d.length /\ ix t.w (j : Int) < 0 /\ t.now < c /\ c = 2520 * ix (ix d (j : Int)) (a : Int)) \/ (ix t.t (a : Int) < 0 /\ 0 < gsp d t a /\ c = t.now + (grest o d t a).tdiv (gsp d t a)))) \/
    ∃ j, j < i /\ ix t.w (j : Int) < 0 /\ t.now < c /\ c = 2520 * ix (ix d (j : Int)) (k : Int)
theorem candI_zero (t : St) (c : Int) : ¬ candI o d t 0 0 c := by unfold candI; simp
theorem candI_no {t : St} {k i : Nat} (h : ¬ (ix t.w (i : Int) < 0 /\ t.now < 2520 * ix (ix d (i : Int)) (k : Int))) (c : Int) : candI o d t k i c ↔ candI o d t k (i + 1) c := by
  unfold candI
  refine or_congr Iff.rfl ⟨fun ⟨j, h1, h2⟩ => ⟨j, by omega, h2⟩, fun ⟨j, h1, h2, h3, h4⟩ => ?_⟩
  by_cases e : j = i
  · subst e; exact (h ⟨h2, by omega⟩).elim
  · exact ⟨j, by omega, h2, h3, h4⟩
theorem candI_yes {t : St} {k i : Nat} (h : ix t.w (i : Int) < 0 /\ t.now < 2520 * ix (ix d (i : Int)) (k : Int)) (c : Int) : candI o d t k (i + 1) c ↔ candI o d t k i c \/ c = 2520 * ix (ix d (i : Int)) (k : Int) := by
  unfold candI
  rw [or_assoc]
  refine or_congr Iff.rfl ⟨fun ⟨j, h1, h2, h3, h4⟩ => ?_, fun h5 => ?_⟩
  · by_cases e : j = i
    · subst e; exact .inr h4
    · exact .inl ⟨j, by omega, h2, h3, h4⟩
  · rcases h5 with ⟨j, h1, h2⟩ | rfl
    · exact ⟨j, by omega, h2⟩
    · exact ⟨i, by omega, h.1, h.2, rfl⟩
theorem candI_row (t : St) (k : Nat) (c : Int) : candI o d t (k + 1) 0 c ↔ candI o d t k d.length c \/ (ix t.t (k : Int) < 0 /\ 0 < gsp d t k /\ c = t.now + (grest o d t k).tdiv (gsp d t k)) := by
  unfold candI
  constructor
  · rintro (⟨a, ha, h⟩ | ⟨j, hj, _⟩)
    · by_cases e : a = k
      · subst e
        rcases h with h | h
        · exact .inl (.inr h)
        · exact .inr h
      · exact .inl (.inl ⟨a, by omega, h⟩)
    · omega
  · rintro ((⟨a, ha, h⟩ | h) | h)
    · exact .inl ⟨a, by omega, h⟩
    · exact .inl ⟨k, by omega, .inl h⟩
    · exact .inl ⟨k, by omega, .inr h⟩
theorem candI_row_yes {t : St} {k : Nat} (h : ix t.t (k : Int) < 0 /\ 0 < gsp d t k) (c : Int) : candI o d t (k + 1) 0 c ↔ candI o d t k d.length c \/ c = t.now + (grest o d t k).tdiv (gsp d t k) := by
  rw [candI_row]; exact or_congr Iff.rfl ⟨fun h2 => h2.2.2, fun h2 => ⟨h.1, h.2, h2⟩⟩
theorem candI_row_no {t : St} {k : Nat} (h : ¬ (ix t.t (k : Int) < 0 /\ 0 < gsp d t k)) (c : Int) : candI o d t k d.length c ↔ candI o d t (k + 1) 0 c := by
  rw [candI_row]; exact ⟨.inl, fun h2 => h2.elim id fun h3 => (h ⟨h3.1, h3.2.1⟩).elim⟩
theorem candI_all (t : St) (c : Int) : candI o d t o.length 0 c ↔ cand1 o d t c \/ cand2 o d t c := by
  unfold candI cand1 cand2
  constructor
  · rintro (⟨a, ha, ⟨j, hj, h1, h2, h3⟩ | h⟩ | ⟨j, hj, _⟩)
    · exact .inl ⟨j, hj, a, ha, h1, h2, h3⟩
    · exact .inr ⟨a, ha, h⟩
    · omega
  · rintro (⟨j, hj, a, ha, h1, h2, h3⟩ | ⟨a, ha, h⟩)
    · exact .inl ⟨a, ha, .inl ⟨j, hj, h1, h2, h3⟩⟩
    · exact .inl ⟨a, ha, .inr h⟩
theorem GInv.candI_bd (h : GInv o d s) {k i : Nat} (hk : k <= o.length) (hk2 : k < o.length \/ i = 0) (hi : i <= d.length) {c : Int} (hc : candI o d (gsett o d s) k i c) : c <= 748440 := by
  refine h.cand_bd (k := o.length) (Nat.le_refl _) ((candA_all o d _ c).2 ?_)
  rcases hc with ⟨a, ha, ⟨j, hj, h1, h2, h3⟩ | h1⟩ | ⟨j, hj, h1, h2, h3⟩
  · exact .inl ⟨j, hj, a, by omega, h1, h2, h3⟩
  · exact .inr ⟨a, by omega, h1⟩
  · exact .inl ⟨j, by omega, k, by omega, h1, h2, h3⟩
theorem GInv.stop_p (h : GInv o d s) {j : Nat} (hj : j < d.length) (hw : 0 <= ix (gsett o d s).w (j : Int)) : ix (gpr d s) (j : Int) = ix (gsett o d s).p (j : Int) := by
  rw [set_w hj] at hw
  rw [set_p hj, gpr_ix hj]
  by_cases h1 : ix s.w (j : Int) < 0
  · rw [if_pos h1] at hw ⊢
    rw [if_pos ⟨h1, hw⟩]
  · rw [if_neg h1, if_neg (fun hh => h1 hh.1)]
theorem GInv.stop_all (h : GInv o d s) (hm : ¬ movingP d (gsett o d s)) : gpr d s = (gsett o d s).p := by
  refine ix_ext (by rw [gpr_len]; exact (tab_len _ _).symm) (fun j hj => ?_)
  rw [gpr_len] at hj
  exact h.stop_p hj (Int.not_lt.1 fun hh => hm ⟨j, hj, hh⟩)
theorem cN_congr {f g : Nat -> Bool} : ∀ {n : Nat}, (∀ j, j < n -> f j = g j) -> cN f n = cN g n
  | 0, _ => rfl
  | n + 1, h => by simp only [cN]; rw [cN_congr (n := n) (fun j hj => h j (by omega)), h n (by omega)]
theorem ceil_exact {r q : Int} {m : Nat} (hm : 0 < m) (h : r = m * q) (hq : 1 <= q) : (r + m - 1) / (m : Int) = q := by
  rw [show r + m - 1 = ((m : Int) - 1) + m * q by omega, Int.add_mul_ediv_left _ _ (by omega), Int.ediv_eq_zero_of_lt (by omega) (by omega)]
  omega
theorem runF_stop {o : List Int} {d : List (List Int)} : ∀ (k : Nat) (s : St), GInv o d s -> 498961 - s.now <= k -> ¬ movingP d (runF o d k s)
  | 0, s, h, hk => by have := h.n0; omega
  | k + 1, s, h, hk => by
    unfold runF
    split
    · rename_i hm
      obtain ⟨h1, h2⟩ := h.adv hm
      exact runF_stop k _ h1 (by omega)
    · rename_i hm; exact hm
theorem grown_stop {o : List Int} {d : List (List Int)} (hf : FieldOK o d) : ¬ movingP d (grown o d) := runF_stop 1000000 _ (st0_inv hf) (by show (498961 : Int) - 0 <= _; omega)
theorem runF_w {o : List Int} {d : List (List Int)} : ∀ (k : Nat) (s : St), s.w.length = d.length -> (runF o d k s).w.length = d.length
  | 0, s, h => h
  | k + 1, s, h => by
    unfold runF
    split
    · exact runF_w k _ (tab_len _ _)
    · exact tab_len _ _
theorem grown_stW {o : List Int} {d : List (List Int)} (hf : FieldOK o d) : stW (grown o d).w = (grown o d).w := by
  have hl : (grown o d).w.length = d.length := runF_w _ _ (by show (List.replicate _ _).length = _; simp)
  refine ix_ext (by rw [stW_len]) (fun j hj => ?_)
  rw [stW_len] at hj
  rw [stW_ix hj]
  have := Int.not_lt.1 fun hh => grown_stop hf ⟨j, by omega, hh⟩
  omega
theorem runF_p {o : List Int} {d : List (List Int)} : ∀ (k : Nat) (s : St), s.p.length = d.length -> (runF o d k s).p.length = d.length
  | 0, s, h => h
  | k + 1, s, h => by
    unfold runF
    split
    · exact runF_p k _ (tab_len _ _)
    · exact tab_len _ _
theorem runF_t {o : List Int} {d : List (List Int)} : ∀ (k : Nat) (s : St), s.t.length = o.length -> (runF o d k s).t.length = o.length
  | 0, s, h => h
  | k + 1, s, h => by
    unfold runF
    split
    · exact runF_t k _ (tab_len _ _)
    · exact tab_len _ _
theorem grown_lens (o : List Int) (d : List (List Int)) : (grown o d).p.length = d.length /\ (grown o d).t.length = o.length /\ (grown o d).w.length = d.length :=
  ⟨runF_p _ _ (by show (List.replicate _ _).length = _; simp), runF_t _ _ (by show (List.replicate _ _).length = _; simp), runF_w _ _ (by show (List.replicate _ _).length = _; simp)⟩
end
end Go.Vc
namespace Go.Proofs.YteefjdbdknkcjaaGreat
open Go.Vc Go.RowKit Go.Shelf
set_option maxRecDepth 100000
set_option linter.unusedSimpArgs false
set_option linter.unusedVariables false

theorem mul64W (n : Nat) (hn : n <= 7) (w : World) : Calls Tryz.prog 178 #[.int .u64 1, .int .u64 n] w fun e w' => e = .returned (.tuple #[.int .u64 0, .int .u64 n]) /\ w' = w := by
  rcases (by omega : n = 0 \/ n = 1 \/ n = 2 \/ n = 3 \/ n = 4 \/ n = 5 \/ n = 6 \/ n = 7) with rfl | rfl | rfl | rfl | rfl | rfl | rfl | rfl
  all_goals
    go_enter Tryz.func178, Tryz.ntmps178
    go_wp2
    go_ret2
    exact ⟨rfl, rfl⟩
theorem mulW (n : Nat) (hn : n <= 7) (w : World) : Calls Tryz.prog 151 #[.int .u64 1, .int .u64 n] w fun e w' => e = .returned (.tuple #[.int .u64 0, .int .u64 n]) /\ w' = w := by
  have c := mul64W n hn w
  have hc : ∀ args w, (callFunc 178 args).run Tryz.prog w = .ok (.enter 178 args) w := enters_of Tryz.func178 (by kernel_rfl) rfl
  go_enter Tryz.func151, Tryz.ntmps151
  go_wp2_with (go_at_call 178; refine c.mono ?_; rintro e w' ⟨rfl, hw⟩; rw [hw])
  go_ret2
  exact ⟨rfl, rfl⟩
theorem infoA3 : (Tryz.prog.info? 3).map (fun i => (i.zero, i.size, i.bytes)) = some (some (.int .i64 0), 1, 8) := by kernel_rfl
theorem infoS3 : (Tryz.prog.info? 3).map (·.size) = some 1 := by kernel_rfl
def cellsR (n m : Nat) : List Value := List.replicate m (.int .i64 (-1)) ++ List.replicate (n - m) (.int .i64 0)
theorem splice_cells {n m : Nat} (h : m <= n) : splice (cellsR n m) m (List.replicate (min m (n - m)) (Value.int .i64 (-1))) = cellsR n (m + min m (n - m)) := by
  unfold splice cellsR
  rw [List.take_left' (by simp), List.length_replicate, List.drop_append, List.length_replicate, List.drop_of_length_le (by simp), List.nil_append, List.drop_replicate, <- List.append_assoc, List.replicate_append_replicate]
  congr 2
  omega
theorem copy1 (a : Addr) (cap n : Nat) (hn : n <= 7) (w : World) (ha : w.cell? a = some (.int .i64 (-1))) :
    ∃ W, (Builtin.copy_ #[24, 24] 3 #[.slice (some ⟨w.heap.size, 0, none⟩) n n, .slice (some a) 1 cap]).run Tryz.prog (w.alloc (.cells (madeCells #[.int .i64 0] n) 3)) = .ok (.int .i64 ((min 1 n : Nat) : Int)) W /\
      W.heap[w.heap.size]? = some (.cells (cellsR n (min 1 n)).toArray 3 (0, 0)) /\ Below w.heap.size w W /\ w.drawn <= W.drawn := by
  have hb : Below w.heap.size w (w.alloc (.cells (madeCells #[.int .i64 0] n) 3)) := (Below.refl _ _).alloc (Nat.le_refl _) _
  have hg : (w.alloc (.cells (madeCells #[.int .i64 0] n) 3)).heap[w.heap.size]? = some (.cells (madeCells #[.int .i64 0] n) 3 (0, 0)) := by
    show (w.heap.push _)[w.heap.size]? = _
    simp
  have hm : madeCells #[.int .i64 0] n = (List.replicate n (.int .i64 0)).toArray := by
    rw [<- toList_madeCells_one]
  by_cases h0 : n = 0
  · subst h0
    refine ⟨_, run_copy_none _ 24 24 3 3 _ _ 0 0 1 cap Tryz.underlying24 infoS3 (by simp), ?_, hb, Nat.le_refl _⟩
    rw [hg, hm]; rfl
  · have hrun := run_copy_row (P := Tryz.prog) (w.alloc (.cells (madeCells #[.int .i64 0] n) 3)) 24 24 3 3 w.heap.size 0 n n a 1 cap (madeCells #[.int .i64 0] n) 3 [.int .i64 (-1)] Tryz.underlying24 infoS3 hg (by show 1 = Nat.min 1 n; rw [show Nat.min 1 n = min 1 n from rfl]; omega) (fun j v h => ?_) (by rw [hm]; simp; omega) (fun v h => ?_)
    · refine ⟨_, hrun.trans (by rw [show min 1 n = 1 by omega]; rfl), ?_, below_setRow hb (Nat.le_refl _) _, by rw [setRow_drawn]; exact Nat.le_refl _⟩
      · rw [setRow_heap _ _ _ _ _ _ hg, hm, show min 1 n = 1 by omega]
        unfold cellsR
        simp
    · rcases j with _ | j
      · cases h
        rw [show a.add 0 = a by simp [Addr.add]]
        rw [World.cell?_alloc_lt _ _ _ (World.block_lt_of_cell? _ _ ha)]; exact ha
      · simp at h
    · simp only [List.mem_singleton] at h; subst h; rfl
theorem copy2 (n m : Nat) (h : m < n) (h0 : 0 < m) (g : Nat) (W : World) (hW : W.heap[g]? = some (.cells (cellsR n m).toArray 3 (0, 0))) :
    ∃ W2, (Builtin.copy_ #[24, 24] 3 #[.slice (some ⟨g, m, none⟩) (n - m) (n - m), .slice (some ⟨g, 0, none⟩) m n]).run Tryz.prog W = .ok (.int .i64 ((min m (n - m) : Nat) : Int)) W2 /\
      W2.heap[g]? = some (.cells (cellsR n (m + min m (n - m))).toArray 3 (0, 0)) /\ Below g W W2 /\ W.drawn <= W2.drawn := by
  have hl : (List.replicate (min m (n - m)) (Value.int .i64 (-1))).length = min m (n - m) := List.length_replicate
  have hrun := run_copy_row (P := Tryz.prog) W 24 24 3 3 g m (n - m) (n - m) ⟨g, 0, none⟩ m n (cellsR n m).toArray 3 (List.replicate (min m (n - m)) (.int .i64 (-1))) Tryz.underlying24 infoS3 hW hl (fun j v hv => ?_) (by unfold cellsR; simp; omega) (fun v hv => by rw [List.eq_of_mem_replicate hv]; rfl)
  · refine ⟨_, hrun.trans (by rw [hl]; rfl), ?_, below_setRow (Below.refl _ _) (Nat.le_refl _) _, by rw [setRow_drawn]; exact Nat.le_refl _⟩
    rw [setRow_heap _ _ _ _ _ _ hW]
    have := splice_cells (n := n) (m := m) (by omega)
    unfold splice at this
    simp only [hl] at this ⊢
    rw [<- this, List.append_assoc]
  · have hj : j < min m (n - m) := by have := (List.getElem?_eq_some_iff.1 hv).1; rwa [List.length_replicate] at this
    have ev : v = Value.int .i64 (-1) := List.eq_of_mem_replicate (List.mem_of_getElem? hv)
    subst ev
    have : (cellsR n m).toArray[j]? = some (Value.int .i64 (-1)) := by
      unfold cellsR
      rw [List.getElem?_toArray, List.getElem?_append_left (by simp; omega), List.getElem?_replicate, if_pos (by omega)]
    have ea : (⟨g, 0, none⟩ : Addr).add j = ⟨g, j, none⟩ := by
      unfold Addr.add
      split
      · rename_i h0; subst h0; rfl
      · simp
    rw [ea]
    show (match W.heap[g]? with | some (.cells c _ _) => if (none : Option _).isSome then none else c[j]? | _ => none) = _
    rw [hW]
    exact this
theorem repW (a : Addr) (cap n : Nat) (hn : n <= 7) (w : World) (ha : w.cell? a = some (.int .i64 (-1))) :
    Calls Tryz.prog 114 #[.slice (some a) 1 cap, .int .i64 n] w fun e w' => e = .returned (.slice (some ⟨w.heap.size, 0, none⟩) n n) /\ w'.heap[w.heap.size]? = some (.cells (List.replicate n (.int .i64 (-1))).toArray 3 (0, 0)) /\ Below w.heap.size w w' /\ w.drawn <= w'.drawn := by
  have c := fun w => mulW n hn w
  have hc : ∀ args w, (callFunc 151 args).run Tryz.prog w = .ok (.enter 151 args) w := enters_of Tryz.func151 (by kernel_rfl) rfl
  have hmk := run_make_row' (P := Tryz.prog) 24 3 (.int .i64 0) 8 Tryz.underlying24 infoA3 rfl .i64 .i64 n (by omega) (by omega) w
  obtain ⟨W, hcp, hW, hBW, hDW⟩ := copy1 a cap n hn w ha
  go_enter Tryz.func114, Tryz.ntmps114
  go_wp2_with (go_at_call 151; refine (c _).mono ?_; rintro e w' ⟨rfl, hw⟩; rw [hw])
  go_loopg [8] (n - min 1 n) (fun k c wr => ∃ m : Nat, k = n - m /\ m <= n /\ (0 < n -> 0 < m) /\ c = .int .i64 m /\ wr.heap[w.heap.size]? = some (.cells (cellsR n m).toArray 3 (0, 0)) /\ Below w.heap.size w wr /\ w.drawn <= wr.drawn)
  case atStart => exact ⟨min 1 n, rfl, by omega, by omega, rfl, hW, hBW, hDW⟩
  case round =>
    obtain ⟨m, rfl, hm, hp, rfl, hg, hb, hdr⟩ := hrel
    go_wp2
    · have hlt : m < n := by assumption
      have hnm : ¬ n = m := by omega
      obtain ⟨W2, hc2, hW2, hB2, hD2⟩ := copy2 n m hlt (by omega) w.heap.size wr.drew hg
      have hc3 := hc2
      rw [<- (if_neg hnm : (if n = m then some (⟨w.heap.size, 0, none⟩ : Addr) else some ⟨w.heap.size, m, none⟩) = some ⟨w.heap.size, m, none⟩)] at hc3
      go_region
      go_wp2
      go_roundg (n - (m + min m (n - m)))
      case measure => omega
      case rel =>
        refine ⟨m + min m (n - m), rfl, by omega, by omega, ?_, hW2, (hb.drew).trans hB2, ?_⟩
        · exact congrArg (Value.int .i64) (by omega)
        · exact Nat.le_trans hdr (Nat.le_trans (Nat.le_succ _) hD2)
    · have hmn : m = n := by omega
      subst hmn
      go_ret
      refine ⟨rfl, ?_, hb, hdr⟩
      rw [hg]; unfold cellsR; simp
def g_repC : List AV -> Prop × AV × Heap
  | [.ints xs, .int .i64 n] => (xs = [-1] /\ 0 <= n /\ n <= 7, .sl 0, [(0, .arr (.ints (List.replicate n.toNat (-1))))])
  | _ => (False, .undef, [])
theorem g_repC_eq (xs : List Int) (n : Int) : g_repC [.ints xs, .int .i64 n] = (xs = [-1] /\ 0 <= n /\ n <= 7, .sl 0, [(0, .arr (.ints (List.replicate n.toNat (-1))))]) := (rfl)
theorem repC_ok (xs : List Int) (n : Int) (hp : xs = [-1] /\ 0 <= n /\ n <= 7) : SpecOK Tryz.prog 114 [.ints xs, .int .i64 n] (.sl 0) [(0, .arr (.ints (List.replicate n.toNat (-1))))] := by
  obtain ⟨rfl, h0, h7⟩ := hp
  obtain ⟨n, rfl⟩ : ∃ k : Nat, n = k := ⟨n.toNat, by omega⟩
  simp only [Int.toNat_natCast]
  intro S w cargs hS hsz hargs
  obtain ⟨v0, v1, rfl⟩ : ∃ v0 v1, cargs = #[v0, v1] := by
    obtain ⟨l⟩ := cargs
    match l, hsz with
    | [a, b], _ => exact ⟨a, b, rfl⟩
  have hv0 := hargs 0 _ v0 rfl rfl
  have hv1 := hargs 1 _ v1 rfl rfl
  have e1 : v1 = .int .i64 n := by
    cases hv1 with
    | int => rfl
    | lst _ _ _ _ _ he => simp [AV.elems] at he
  subst e1
  cases hv0 with
  | lst _ xs m a cap he hcap b off c vals hrow hm hc hs =>
    simp only [AV.elems, Option.some.injEq, Prod.mk.injEq] at he
    obtain ⟨rfl, rfl⟩ := he
    obtain ⟨rfl, hSb⟩ := hrow (by simp)
    have hcell : w.cell? ⟨b, off, none⟩ = some (.int .i64 (-1)) := by
      rw [(hS.2 b c hSb).cell]
      have h1 := hc 0 (.int .i64 (-1)) 0 _ rfl rfl
      have h2 := hs 0 (.int .i64 (-1)) 0 _ rfl rfl
      have h3 : vals 0 0 = .int .i64 (-1) := by
        generalize vals 0 0 = u at h2
        cases h2 with
        | int => rfl
        | lst _ _ _ _ _ he => simp [AV.elems] at he
      rw [h3] at h1
      simpa using h1
    refine (repW ⟨b, off, none⟩ cap n (by omega) w hcell).mono ?_
    rintro e w' ⟨rfl, hrow', hb, hdr⟩
    let ρ' : Rho := ⟨fun _ _ => w.heap.size, fun _ => n, fun _ _ => 0⟩
    have hlk : ∀ r k', Heap.look [((0 : Nat), Blk.arr (AV.ints (List.replicate n (-1))))] r = some k' -> r = 0 /\ k' = .arr (.ints (List.replicate n (-1))) := fun r k' h => by
      unfold Heap.look at h
      split at h
      · rename_i e; cases h; exact ⟨e.symm, rfl⟩
      · cases h
    have hft : ∀ r j, foot ρ' (Heap.look [((0 : Nat), Blk.arr (AV.ints (List.replicate n (-1))))]) r j -> r = 0 /\ j = 0 := fun r j h => by
      unfold foot at h
      cases hr : Heap.look [((0 : Nat), Blk.arr (AV.ints (List.replicate n (-1))))] r with
      | none => rw [hr] at h; exact h.elim
      | some k' =>
        obtain ⟨rfl, rfl⟩ := hlk r k' hr
        rw [hr] at h
        exact ⟨rfl, h.1⟩
    have hnone : S w.heap.size = none := by
      cases hq : S w.heap.size with
      | none => rfl
      | some q =>
        obtain ⟨el, fr, h⟩ := hS.2 _ q hq
        have := (Array.getElem?_eq_some_iff.1 h).1
        omega
    refine ⟨_, S, ρ', rfl, ⟨fun b' c' hb' => ?_, hS.1, fun r k' hr => ?_, fun r j h => ?_, fun r j r' j' h h' _ => ?_⟩, fun _ _ h => h, fun b h1 h2 => absurd h1 h2, ⟨hb.os, hb.tape, hb.output, hb.size, fun b hlt _ => hb.block b hlt, fun d => ?_⟩, ?_⟩
    · obtain ⟨el, fr, h⟩ := hS.2 b' c' hb'
      have hlt : b' < w.heap.size := (Array.getElem?_eq_some_iff.1 h).1
      exact ⟨el, fr, by rw [hb.block b' hlt]; exact h⟩
    · obtain ⟨rfl, rfl⟩ := hlk r k' hr
      refine ⟨(List.replicate n (-1)).map (AV.int .i64), 1, (List.replicate n (Value.int .i64 (-1))).toArray, rfl, fun _ => ⟨3, hrow'⟩, by simp [ρ'], by simp [ρ'], fun x hx => ?_, fun i x j y hx hy => ?_⟩
      · obtain ⟨y, _, rfl⟩ := List.mem_map.1 hx; rfl
      · rw [List.map_replicate, List.getElem?_replicate] at hx
        split at hx
        · rename_i hi
          cases hx
          rcases j with _ | j
          · simp [AV.cells] at hy
            subst hy
            refine ⟨.int .i64 (-1), ?_, .int _ _⟩
            rw [List.getElem?_toArray, List.getElem?_replicate, if_pos (by omega)]
          · simp [AV.cells] at hy
        · cases hx
    · obtain ⟨rfl, rfl⟩ := hft r j h
      exact ⟨Nat.le_refl _, hnone⟩
    · obtain ⟨rfl, rfl⟩ := hft r j h
      obtain ⟨rfl, rfl⟩ := hft r' j' h'
      exact ⟨rfl, rfl⟩
    · exact hdr
    · have hlook2 : Heap.look [((0 : Nat), Blk.arr (AV.ints (List.replicate n (-1))))] 0 = some (.arr (.ints (List.replicate n (-1)))) := rfl
      have h := V.sl (S := S) (ρ := ρ') (H := Heap.look [((0 : Nat), Blk.arr (AV.ints (List.replicate n (-1))))]) 0 (.ints (List.replicate n (-1))) ((List.replicate n (-1)).map (AV.int .i64)) 1 (some ⟨w.heap.size, 0, none⟩) hlook2 rfl (fun _ => rfl)
      rw [List.length_map, List.length_replicate] at h
      exact h
def t_repC : Table := [(114, ownC g_repC)]
theorem t_repC_ok : TabOK Tryz.prog t_repC := .cons Tryz.func114 (by kernel_rfl) (.own (by intro args hp; unfold g_repC at hp ⊢; split at hp <;> first | exact hp.elim | exact ⟨repC_ok _ _ hp, rfl⟩)) (.nil _)
attribute [go_sem] g_repC_eq t_repC
end Go.Proofs.YteefjdbdknkcjaaGreat
