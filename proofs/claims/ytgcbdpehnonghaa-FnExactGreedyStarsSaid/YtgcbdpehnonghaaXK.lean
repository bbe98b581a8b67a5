/- Stars: the greedy sites in the reference. -/
import Derived.Test.YtgcbdpehnonghaaXJ
namespace Go.Proofs.Ytgcbdpehnonghaa
open Go.Vc
set_option maxRecDepth 100000
set_option maxHeartbeats 1600000
set_option linter.unusedSimpArgs false
set_option linter.unusedVariables false
structure GrOK (o : List Int) (d : List (List Int)) (O left : List Int) : Prop where
  f : FieldOK o d
  l7 : left.length <= 7
  mem : ∀ x ∈ left, 0 <= x /\ x < d.length
  up : Up O
  bd : ∀ x ∈ O, 0 <= x /\ x < o.length
section
variable {o : List Int} {d : List (List Int)} {O left : List Int}
theorem GrOK.o7 (h : GrOK o d O left) : O.length <= 7 := by
  have := up_len h.up (n := o.length) (fun x hx => h.bd x hx)
  have := h.f.n7
  omega
theorem GrOK.star (h : GrOK o d O left) (h1 : 1 <= left.length) : (0 <= (starS o d O left).1 /\ (starS o d O left).1 < o.length) /\ 1 <= (starS o d O left).2.2 /\ (starS o d O left).2.2 <= left.length := by
  obtain ⟨a, b⟩ := starOut_ok h.f O h.mem h.l7 o.length (Nat.le_refl _)
  have h0 := b h.f.n1 h1
  rcases a.sh with e | e
  · have := congrArg Prod.fst e
    simp only at this
    omega
  · exact e
theorem GrOK.gone (h : GrOK o d O left) (h1 : 1 <= left.length) : ((gone o d O left).length : Int) = (starS o d O left).2.2 /\ 1 <= (gone o d O left).length /\ ∀ x ∈ gone o d O left, x ∈ left := by
  obtain ⟨a, b, c⟩ := h.star h1
  have hl : ((Go.Proofs.Ytgcbdpehnonghaa.gone o d O left).length : Int) = (starS o d O left).2.2 := by
    unfold Go.Proofs.Ytgcbdpehnonghaa.gone
    rw [List.length_take, near_len]
    omega
  exact ⟨hl, by omega, fun x hx => near_mem.1 (List.mem_of_mem_take hx)⟩
theorem GrOK.less (h : GrOK o d O left) (h1 : 1 <= left.length) : (left.filter fun x => decide (x ∉ Go.Proofs.Ytgcbdpehnonghaa.gone o d O left)).length < left.length := by
  obtain ⟨_, b, c⟩ := h.gone h1
  have hx := ix_mem (Go.Proofs.Ytgcbdpehnonghaa.gone o d O left) (k := 0) b
  refine List.length_filter_lt_length_iff_exists.2 ⟨_, c _ hx, ?_⟩
  rw [decide_eq_false (fun h => h hx)]; decide
theorem GrOK.next (h : GrOK o d O left) (h1 : 1 <= left.length) : GrOK o d (putF O (starS o d O left).1) (left.filter fun x => decide (x ∉ Go.Proofs.Ytgcbdpehnonghaa.gone o d O left)) := by
  obtain ⟨a, _⟩ := h.star h1
  have hl := h.less h1
  refine ⟨h.f, by have := h.l7; omega, fun x hx => h.mem x (List.mem_filter.1 hx).1, up_putF h.up, fun x hx => ?_⟩
  rcases mem_putF.1 hx with e | e
  · subst e; exact a
  · exact h.bd x e
theorem putF_has (h : Up O) {n : Int} (hm : n ∈ O) : putF O n = O :=
  up_ext (up_putF h) h (fun a => by
    rw [mem_putF]
    constructor
    · rintro (e | e)
      · subst e; exact hm
      · exact e
    · exact .inr)
theorem starsF_done (f : Nat) (h : left.length = 0) : starsF o d f O left = O := by
  cases f with
  | zero => rfl
  | succ f => unfold starsF; rw [if_pos h]
theorem starsF_step (f : Nat) (h : 1 <= left.length) : starsF o d (f + 1) O left = starsF o d f (putF O (starS o d O left).1) (left.filter fun x => decide (x ∉ gone o d O left)) := by
  have : ¬ left.length = 0 := by omega
  rw [starsF, if_neg this]
end
theorem starsF_len {o : List Int} {d : List (List Int)} : ∀ (f : Nat) {O left : List Int}, GrOK o d O left -> (starsF o d f O left).length <= 7
  | 0, O, left, h => h.o7
  | f + 1, O, left, h => by
    by_cases h0 : left.length = 0
    · rw [starsF_done _ h0]; exact h.o7
    · rw [starsF_step f (by omega)]
      exact starsF_len f (h.next (by omega))
theorem stars_len {o : List Int} {d : List (List Int)} (hf : FieldOK o d) : (starsL o d).length <= 7 := by
  unfold starsL
  split
  · simp
  · have hm7 := hf.m7
    have hsl := sel_len (fun _ => true) d.length
    exact starsF_len _ ⟨hf, by omega, fun x hx => by
      obtain ⟨k, hk, _, rfl⟩ := mem_sel.1 hx
      omega, List.Pairwise.nil, fun x hx => by cases hx⟩
def g_greedyStS : List AV -> Prop × AV
  | [.agg [.ints o, .rows d]] => (o.length <= 1048576000 /\ d.length <= 1048576000 /\ ∀ x ∈ d, x.length <= 1048576000, .tup [.ints (bif good o d then starsL o d else []), .bool (good o d)])
  | _ => (False, .undef)
theorem g_greedyStS_eq (o : List Int) (d : List (List Int)) : g_greedyStS [.agg [.ints o, .rows d]] = (o.length <= 1048576000 /\ d.length <= 1048576000 /\ ∀ x ∈ d, x.length <= 1048576000, .tup [.ints (bif good o d then starsL o d else []), .bool (good o d)]) := (rfl)
theorem greedyStS_ok (o : List Int) (d : List (List Int)) (hp : o.length <= 1048576000 /\ d.length <= 1048576000 /\ ∀ x ∈ d, x.length <= 1048576000) : SpecOK Try.prog 7 [.agg [.ints o, .rows d]] (.tup [.ints (bif good o d then starsL o d else []), .bool (good o d)]) [] := by
  refine fun_ok (C := t_l2Good ++ t_cheapS ++ t_bestStarS ++ t_hasS ++ t_putS) (hint := hintX [22, 41, 7] [] 0 [] [] [] []) (((((t_l2Good_ok).append t_cheapS_ok).append t_bestStarS_ok).append t_hasS_ok).append t_putS_ok) mixed Try.func7 rfl (by kernel_rfl) rfl ?_
  show codeA _ _ _ _ _ _ _ _
  simp only [go_sem, Try.results7]
  refine ⟨hp, partB_intro (fun hg => ?_) (fun hg => ?_)⟩
  · have hf := good_iff.1 hg
    have hn7 := hf.n7
    have hm7 := hf.m7
    rw [hg]
    refine fork_intro (fun h0 => ?_) (fun h0 => ?_)
    · unfold starsL
      rw [if_pos (by omega)]
      exact ⟨hf, rfl, rfl⟩
    · have hL : starsL o d = starsF o d d.length [] (sel (fun _ => true) d.length) := by unfold starsL; rw [if_neg (by omega)]
      refine loop_intro (fun j : Nat => [(5, .sl 0), (6, .int .i64 j), (4, .ints []), (1, .iptr [.ints o, .rows d])]) (fun j => [(0, .arr (.ints (sel (fun _ => true) j)))]) 1 (fun j => j <= d.length) (fun j => d.length - j) 0 (Nat.zero_le _) (Nat.zero_le _) ?_ ?_
      · simp only [go_sem]
        repeat' (first | refine fork_intro (fun hb => ?_) (fun hb => ?_) | refine partB_intro (fun hb => ?_) (fun hb => ?_) | refine And.intro ?_ ?_)
        all_goals first | exact True.intro | omega | with_reducible rfl | exact congrArg (AV.int _) (by omega) | (first | rfl)
      · intro j hj
        have hsl := sel_len (fun _ => true) j
        simp only [go_sem]
        refine fork_intro (fun hc => ?_) (fun hc => ?_)
        · have e := sel_t (p := fun _ => true) (n := j) rfl
          repeat' (first | refine fork_intro (fun hb => ?_) (fun hb => ?_) | refine partB_intro (fun hb => ?_) (fun hb => ?_) | refine And.intro ?_ ?_)
          all_goals first | exact True.intro | omega | with_reducible rfl | exact congrArg (AV.int _) (by omega) | (refine LoopEnd.intro (j + 1) (by first | omega) (by first | omega | (dsimp only; omega)) (by omega) ?_; simp only [go_sem]; (repeat' (first | refine fork_intro (fun hb => ?_) (fun hb => ?_) | refine partB_intro (fun hb => ?_) (fun hb => ?_) | refine And.intro ?_ ?_)); all_goals first | exact True.intro | omega | with_reducible rfl | exact congrArg (AV.int _) (by omega) | (first | rw [e])) | (first | rw [e])
        · have hjd : j = d.length := by omega
          subst hjd
          have hsf := sel_full (p := fun _ => true) (n := d.length) (fun _ _ => rfl)
          refine loop_intro (fun g : Nat × List Int × List Int => [(5, .ints g.2.2), (4, .ints g.2.1), (1, .iptr [.ints o, .rows d])]) (fun _ => []) 0 (fun g => GrOK o d g.2.1 g.2.2 /\ g.2.2.length <= g.1 /\ starsF o d g.1 g.2.1 g.2.2 = starsL o d) (fun g => g.1) (d.length, [], sel (fun _ => true) d.length) ⟨⟨hf, by show (sel _ _).length <= 7; omega, fun x hx => by
            obtain ⟨k, hk, _, rfl⟩ := mem_sel.1 hx
            omega, List.Pairwise.nil, fun x hx => by cases hx⟩, by show (sel _ _).length <= d.length; omega, hL.symm⟩ (Nat.zero_le _) ?_ ?_
          · simp only [go_sem]
            repeat' (first | refine fork_intro (fun hb => ?_) (fun hb => ?_) | refine partB_intro (fun hb => ?_) (fun hb => ?_) | refine And.intro ?_ ?_)
            all_goals first | exact True.intro | omega | with_reducible rfl | exact congrArg (AV.int _) (by omega) | (first | rfl)
          · rintro ⟨f, O, left⟩ ⟨hG, hlf, hR⟩
            simp only at hG hlf hR
            have h7 := hG.l7
            have ho7 := hG.o7
            simp only [go_sem]
            refine fork_intro (fun hc => ?_) (fun hc => ?_)
            · have h1 : 1 <= left.length := by omega
              obtain ⟨f, rfl⟩ : ∃ f', f = f' + 1 := ⟨f - 1, by omega⟩
              rw [starsF_step f h1] at hR
              have hN := hG.next h1
              have hls := hG.less h1
              obtain ⟨hs1, _⟩ := hG.star h1
              obtain ⟨_, _, hgm⟩ := hG.gone h1
              have hgl : (gone o d O left).length <= left.length := by unfold gone; rw [List.length_take, near_len]; omega
              generalize hgo : gone o d O left = G at *
              refine ⟨⟨⟨⟨hf, h7, hG.mem⟩, h1⟩, ho7⟩, ?_⟩
              refine loop_intro (fun i : Nat => [(9, .int .i64 i), (8, .sl 1), (7, .bx 0 0), (5, .ints left), (4, .ints O), (1, .iptr [.ints o, .rows d])]) (fun i => [(0, .box [.int .i64 (starS o d O left).1, .ints G, .int .i64 (starS o d O left).2.1]), (1, .arr (.ints ((left.take i).filter fun x => decide (x ∉ G))))]) 2 (fun i => i <= left.length) (fun i => left.length - i) 0 (Nat.zero_le _) (Nat.zero_le _) ?_ ?_
              · simp only [go_sem]
                repeat' (first | refine fork_intro (fun hb => ?_) (fun hb => ?_) | refine partB_intro (fun hb => ?_) (fun hb => ?_) | refine And.intro ?_ ?_)
                all_goals first | exact True.intro | omega | with_reducible rfl | exact congrArg (AV.int _) (by omega) | (first | rfl)
              · intro i hi
                have hfl := filter_len (fun x => decide (x ∉ G)) left i
                simp only [go_sem]
                refine fork_intro (fun hc2 => ?_) (fun hc2 => ?_)
                · refine ⟨by omega, by omega, fork_intro (fun hd => ?_) (fun hd => ?_)⟩
                  · have e := filter_take_f (p := fun x => decide (x ∉ G)) (xs := left) (k := i) (by omega) (decide_eq_false (fun h => h hd))
                    repeat' (first | refine fork_intro (fun hb => ?_) (fun hb => ?_) | refine partB_intro (fun hb => ?_) (fun hb => ?_) | refine And.intro ?_ ?_)
                    all_goals first | exact True.intro | omega | with_reducible rfl | exact congrArg (AV.int _) (by omega) | (refine LoopEnd.intro (i + 1) (by first | omega) (by first | omega | (dsimp only; omega)) (by omega) ?_; simp only [go_sem]; (repeat' (first | refine fork_intro (fun hb => ?_) (fun hb => ?_) | refine partB_intro (fun hb => ?_) (fun hb => ?_) | refine And.intro ?_ ?_)); all_goals first | exact True.intro | omega | with_reducible rfl | exact congrArg (AV.int _) (by omega) | (first | rw [e])) | (first | rw [e])
                  · have e := filter_take_t (p := fun x => decide (x ∉ G)) (xs := left) (k := i) (by omega) (decide_eq_true hd)
                    repeat' (first | refine fork_intro (fun hb => ?_) (fun hb => ?_) | refine partB_intro (fun hb => ?_) (fun hb => ?_) | refine And.intro ?_ ?_)
                    all_goals first | exact True.intro | omega | with_reducible rfl | exact congrArg (AV.int _) (by omega) | (refine LoopEnd.intro (i + 1) (by first | omega) (by first | omega | (dsimp only; omega)) (by omega) ?_; simp only [go_sem]; (repeat' (first | refine fork_intro (fun hb => ?_) (fun hb => ?_) | refine partB_intro (fun hb => ?_) (fun hb => ?_) | refine And.intro ?_ ?_)); all_goals first | exact True.intro | omega | with_reducible rfl | exact congrArg (AV.int _) (by omega) | (first | rw [e])) | (first | rw [e])
                · rw [show i = left.length by omega, List.take_length]
                  refine ⟨by omega, fork_intro (fun hd => ?_) (fun hd => ?_)⟩
                  · rw [putF_has hG.up hd] at hR hN
                    refine LoopEnd.intro (f, O, left.filter fun x => decide (x ∉ G)) ?_ ?_ (Nat.zero_le _) ?_
                    · exact ⟨hN, by show (left.filter _).length <= f; omega, hR⟩
                    · show f < f + 1; omega
                    · simp only [go_sem]
                      repeat' (first | refine fork_intro (fun hb => ?_) (fun hb => ?_) | refine partB_intro (fun hb => ?_) (fun hb => ?_) | refine And.intro ?_ ?_)
                      all_goals first | exact True.intro | omega | with_reducible rfl | exact congrArg (AV.int _) (by omega) | (first | rfl)
                  · refine ⟨by omega, ?_⟩
                    refine LoopEnd.intro (f, putF O (starS o d O left).1, left.filter fun x => decide (x ∉ G)) ?_ ?_ (Nat.zero_le _) ?_
                    · exact ⟨hN, by show (left.filter _).length <= f; omega, hR⟩
                    · show f < f + 1; omega
                    · simp only [go_sem]
                      repeat' (first | refine fork_intro (fun hb => ?_) (fun hb => ?_) | refine partB_intro (fun hb => ?_) (fun hb => ?_) | refine And.intro ?_ ?_)
                      all_goals first | exact True.intro | omega | with_reducible rfl | exact congrArg (AV.int _) (by omega) | (first | rfl)
            · rw [<- hR, starsF_done f (by omega)]
  · rw [hg]; first | rfl | exact ⟨rfl, rfl⟩
def t_greedyStS : Table := [(7, pureC g_greedyStS)]
theorem t_greedyStS_ok : TabOK Try.prog t_greedyStS := .cons Try.func7 (by kernel_rfl) (.pure (by intro args hp; unfold g_greedyStS at hp ⊢; split at hp <;> first | exact hp.elim | exact greedyStS_ok _ _ hp)) (.nil _)
attribute [go_sem] g_greedyStS_eq t_greedyStS
end Go.Proofs.Ytgcbdpehnonghaa
