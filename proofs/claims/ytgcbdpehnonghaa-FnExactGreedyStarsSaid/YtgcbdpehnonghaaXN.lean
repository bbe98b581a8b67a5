/- Stars: the greedy sites in the package. -/
import Derived.Test.YtgcbdpehnonghaaXK
namespace Go.Proofs.Ytgcbdpehnonghaa
open Go.Vc
set_option maxRecDepth 100000
set_option maxHeartbeats 1600000
set_option linter.unusedSimpArgs false
set_option linter.unusedVariables false
def g_greedyStI : List AV -> Prop × AV × Heap
  | [.agg [.ints o, .rows d]] => (o.length <= 1048576000 /\ d.length <= 1048576000 /\ ∀ x ∈ d, x.length <= 1048576000, .tup [.sl 0, .bool (good o d)], [(0, .arr (.ints (bif good o d then starsL o d else [])))])
  | _ => (False, .undef, [])
theorem g_greedyStI_eq (o : List Int) (d : List (List Int)) : g_greedyStI [.agg [.ints o, .rows d]] = (o.length <= 1048576000 /\ d.length <= 1048576000 /\ ∀ x ∈ d, x.length <= 1048576000, .tup [.sl 0, .bool (good o d)], [(0, .arr (.ints (bif good o d then starsL o d else [])))]) := (rfl)
theorem greedyStI_ok (o : List Int) (d : List (List Int)) (hp : o.length <= 1048576000 /\ d.length <= 1048576000 /\ ∀ x ∈ d, x.length <= 1048576000) : SpecOK Try.prog 9 [.agg [.ints o, .rows d]] (.tup [.sl 0, .bool (good o d)]) [(0, .arr (.ints (bif good o d then starsL o d else [])))] := by
  refine fun_ok (C := t_isF ++ t_cheapI ++ t_hasI ++ t_nrI ++ t_delC ++ t_listI) (hint := hintX [24, 25, 14, 121] [(2, [.post, .up 2 (.arr (.ints []))]), (29, [.frb 14, .post, .ren 5 0, .drop [] 1]), (30, [.post, .ren 2 0, .drop [] 1])] 0 [33] [] [] []) ((((((t_isF_ok).append t_cheapI_ok).append t_hasI_ok).append t_nrI_ok).append t_delC_ok).append t_listI_ok) mixed Try.func9 rfl (by kernel_rfl) rfl ?_
  show codeA _ _ _ _ _ _ _ _
  simp only [go_sem, Try.results9]
  refine ⟨hp, partB_intro (fun hg => ?_) (fun hg => ?_)⟩
  · have hf := good_iff.1 hg
    have hn7 := hf.n7
    have hm7 := hf.m7
    rw [hg]
    refine fork_intro (fun h0 => ?_) (fun h0 => ?_)
    · unfold starsL
      rw [if_pos (by omega)]
      exact ⟨hf, rfl, rfl⟩
    · have hL : starsL o d = starsF o d d.length [] (sel (fun _ => true) d.length) := by unfold starsL; rw [if_neg (by omega)]
      refine loop_intro (fun j : Nat => [(29, .int .i64 j), (28, .int .i64 d.length), (5, .sl 0), (4, .int .u64 0), (3, .bool false), (1, .iptr [.ints o, .rows d])]) (fun j => [(0, .arr (.ints (sel (fun _ => true) j)))]) 1 (fun j => j <= d.length) (fun j => d.length - j) 0 (Nat.zero_le _) (Nat.zero_le _) ?_ ?_
      · simp only [go_sem]
        repeat' (first | refine fork_intro (fun hb => ?_) (fun hb => ?_) | refine partB_intro (fun hb => ?_) (fun hb => ?_) | refine And.intro ?_ ?_)
        all_goals first | exact True.intro | omega | with_reducible rfl | exact congrArg (AV.int _) (by omega) | (first | rfl)
      · intro j hj
        have hsl := sel_len (fun _ => true) j
        simp only [go_sem]
        refine fork_intro (fun hc => ?_) (fun hc => ?_)
        · have e := sel_t (p := fun _ => true) (n := j) rfl
          repeat' (first | refine fork_intro (fun hb => ?_) (fun hb => ?_) | refine partB_intro (fun hb => ?_) (fun hb => ?_) | refine And.intro ?_ ?_)
          all_goals first | exact True.intro | omega | with_reducible rfl | exact congrArg (AV.int _) (by omega) | (refine LoopEnd.intro (j + 1) (by first | omega) (by first | omega | (dsimp only; omega)) (by omega) ?_; simp only [go_sem]; (repeat' (first | refine fork_intro (fun hb => ?_) (fun hb => ?_) | refine partB_intro (fun hb => ?_) (fun hb => ?_) | refine And.intro ?_ ?_)); all_goals first | exact True.intro | omega | with_reducible rfl | exact congrArg (AV.int _) (by omega) | (first | rw [e])) | (first | rw [e])
        · have hjd : j = d.length := by omega
          subst hjd
          have hsf := sel_full (p := fun _ => true) (n := d.length) (fun _ _ => rfl)
          refine loop_intro (fun g : Nat × List Int × List Int => [(5, .sl 0), (4, .int .u64 (bag g.2.1)), (1, .iptr [.ints o, .rows d])]) (fun g => [(0, .arr (.ints g.2.2))]) 1 (fun g => GrOK o d g.2.1 g.2.2 /\ g.2.2.length <= g.1 /\ starsF o d g.1 g.2.1 g.2.2 = starsL o d) (fun g => g.1) (d.length, [], sel (fun _ => true) d.length) ⟨⟨hf, by show (sel _ _).length <= 7; omega, fun x hx => by
            obtain ⟨k, hk, _, rfl⟩ := mem_sel.1 hx
            omega, List.Pairwise.nil, fun x hx => by cases hx⟩, by show (sel _ _).length <= d.length; omega, hL.symm⟩ (Nat.zero_le _) ?_ ?_
          · simp only [go_sem]
            repeat' (first | refine fork_intro (fun hb => ?_) (fun hb => ?_) | refine partB_intro (fun hb => ?_) (fun hb => ?_) | refine And.intro ?_ ?_)
            all_goals first | exact True.intro | omega | with_reducible rfl | exact congrArg (AV.int _) (by omega) | (first | rfl)
          · rintro ⟨f, O, left⟩ ⟨hG, hlf, hR⟩
            simp only at hG hlf hR
            have h7 := hG.l7
            have ho7 := hG.o7
            have hx7 : ∀ x ∈ O, 0 <= x /\ x < 7 := fun x hx => by have := hG.bd x hx; omega
            have hbag := bag_lt hx7
            have hbit : ∀ b : Nat, (bag O).testBit b = hasB O b := fun b => bag_bit (fun x hx => (hx7 x hx).1) b
            simp only [go_sem]
            refine fork_intro (fun hc => ?_) (fun hc => ?_)
            · have h1 : 1 <= left.length := by omega
              obtain ⟨f, rfl⟩ : ∃ f', f = f' + 1 := ⟨f - 1, by omega⟩
              rw [starsF_step f h1] at hR
              have hN' := hG.next h1
              have hls := hG.less h1
              obtain ⟨hs1, hs2⟩ := hG.star h1
              obtain ⟨hgl, hg1, hgm⟩ := hG.gone h1
              refine loop_intro (fun a : Nat => [(43, .int .i64 a), (42, .int .i64 o.length), (9, .int .i64 (starOut o d O left a).2.2), (8, .int .i64 (starOut o d O left a).2.1), (7, .int .i64 (starOut o d O left a).1), (5, .sl 0), (4, .int .u64 (bag O)), (1, .iptr [.ints o, .rows d])]) (fun a => [(0, .arr (.ints left))]) 1 (fun a => a <= o.length) (fun a => o.length - a) 0 (Nat.zero_le _) (Nat.zero_le _) ?_ ?_
              · simp only [go_sem]
                repeat' (first | refine fork_intro (fun hb => ?_) (fun hb => ?_) | refine partB_intro (fun hb => ?_) (fun hb => ?_) | refine And.intro ?_ ?_)
                all_goals first | exact True.intro | omega | with_reducible rfl | exact congrArg (AV.int _) (by omega) | (first | rfl)
              · intro a ha
                obtain ⟨hs, hs3⟩ := starOut_ok hf O hG.mem h7 a ha
                simp only [go_sem]
                refine fork_intro (fun hc2 => ?_) (fun hc2 => ?_)
                · rw [hbit]
                  have hal : a < o.length := by omega
                  have hob := own0_bd hf O (a := (a : Int)) ⟨by omega, by omega⟩
                  obtain ⟨N, hN⟩ : ∃ N, N = near d (a : Int) left := ⟨_, rfl⟩
                  have hNl : N.length = left.length := by rw [hN]; exact near_len _ _ _
                  have hNm : ∀ x ∈ N, 0 <= x /\ x < d.length := fun x hx => by rw [hN] at hx; exact hG.mem x (near_mem.1 hx)
                  obtain ⟨c0, hc0⟩ : ∃ c0, c0 = own0 o O (a : Int) := ⟨_, rfl⟩
                  have hnx : starOut o d O left (a + 1) = (starIn d (a : Int) N c0 (starOut o d O left a) left.length).2 := by rw [hN, hc0]; rfl
                  rw [<- hc0] at hob
                  rw [<- hN]
                  refine ⟨by omega, ⟨by omega, by omega⟩, partB_intro (fun ho => ?_) (fun ho => ?_)⟩
                  all_goals
                    unfold own0 at hc0
                    first | rw [if_pos (of_decide_eq_true ho)] at hc0 | rw [if_neg (of_decide_eq_false ho)] at hc0
                    refine ⟨⟨hf, h7, ⟨by omega, by omega⟩, hG.mem⟩, ?_⟩
                    refine loop_intro (fun k : Nat => [(59, .int .i64 k), (58, .int .i64 N.length), (57, .ints N), (11, .int .i64 (starIn d (a : Int) N c0 (starOut o d O left a) k).1), (10, .int .i64 a), (43, .int .i64 a), (42, .int .i64 o.length), (9, .int .i64 (starIn d (a : Int) N c0 (starOut o d O left a) k).2.2.2), (8, .int .i64 (starIn d (a : Int) N c0 (starOut o d O left a) k).2.2.1), (7, .int .i64 (starIn d (a : Int) N c0 (starOut o d O left a) k).2.1), (5, .sl 0), (4, .int .u64 (bag O)), (1, .iptr [.ints o, .rows d])]) (fun k => [(0, .arr (.ints left))]) 1 (fun k => k <= N.length) (fun k => N.length - k) 0 (Nat.zero_le _) (Nat.zero_le _) ?_ ?_
                    · simp only [go_sem]
                      repeat' (first | refine fork_intro (fun hb => ?_) (fun hb => ?_) | refine partB_intro (fun hb => ?_) (fun hb => ?_) | refine And.intro ?_ ?_)
                      all_goals first | exact True.intro | omega | with_reducible rfl | exact congrArg (AV.int _) (by omega) | (first | rfl | exact congrArg (AV.int _) hc0.symm)
                    · intro k hk
                      obtain ⟨b1, b2, b3⟩ := starIn_ok hf (a := (a : Int)) ⟨by omega, by omega⟩ (fun x hx => hNm x hx) (by omega) hob (s := starOut o d O left a) (by rw [hNl]; exact hs) k hk
                      have hn1 : starIn d (a : Int) N c0 (starOut o d O left a) (k + 1) = ((starIn d (a : Int) N c0 (starOut o d O left a) k).1 + ix (ix d (ix N (k : Int))) (a : Int), starStep (a : Int) ((starIn d (a : Int) N c0 (starOut o d O left a) k).1 + ix (ix d (ix N (k : Int))) (a : Int)) ((k : Int) + 1) (starIn d (a : Int) N c0 (starOut o d O left a) k).2) := rfl
                      have hwk := b2.bd
                      have hsh := b2.sh
                      simp only [go_sem]
                      refine fork_intro (fun hc3 => ?_) (fun hc3 => ?_)
                      · have hx := hNm _ (ix_mem N (show k < N.length by omega))
                        have hr := ix_memI d hx.1 hx.2
                        have hrl := hf.len _ hr
                        have hv := hf.d99 _ hr _ (ix_memI _ (i := (a : Int)) (by omega) (by omega))
                        generalize hvv : ix (ix d (ix N (k : Int))) (a : Int) = v at *
                        generalize hst0 : (starIn d (a : Int) N c0 (starOut o d O left a) k).2 = st at *
                        generalize how : (starIn d (a : Int) N c0 (starOut o d O left a) k).1 = ow at *
                        have hst : (st.1 < 0 \/ (ow + v) * st.2.2 < st.2.1 * ((k : Int) + 1) \/ (st.1 = a /\ (ow + v) * st.2.2 = st.2.1 * ((k : Int) + 1))) -> starStep (a : Int) (ow + v) ((k : Int) + 1) st = ((a : Int), ow + v, (k : Int) + 1) := fun h => if_pos h
                        have hkp : ¬ (st.1 < 0 \/ (ow + v) * st.2.2 < st.2.1 * ((k : Int) + 1) \/ (st.1 = a /\ (ow + v) * st.2.2 = st.2.1 * ((k : Int) + 1))) -> starStep (a : Int) (ow + v) ((k : Int) + 1) st = st := fun h => if_neg h
                        have hmany : 0 <= st.2.2 /\ st.2.2 <= 10 := by
                          rcases hsh with e | ⟨e1, e2⟩
                          · rw [e]; simp
                          · omega
                        have p1 := prod_bd (x := ow + v) (y := st.2.2) (by omega) hmany
                        have p2 := prod_bd (x := st.2.1) (y := (k : Int) + 1) hwk (by omega)
                        refine ⟨by omega, by omega, by omega, by omega, fork_intro (fun h3 => ?_) (fun h3 => ?_)⟩
                        · refine ⟨by omega, by omega, ?_⟩
                          refine LoopEnd.intro (k + 1) ?_ ?_ (Nat.zero_le _) ?_ <;> (try omega)
                          rw [hn1, hst (.inl h3)]
                          simp only [go_sem]
                          repeat' (first | refine fork_intro (fun hb => ?_) (fun hb => ?_) | refine partB_intro (fun hb => ?_) (fun hb => ?_) | refine And.intro ?_ ?_)
                          all_goals first | exact True.intro | omega | with_reducible rfl | exact congrArg (AV.int _) (by omega) | (first | rfl)
                        · refine ⟨by omega, by omega, by omega, fork_intro (fun h4 => ?_) (fun h4 => fork_intro (fun h5 => ?_) (fun h5 => ?_))⟩
                          · refine ⟨by omega, by omega, ?_⟩
                            refine LoopEnd.intro (k + 1) ?_ ?_ (Nat.zero_le _) ?_ <;> (try omega)
                            rw [hn1, hst (.inr (.inl h4))]
                            simp only [go_sem]
                            repeat' (first | refine fork_intro (fun hb => ?_) (fun hb => ?_) | refine partB_intro (fun hb => ?_) (fun hb => ?_) | refine And.intro ?_ ?_)
                            all_goals first | exact True.intro | omega | with_reducible rfl | exact congrArg (AV.int _) (by omega) | (first | rfl)
                          · refine ⟨by omega, by omega, by omega, fork_intro (fun h6 => ?_) (fun h6 => ?_)⟩
                            · refine ⟨by omega, by omega, ?_⟩
                              refine LoopEnd.intro (k + 1) ?_ ?_ (Nat.zero_le _) ?_ <;> (try omega)
                              rw [hn1, hst (.inr (.inr ⟨h5, h6⟩))]
                              simp only [go_sem]
                              repeat' (first | refine fork_intro (fun hb => ?_) (fun hb => ?_) | refine partB_intro (fun hb => ?_) (fun hb => ?_) | refine And.intro ?_ ?_)
                              all_goals first | exact True.intro | omega | with_reducible rfl | exact congrArg (AV.int _) (by omega) | (first | rfl)
                            · refine ⟨by omega, ?_⟩
                              refine LoopEnd.intro (k + 1) ?_ ?_ (Nat.zero_le _) ?_ <;> (try omega)
                              rw [hn1, hkp (fun h => by rcases h with h | h | h <;> omega)]
                              simp only [go_sem]
                              repeat' (first | refine fork_intro (fun hb => ?_) (fun hb => ?_) | refine partB_intro (fun hb => ?_) (fun hb => ?_) | refine And.intro ?_ ?_)
                              all_goals first | exact True.intro | omega | with_reducible rfl | exact congrArg (AV.int _) (by omega) | (first | rfl)
                          · refine ⟨by omega, ?_⟩
                            refine LoopEnd.intro (k + 1) ?_ ?_ (Nat.zero_le _) ?_ <;> (try omega)
                            rw [hn1, hkp (fun h => by rcases h with h | h | h <;> omega)]
                            simp only [go_sem]
                            repeat' (first | refine fork_intro (fun hb => ?_) (fun hb => ?_) | refine partB_intro (fun hb => ?_) (fun hb => ?_) | refine And.intro ?_ ?_)
                            all_goals first | exact True.intro | omega | with_reducible rfl | exact congrArg (AV.int _) (by omega) | (first | rfl)
                      · have hke : k = left.length := by omega
                        refine ⟨by omega, ?_⟩
                        refine LoopEnd.intro (a + 1) ?_ ?_ (Nat.zero_le _) ?_ <;> (try omega)
                        rw [hnx, hke]
                        simp only [go_sem]
                        repeat' (first | refine fork_intro (fun hb => ?_) (fun hb => ?_) | refine partB_intro (fun hb => ?_) (fun hb => ?_) | refine And.intro ?_ ?_)
                        all_goals first | exact True.intro | omega | with_reducible rfl | exact congrArg (AV.int _) (by omega) | (first | rfl)
                · have hae : a = o.length := by omega
                  have eS : starOut o d O left o.length = starS o d O left := rfl
                  have hgc : cutL (near d (starS o d O left).1 left) 0 (starS o d O left).2.2 = gone o d O left := by
                    have := cutL_pre (near d (starS o d O left).1 left) (starS o d O left).2.2.toNat
                    rw [Int.toNat_of_nonneg (by omega)] at this
                    exact this
                  have hnl := near_len d (starS o d O left).1 left
                  rw [hae, eS, hgc]
                  obtain ⟨q1, q2, q3⟩ := pow7 (starS o d O left).1.toNat (by omega)
                  have l2 := or_lt hbag (bit7 (starS o d O left).1 (by omega))
                  have e2 : bag (putF O (starS o d O left).1) = bag O ||| 1 * 2 ^ (starS o d O left).1.toNat := bag_put (fun x hx => (hx7 x hx).1) hs1.1
                  simp only [q3, bitN_or, <- e2] at l2 ⊢
                  refine ⟨⟨⟨by omega, by omega⟩, by omega, by omega⟩, ⟨by omega, by omega⟩, ⟨hf, h7, hs1, hG.mem⟩, ⟨by omega, by omega, by omega⟩, ⟨⟨by omega, by omega⟩, by omega, by omega⟩, ?_⟩
                  refine LoopEnd.intro (f, putF O (starS o d O left).1, left.filter fun x => decide (x ∉ gone o d O left)) ?_ ?_ (Nat.zero_le _) ?_
                  · exact ⟨hN', by show (left.filter _).length <= f; omega, hR⟩
                  · show f < f + 1; omega
                  · simp only [go_sem]
                    repeat' (first | refine fork_intro (fun hb => ?_) (fun hb => ?_) | refine partB_intro (fun hb => ?_) (fun hb => ?_) | refine And.intro ?_ ?_)
                    all_goals first | exact True.intro | omega | with_reducible rfl | exact congrArg (AV.int _) (by omega) | (first | rfl)
            · rw [<- hR, starsF_done f (by omega), bagL_bag (n := 7) hG.up hx7 (by omega)]
              exact ⟨⟨by omega, by omega⟩, rfl⟩
  · rw [hg]
    repeat' (first | refine fork_intro (fun hb => ?_) (fun hb => ?_) | refine partB_intro (fun hb => ?_) (fun hb => ?_) | refine And.intro ?_ ?_)
    all_goals first | exact True.intro | omega | with_reducible rfl | exact congrArg (AV.int _) (by omega) | (first | rfl)
def t_greedyStI : Table := [(9, ownC g_greedyStI)]
theorem t_greedyStI_ok : TabOK Try.prog t_greedyStI := .cons Try.func9 (by kernel_rfl) (.own (by intro args hp; unfold g_greedyStI at hp ⊢; split at hp <;> first | exact hp.elim | exact ⟨greedyStI_ok _ _ hp, rfl⟩)) (.nil _)
attribute [go_sem] g_greedyStI_eq t_greedyStI
end Go.Proofs.Ytgcbdpehnonghaa
