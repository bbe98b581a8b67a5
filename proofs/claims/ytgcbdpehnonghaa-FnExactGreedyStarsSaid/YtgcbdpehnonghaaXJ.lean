/- Stars: the best star in the reference. -/
import Derived.Test.YtgcbdpehnonghaaXH
namespace Go.Proofs.Ytgcbdpehnonghaa
open Go.Vc
set_option maxRecDepth 100000
set_option maxHeartbeats 1600000
set_option linter.unusedSimpArgs false
set_option linter.unusedVariables false
def clB (d : List (List Int)) (left : List Int) (s : Int × Int × Int) : List Int := if s.1 < 0 then [] else (near d s.1 left).take s.2.2.toNat
def siB (s : Int × Int × Int) : Int := if s.1 < 0 then 0 else s.1
def coB (s : Int × Int × Int) : Int := if s.1 < 0 then 0 else s.2.1
theorem clB_len {d : List (List Int)} {left : List Int} {n : Nat} {s : Int × Int × Int} (h : StarOK left.length n s) : ((clB d left s).length : Int) = if s.1 < 0 then 0 else s.2.2 := by
  unfold clB
  rcases h.sh with h | ⟨h1, h2⟩
  · subst h; rfl
  · rw [if_neg (by omega), if_neg (by omega), List.length_take, near_len]
    omega
structure LeftOK (o : List Int) (d : List (List Int)) (left : List Int) : Prop where
  f : FieldOK o d
  l7 : left.length <= 7
  mem : ∀ x ∈ left, 0 <= x /\ x < d.length
def g_bestStarS : List AV -> Prop × AV
  | [.agg [.ints o, .rows d], .ints left, .ints O] => ((LeftOK o d left /\ 1 <= left.length) /\ O.length <= 7, .agg [.int .i64 (starS o d O left).1, .ints (gone o d O left), .int .i64 (starS o d O left).2.1])
  | _ => (False, .undef)
theorem g_bestStarS_eq (o : List Int) (d : List (List Int)) (left O : List Int) : g_bestStarS [.agg [.ints o, .rows d], .ints left, .ints O] = ((LeftOK o d left /\ 1 <= left.length) /\ O.length <= 7, .agg [.int .i64 (starS o d O left).1, .ints (gone o d O left), .int .i64 (starS o d O left).2.1]) := (rfl)
theorem bestStarS_ok (o : List Int) (d : List (List Int)) (left O : List Int) (hp : (LeftOK o d left /\ 1 <= left.length) /\ O.length <= 7) : SpecOK Try.prog 24 [.agg [.ints o, .rows d], .ints left, .ints O] (.agg [.int .i64 (starS o d O left).1, .ints (gone o d O left), .int .i64 (starS o d O left).2.1]) [] := by
  refine fun_ok (C := t_hasS ++ t_nrS ++ t_ownI) (hint := hintX [6, 7] [] 0 [] [] [] []) (((t_hasS_ok).append t_nrS_ok).append t_ownI_ok) mixed Try.func24 rfl (by kernel_rfl) rfl ?_
  show codeA _ _ _ _ _ _ _ _
  simp only [go_sem, Try.results24]
  obtain ⟨⟨⟨hf, h7, hm⟩, h1⟩, hO⟩ := hp
  have hn7 := hf.n7
  refine loop_intro (fun a : Nat => [(8, .int .i64 a), (7, .bx 1 0), (6, .bx 0 0), (1, .ints left), (2, .ints O), (3, .iptr [.ints o, .rows d])]) (fun a => [(0, .box [.int .i64 0, .nils, .int .i64 0]), (1, .box [.int .i64 (siB (starOut o d O left a)), .ints (clB d left (starOut o d O left a)), .int .i64 (coB (starOut o d O left a))])]) 2 (fun a => a <= o.length) (fun a => o.length - a) 0 (Nat.zero_le _) (Nat.zero_le _) ?_ ?_
  · simp only [go_sem]
    repeat' (first | refine fork_intro (fun hb => ?_) (fun hb => ?_) | refine partB_intro (fun hb => ?_) (fun hb => ?_) | refine And.intro ?_ ?_)
    all_goals first | exact True.intro | omega | with_reducible rfl | exact congrArg (AV.int _) (by omega) | (first | rfl)
  · intro a ha
    obtain ⟨hs, hs2⟩ := starOut_ok hf O hm h7 a ha
    simp only [go_sem]
    refine fork_intro (fun hc => ?_) (fun hc => ?_)
    · have hal : a < o.length := by omega
      have hob := own0_bd hf O (a := (a : Int)) ⟨by omega, by omega⟩
      obtain ⟨N, hN⟩ : ∃ N, N = near d (a : Int) left := ⟨_, rfl⟩
      have hNl : N.length = left.length := by rw [hN]; exact near_len _ _ _
      have hNm : ∀ x ∈ N, 0 <= x /\ x < d.length := fun x hx => by rw [hN] at hx; exact hm x (near_mem.1 hx)
      obtain ⟨c0, hc0⟩ : ∃ c0, c0 = own0 o O (a : Int) := ⟨_, rfl⟩
      have hnx : starOut o d O left (a + 1) = (starIn d (a : Int) N c0 (starOut o d O left a) left.length).2 := by rw [hN, hc0]; rfl
      rw [<- hc0] at hob
      rw [<- hN]
      refine ⟨by omega, by omega, fork_intro (fun ho => ?_) (fun ho => ?_)⟩
      all_goals
        unfold own0 at hc0
        first | rw [if_pos ho] at hc0 | rw [if_neg ho] at hc0
        refine ⟨⟨hf, h7, ⟨by omega, by omega⟩, hm⟩, ?_⟩
        refine loop_intro (fun k : Nat => [(11, .int .i64 ((k : Int) + 1)), (10, .ints N), (9, .int .i64 (starIn d (a : Int) N c0 (starOut o d O left a) k).1), (8, .int .i64 a), (7, .bx 1 0), (6, .bx 0 0), (1, .ints left), (2, .ints O), (3, .iptr [.ints o, .rows d])]) (fun k => [(0, .box [.int .i64 0, .nils, .int .i64 0]), (1, .box [.int .i64 (siB (starIn d (a : Int) N c0 (starOut o d O left a) k).2), .ints (clB d left (starIn d (a : Int) N c0 (starOut o d O left a) k).2), .int .i64 (coB (starIn d (a : Int) N c0 (starOut o d O left a) k).2)])]) 2 (fun k => k <= N.length) (fun k => N.length - k) 0 (Nat.zero_le _) (Nat.zero_le _) ?_ ?_
        · simp only [go_sem]
          repeat' (first | refine fork_intro (fun hb => ?_) (fun hb => ?_) | refine partB_intro (fun hb => ?_) (fun hb => ?_) | refine And.intro ?_ ?_)
          all_goals first | exact True.intro | omega | with_reducible rfl | exact congrArg (AV.int _) (by omega) | (first | rfl | exact congrArg (AV.int _) hc0.symm)
        · intro k hk
          obtain ⟨b1, b2, b3⟩ := starIn_ok hf (a := (a : Int)) ⟨by omega, by omega⟩ (fun x hx => hNm x hx) (by omega) hob (s := starOut o d O left a) (by rw [hNl]; exact hs) k hk
          have hn1 : starIn d (a : Int) N c0 (starOut o d O left a) (k + 1) = ((starIn d (a : Int) N c0 (starOut o d O left a) k).1 + ix (ix d (ix N (k : Int))) (a : Int), starStep (a : Int) ((starIn d (a : Int) N c0 (starOut o d O left a) k).1 + ix (ix d (ix N (k : Int))) (a : Int)) ((k : Int) + 1) (starIn d (a : Int) N c0 (starOut o d O left a) k).2) := rfl
          have hlB := clB_len (d := d) (left := left) (n := o.length) (s := (starIn d (a : Int) N c0 (starOut o d O left a) k).2) (by rw [<- hNl]; exact b2)
          have hwk := b2.bd
          have hsh := b2.sh
          have hcoB : 0 <= coB (starIn d (a : Int) N c0 (starOut o d O left a) k).2 /\ coB (starIn d (a : Int) N c0 (starOut o d O left a) k).2 <= 1000 := by unfold coB; split <;> omega
          simp only [go_sem]
          simp only [show (k : Int) + 1 - 1 = k by omega]
          refine fork_intro (fun hc2 => ?_) (fun hc2 => ?_)
          · have hx := hNm _ (ix_mem N (show k < N.length by omega))
            have hr := ix_memI d hx.1 hx.2
            have hrl := hf.len _ hr
            have hv := hf.d99 _ hr _ (ix_memI _ (i := (a : Int)) (by omega) (by omega))
            generalize hvv : ix (ix d (ix N (k : Int))) (a : Int) = v at *
            have hst : ((starIn d (a : Int) N c0 (starOut o d O left a) k).2.1 < 0 \/ ((starIn d (a : Int) N c0 (starOut o d O left a) k).1 + v) * (starIn d (a : Int) N c0 (starOut o d O left a) k).2.2.2 < (starIn d (a : Int) N c0 (starOut o d O left a) k).2.2.1 * ((k : Int) + 1) \/ ((starIn d (a : Int) N c0 (starOut o d O left a) k).2.1 = a /\ ((starIn d (a : Int) N c0 (starOut o d O left a) k).1 + v) * (starIn d (a : Int) N c0 (starOut o d O left a) k).2.2.2 = (starIn d (a : Int) N c0 (starOut o d O left a) k).2.2.1 * ((k : Int) + 1))) -> starStep (a : Int) ((starIn d (a : Int) N c0 (starOut o d O left a) k).1 + v) ((k : Int) + 1) (starIn d (a : Int) N c0 (starOut o d O left a) k).2 = ((a : Int), (starIn d (a : Int) N c0 (starOut o d O left a) k).1 + v, (k : Int) + 1) := fun h => if_pos h
            have hkp : ¬ ((starIn d (a : Int) N c0 (starOut o d O left a) k).2.1 < 0 \/ ((starIn d (a : Int) N c0 (starOut o d O left a) k).1 + v) * (starIn d (a : Int) N c0 (starOut o d O left a) k).2.2.2 < (starIn d (a : Int) N c0 (starOut o d O left a) k).2.2.1 * ((k : Int) + 1) \/ ((starIn d (a : Int) N c0 (starOut o d O left a) k).2.1 = a /\ ((starIn d (a : Int) N c0 (starOut o d O left a) k).1 + v) * (starIn d (a : Int) N c0 (starOut o d O left a) k).2.2.2 = (starIn d (a : Int) N c0 (starOut o d O left a) k).2.2.1 * ((k : Int) + 1))) -> starStep (a : Int) ((starIn d (a : Int) N c0 (starOut o d O left a) k).1 + v) ((k : Int) + 1) (starIn d (a : Int) N c0 (starOut o d O left a) k).2 = (starIn d (a : Int) N c0 (starOut o d O left a) k).2 := fun h => if_neg h
            generalize hst0 : (starIn d (a : Int) N c0 (starOut o d O left a) k).2 = st at *
            generalize how : (starIn d (a : Int) N c0 (starOut o d O left a) k).1 = ow at *
            have T1 : siB ((a : Int), ow + v, (k : Int) + 1) = a := if_neg (by show ¬ ((a : Int) < 0); omega)
            have T2 : clB d left ((a : Int), ow + v, (k : Int) + 1) = N.take (k + 1) := by
              unfold clB
              rw [if_neg (by show ¬ ((a : Int) < 0); omega), hN]
              rfl
            have T3 : coB ((a : Int), ow + v, (k : Int) + 1) = ow + v := if_neg (by show ¬ ((a : Int) < 0); omega)
            have cutN : cutL N 0 ((k : Int) + 1) = N.take (k + 1) := cutL_pre N (k + 1)
            have hcl : (N.take (k + 1)).length = k + 1 := by rw [List.length_take]; omega
            rw [<- cutN] at hcl
            have hlB2 : 0 <= ((clB d left st).length : Int) /\ ((clB d left st).length : Int) <= 10 := by
              rw [hlB]
              rcases hsh with e | ⟨e1, e2⟩
              · have := congrArg Prod.fst e
                simp only at this
                rw [if_pos (by omega)]; omega
              · rw [if_neg (by omega)]; omega
            have p1 := prod_bd (x := ow + v) (y := ((clB d left st).length : Int)) (by omega) hlB2
            have p2 := prod_bd (x := coB st) (y := (k : Int) + 1) hcoB (by omega)
            refine ⟨by omega, by omega, by omega, by omega, by omega, by omega, by omega, ?_⟩
            by_cases hneg : st.1 < 0
            · rw [if_pos hneg] at hlB
              refine fork_intro (fun h3 => ?_) (fun h3 => absurd hlB h3)
              · refine ⟨by omega, by omega, by omega, ?_⟩
                rw [cutN]
                refine LoopEnd.intro (k + 1) ?_ ?_ (Nat.zero_le _) ?_ <;> (try omega)
                rw [hn1, hst (.inl hneg), T1, T2, T3]
                simp only [go_sem]
                repeat' (first | refine fork_intro (fun hb => ?_) (fun hb => ?_) | refine partB_intro (fun hb => ?_) (fun hb => ?_) | refine And.intro ?_ ?_)
                all_goals first | exact True.intro | omega | with_reducible rfl | exact congrArg (AV.int _) (by omega) | (first | rfl)
            · rw [if_neg hneg] at hlB
              have hco : coB st = st.2.1 := if_neg hneg
              have hsi : siB st = st.1 := if_neg hneg
              have hmany : 1 <= st.2.2 := by
                rcases hsh with e | ⟨e1, e2⟩
                · have := congrArg Prod.fst e
                  simp only at this
                  omega
                · exact e2.1
              rw [hlB, hco]
              refine fork_intro (fun h3 => by omega) (fun h3 => fork_intro (fun h4 => ?_) (fun h4 => fork_intro (fun h5 => ?_) (fun h5 => ?_)))
              · refine ⟨by omega, by omega, by omega, ?_⟩
                rw [cutN]
                refine LoopEnd.intro (k + 1) ?_ ?_ (Nat.zero_le _) ?_ <;> (try omega)
                rw [hn1, hst (.inr (.inl h4)), T1, T2, T3]
                simp only [go_sem]
                repeat' (first | refine fork_intro (fun hb => ?_) (fun hb => ?_) | refine partB_intro (fun hb => ?_) (fun hb => ?_) | refine And.intro ?_ ?_)
                all_goals first | exact True.intro | omega | with_reducible rfl | exact congrArg (AV.int _) (by omega) | (first | rfl)
              · rw [hsi]
                refine fork_intro (fun h6 => ?_) (fun h6 => ?_)
                · refine ⟨by omega, by omega, by omega, ?_⟩
                  rw [cutN]
                  refine LoopEnd.intro (k + 1) ?_ ?_ (Nat.zero_le _) ?_ <;> (try omega)
                  rw [hn1, hst (.inr (.inr ⟨h6, h5⟩)), T1, T2, T3]
                  simp only [go_sem]
                  repeat' (first | refine fork_intro (fun hb => ?_) (fun hb => ?_) | refine partB_intro (fun hb => ?_) (fun hb => ?_) | refine And.intro ?_ ?_)
                  all_goals first | exact True.intro | omega | with_reducible rfl | exact congrArg (AV.int _) (by omega) | (first | rfl)
                · refine ⟨by omega, ?_⟩
                  refine LoopEnd.intro (k + 1) ?_ ?_ (Nat.zero_le _) ?_ <;> (try omega)
                  rw [hn1, hkp (fun h => by rcases h with h | h | h <;> omega)]
                  simp only [go_sem]
                  repeat' (first | refine fork_intro (fun hb => ?_) (fun hb => ?_) | refine partB_intro (fun hb => ?_) (fun hb => ?_) | refine And.intro ?_ ?_)
                  all_goals first | exact True.intro | omega | with_reducible rfl | exact congrArg (AV.int _) (by omega) | (first | rfl)
              · refine ⟨by omega, ?_⟩
                refine LoopEnd.intro (k + 1) ?_ ?_ (Nat.zero_le _) ?_ <;> (try omega)
                rw [hn1, hkp (fun h => by rcases h with h | h | h <;> omega)]
                simp only [go_sem]
                repeat' (first | refine fork_intro (fun hb => ?_) (fun hb => ?_) | refine partB_intro (fun hb => ?_) (fun hb => ?_) | refine And.intro ?_ ?_)
                all_goals first | exact True.intro | omega | with_reducible rfl | exact congrArg (AV.int _) (by omega) | (first | rfl)
          · have hke : k = left.length := by omega
            refine ⟨by omega, ?_⟩
            refine LoopEnd.intro (a + 1) ?_ ?_ (Nat.zero_le _) ?_ <;> (try omega)
            rw [hnx, hke]
            simp only [go_sem]
            repeat' (first | refine fork_intro (fun hb => ?_) (fun hb => ?_) | refine partB_intro (fun hb => ?_) (fun hb => ?_) | refine And.intro ?_ ?_)
            all_goals first | exact True.intro | omega | with_reducible rfl | exact congrArg (AV.int _) (by omega) | (first | rfl)
    · rw [show a = o.length by omega] at hs hs2 ⊢
      have h3 := hs2 (by have := hf.n1; omega) h1
      unfold siB clB coB gone starS
      rw [if_neg (by omega), if_neg (by omega), if_neg (by omega)]
      exact ⟨rfl, rfl, rfl⟩
def t_bestStarS : Table := [(24, pureC g_bestStarS)]
theorem t_bestStarS_ok : TabOK Try.prog t_bestStarS := .cons Try.func24 (by kernel_rfl) (.pure (by intro args hp; unfold g_bestStarS at hp ⊢; split at hp <;> first | exact hp.elim | exact bestStarS_ok _ _ _ _ hp)) (.nil _)
attribute [go_sem] g_bestStarS_eq t_bestStarS
end Go.Proofs.Ytgcbdpehnonghaa
