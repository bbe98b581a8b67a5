/- Texts joined: A17 A5 A9 A14 A8 PlB A16. -/
import Derived.Test.YteefjdbdknkcjaaGreatDoorJ2
namespace Go.Proofs.YteefjdbdknkcjaaGreatDoor
open Go.Vc
set_option maxRecDepth 100000
set_option linter.unusedSimpArgs false
set_option linter.unusedVariables false

def g_l2Close : List AV -> Prop × AV × Heap
  | [.agg [.ints o, .rows d]] => (FieldOK o d, .agg [.sl 2, .mt 4], [(2, .arr (.ints o)), (4, .mat (closeD d.length o.length d))])
  | _ => (False, .undef, [])
theorem g_l2Close_eq (o : List Int) (d : List (List Int)) : g_l2Close [.agg [.ints o, .rows d]] = (FieldOK o d, .agg [.sl 2, .mt 4], [(2, .arr (.ints o)), (4, .mat (closeD d.length o.length d))]) := (rfl)
theorem l2Close_ok (o : List Int) (d : List (List Int)) (hp : FieldOK o d) : SpecOK Tryz.prog 29 [.agg [.ints o, .rows d]] (.agg [.sl 2, .mt 4]) [(2, .arr (.ints o)), (4, .mat (closeD d.length o.length d))] := by
  refine fun_ok (C := t_l2Own ++ t_metS ++ t_least2) (hint := hintX [2, 3, 9] [] 0 [] [] [] []) (((t_l2Own_ok).append t_metS_ok).append t_least2_ok) mixed Tryz.func29 rfl (by kernel_rfl) rfl ?_
  show codeA _ _ _ _ _ _ _ _
  simp only [go_sem, Tryz.results29]
  have hn := hp.n7
  have hm := hp.m7
  refine ⟨⟨by omega, by omega, fun x hx => by rw [hp.len x hx]; omega⟩, ?_⟩
  refine loop_intro (fun g : List (List Int) => [(3, .bx 5 0), (2, .bx 0 0)]) (fun g => [(0, .box [.nils, .nils]), (2, .arr (.ints o)), (4, .mat g), (5, .box [.sl 2, .mt 4])]) 6 (fun g => Closes d.length o.length d g) (fun g => (msum d.length o.length g).toNat) d (closes_refl hp.sh) (by omega) ?_ ?_
  · simp only [go_sem]
    repeat' (first | refine fork_intro (fun hb => ?_) (fun hb => ?_) | refine partB_intro (fun hb => ?_) (fun hb => ?_) | refine And.intro ?_ ?_)
    all_goals first | exact True.intro | omega | with_reducible rfl | exact congrArg (AV.int _) (by omega) | (first | rfl)
  · intro D hD
    have hF := Sh.field hp hD.sh
    have hDl := hD.sh.len
    simp only [go_sem]
    refine ⟨hF, partB_intro (fun hg => ?_) (fun hg => ?_)⟩
    · have e := closeD_eq hp.sh hm hn hD ((metric_iff hDl).1 hg)
      repeat' (first | refine fork_intro (fun hb => ?_) (fun hb => ?_) | refine partB_intro (fun hb => ?_) (fun hb => ?_) | refine And.intro ?_ ?_)
      all_goals first | exact True.intro | omega | with_reducible rfl | exact congrArg (AV.int _) (by omega) | (first | rfl | rw [e])
    · have hnm : ¬ MetM d.length o.length D := fun h => by rw [(metric_iff hDl).2 h] at hg; cases hg
      refine loop_intro (fun g : Nat × List (List Int) × Bool => [(4, .int .i64 g.1), (3, .bx 5 0), (2, .bx 0 0)]) (fun g => [(0, .box [.nils, .nils]), (2, .arr (.ints o)), (4, .mat g.2.1), (5, .box [.sl 2, .mt 4])]) 6 (fun g => g.1 <= d.length /\ Closes d.length o.length d g.2.1 /\ ProgB d.length o.length D g.2.1 g.2.2 g.1 0 0 0) (fun g => d.length - g.1) (0, D, false) ⟨by show 0 <= _; omega, hD, progB_start ..⟩ (by omega) ?_ ?_
      · simp only [go_sem]
        repeat' (first | refine fork_intro (fun hb => ?_) (fun hb => ?_) | refine partB_intro (fun hb => ?_) (fun hb => ?_) | refine And.intro ?_ ?_)
        all_goals first | exact True.intro | omega | with_reducible rfl | exact congrArg (AV.int _) (by omega) | (first | rfl)
      · rintro ⟨i, M, ch⟩ ⟨hi, hM, hP⟩
        simp only at hi hM hP
        have hMl := hM.sh.len
        simp only [go_sem]
        refine fork_intro (fun hc => ?_) (fun hc => ?_)
        · refine loop_intro (fun g : Nat × List (List Int) × Bool => [(5, .int .i64 g.1), (4, .int .i64 i), (3, .bx 5 0), (2, .bx 0 0)]) (fun g => [(0, .box [.nils, .nils]), (2, .arr (.ints o)), (4, .mat g.2.1), (5, .box [.sl 2, .mt 4])]) 6 (fun g => g.1 <= d.length /\ Closes d.length o.length d g.2.1 /\ ProgB d.length o.length D g.2.1 g.2.2 i g.1 0 0) (fun g => d.length - g.1) (0, M, ch) ⟨by show 0 <= _; omega, hM, hP⟩ (by omega) ?_ ?_
          · simp only [go_sem]
            repeat' (first | refine fork_intro (fun hb => ?_) (fun hb => ?_) | refine partB_intro (fun hb => ?_) (fun hb => ?_) | refine And.intro ?_ ?_)
            all_goals first | exact True.intro | omega | with_reducible rfl | exact congrArg (AV.int _) (by omega) | (first | rfl)
          · rintro ⟨j, M, ch⟩ ⟨hj, hM, hP⟩
            simp only at hj hM hP
            have hMl := hM.sh.len
            simp only [go_sem]
            refine fork_intro (fun hc2 => ?_) (fun hc2 => ?_)
            · refine loop_intro (fun g : Nat × List (List Int) × Bool => [(6, .int .i64 g.1), (5, .int .i64 j), (4, .int .i64 i), (3, .bx 5 0), (2, .bx 0 0)]) (fun g => [(0, .box [.nils, .nils]), (2, .arr (.ints o)), (4, .mat g.2.1), (5, .box [.sl 2, .mt 4])]) 6 (fun g => g.1 <= o.length /\ Closes d.length o.length d g.2.1 /\ ProgB d.length o.length D g.2.1 g.2.2 i j g.1 0) (fun g => o.length - g.1) (0, M, ch) ⟨by show 0 <= _; omega, hM, hP⟩ (by omega) ?_ ?_
              · simp only [go_sem]
                repeat' (first | refine fork_intro (fun hb => ?_) (fun hb => ?_) | refine partB_intro (fun hb => ?_) (fun hb => ?_) | refine And.intro ?_ ?_)
                all_goals first | exact True.intro | omega | with_reducible rfl | exact congrArg (AV.int _) (by omega) | (first | rfl)
              · rintro ⟨a, M, ch⟩ ⟨ha, hM, hP⟩
                simp only at ha hM hP
                have hMl := hM.sh.len
                simp only [go_sem]
                refine fork_intro (fun hc3 => ?_) (fun hc3 => ?_)
                · refine loop_intro (fun g : Nat × List (List Int) × Bool => [(7, .int .i64 g.1), (6, .int .i64 a), (5, .int .i64 j), (4, .int .i64 i), (3, .bx 5 0), (2, .bx 0 0)]) (fun g => [(0, .box [.nils, .nils]), (2, .arr (.ints o)), (4, .mat g.2.1), (5, .box [.sl 2, .mt 4])]) 6 (fun g => g.1 <= o.length /\ Closes d.length o.length d g.2.1 /\ ProgB d.length o.length D g.2.1 g.2.2 i j a g.1) (fun g => o.length - g.1) (0, M, ch) ⟨by show 0 <= _; omega, hM, hP⟩ (by omega) ?_ ?_
                  · simp only [go_sem]
                    repeat' (first | refine fork_intro (fun hb => ?_) (fun hb => ?_) | refine partB_intro (fun hb => ?_) (fun hb => ?_) | refine And.intro ?_ ?_)
                    all_goals first | exact True.intro | omega | with_reducible rfl | exact congrArg (AV.int _) (by omega) | (first | rfl)
                  · rintro ⟨b, M, ch⟩ ⟨hb, hM, hP⟩
                    simp only at hb hM hP
                    have hMl := hM.sh.len
                    simp only [go_sem]
                    refine fork_intro (fun hc4 => ?_) (fun hc4 => ?_)
                    · have r1 := hM.sh.row i (by omega)
                      have r2 := hM.sh.row j (by omega)
                      obtain ⟨v1, v2, v3, v4⟩ := viaV_bd hM.sh (i := i) (j := j) (a := a) (b := b) (by omega) (by omega) (by omega) (by omega)
                      have q1 : ix (ix M (i : Int)) (b : Int) = ent M i b := rfl
                      have q2 : ix (ix M (j : Int)) (b : Int) = ent M j b := rfl
                      have q3 : ix (ix M (j : Int)) (a : Int) = ent M j a := rfl
                      have q4 : ix (ix M (i : Int)) (a : Int) = ent M i a := rfl
                      simp only [q1, q2, q3, q4]
                      have hvv : viaV M i j a b = ent M i b + ent M j b + ent M j a := rfl
                      by_cases hv : viaV M i j a b < ent M i a
                      · have hmin : min (ent M i a) (ent M i b + ent M j b + ent M j a) = viaV M i j a b := by omega
                        have hcl := closes_upd hM (show i < d.length by omega) (show j < d.length by omega) (show a < o.length by omega) (show b < o.length by omega) (by omega)
                        have hpr := ProgB.yes hM.sh (show i < d.length by omega) (show a < o.length by omega) hP hv (i2 := i) (j2 := j) (a2 := a) (b2 := b + 1)
                        simp only [hmin]
                        repeat' (first | refine fork_intro (fun hb => ?_) (fun hb => ?_) | refine partB_intro (fun hb => ?_) (fun hb => ?_) | refine And.intro ?_ ?_)
                        all_goals first | exact True.intro | omega | with_reducible rfl | exact congrArg (AV.int _) (by omega) | (refine LoopEnd.intro ((b + 1, upd M i a (viaV M i j a b), true)) (by first | omega | (first | exact ⟨by show b + 1 <= _; omega, hcl, hpr⟩)) (by first | omega | (dsimp only; omega)) (by omega) ?_; simp only [go_sem]; (repeat' (first | refine fork_intro (fun hb => ?_) (fun hb => ?_) | refine partB_intro (fun hb => ?_) (fun hb => ?_) | refine And.intro ?_ ?_)); all_goals first | exact True.intro | omega | with_reducible rfl | exact congrArg (AV.int _) (by omega) | (first | rfl)) | (first | rfl)
                      · have hmin : min (ent M i a) (ent M i b + ent M j b + ent M j a) = ent M i a := by omega
                        have hpr := hP.no (by omega)
                        have hsame := upd_same hM.sh (show i < d.length by omega) (show a < o.length by omega)
                        have hsame2 : M.set i ((ix M (i : Int)).set a (ent M i a)) = M := hsame
                        simp only [hmin]
                        repeat' (first | refine fork_intro (fun hb => ?_) (fun hb => ?_) | refine partB_intro (fun hb => ?_) (fun hb => ?_) | refine And.intro ?_ ?_)
                        all_goals first | exact True.intro | omega | with_reducible rfl | exact congrArg (AV.int _) (by omega) | (refine LoopEnd.intro ((b + 1, M, ch)) (by first | omega | (first | exact ⟨by show b + 1 <= _; omega, hM, hpr⟩)) (by first | omega | (dsimp only; omega)) (by omega) ?_; simp only [go_sem]; (repeat' (first | refine fork_intro (fun hb => ?_) (fun hb => ?_) | refine partB_intro (fun hb => ?_) (fun hb => ?_) | refine And.intro ?_ ?_)); all_goals first | exact True.intro | omega | with_reducible rfl | exact congrArg (AV.int _) (by omega) | (first | rfl | rw [hsame2])) | (first | rfl | rw [hsame2])
                    · have hpr := hP.b (by omega)
                      repeat' (first | refine fork_intro (fun hb => ?_) (fun hb => ?_) | refine partB_intro (fun hb => ?_) (fun hb => ?_) | refine And.intro ?_ ?_)
                      all_goals first | exact True.intro | omega | with_reducible rfl | exact congrArg (AV.int _) (by omega) | (refine LoopEnd.intro ((a + 1, M, ch)) (by first | omega | (first | exact ⟨by show a + 1 <= _; omega, hM, hpr⟩)) (by first | omega | (dsimp only; omega)) (by omega) ?_; simp only [go_sem]; (repeat' (first | refine fork_intro (fun hb => ?_) (fun hb => ?_) | refine partB_intro (fun hb => ?_) (fun hb => ?_) | refine And.intro ?_ ?_)); all_goals first | exact True.intro | omega | with_reducible rfl | exact congrArg (AV.int _) (by omega) | (first | rfl)) | (first | rfl)
                · have hpr := hP.a (by omega)
                  repeat' (first | refine fork_intro (fun hb => ?_) (fun hb => ?_) | refine partB_intro (fun hb => ?_) (fun hb => ?_) | refine And.intro ?_ ?_)
                  all_goals first | exact True.intro | omega | with_reducible rfl | exact congrArg (AV.int _) (by omega) | (refine LoopEnd.intro ((j + 1, M, ch)) (by first | omega | (first | exact ⟨by show j + 1 <= _; omega, hM, hpr⟩)) (by first | omega | (dsimp only; omega)) (by omega) ?_; simp only [go_sem]; (repeat' (first | refine fork_intro (fun hb => ?_) (fun hb => ?_) | refine partB_intro (fun hb => ?_) (fun hb => ?_) | refine And.intro ?_ ?_)); all_goals first | exact True.intro | omega | with_reducible rfl | exact congrArg (AV.int _) (by omega) | (first | rfl)) | (first | rfl)
            · have hpr := hP.j (by omega)
              repeat' (first | refine fork_intro (fun hb => ?_) (fun hb => ?_) | refine partB_intro (fun hb => ?_) (fun hb => ?_) | refine And.intro ?_ ?_)
              all_goals first | exact True.intro | omega | with_reducible rfl | exact congrArg (AV.int _) (by omega) | (refine LoopEnd.intro ((i + 1, M, ch)) (by first | omega | (first | exact ⟨by show i + 1 <= _; omega, hM, hpr⟩)) (by first | omega | (dsimp only; omega)) (by omega) ?_; simp only [go_sem]; (repeat' (first | refine fork_intro (fun hb => ?_) (fun hb => ?_) | refine partB_intro (fun hb => ?_) (fun hb => ?_) | refine And.intro ?_ ?_)); all_goals first | exact True.intro | omega | with_reducible rfl | exact congrArg (AV.int _) (by omega) | (first | rfl)) | (first | rfl)
        · have hlt : msum d.length o.length M < msum d.length o.length D := by
            rcases hP.end (by omega) with ⟨_, h2, h3⟩ | h
            · subst h2; exact (hnm h3).elim
            · exact h.2
          have hnn := msum_nn hM.sh
          repeat' (first | refine fork_intro (fun hb => ?_) (fun hb => ?_) | refine partB_intro (fun hb => ?_) (fun hb => ?_) | refine And.intro ?_ ?_)
          all_goals first | exact True.intro | omega | with_reducible rfl | exact congrArg (AV.int _) (by omega) | (refine LoopEnd.intro (M) (by first | omega | (first | exact hM)) (by first | omega | (dsimp only; omega)) (by omega) ?_; simp only [go_sem]; (repeat' (first | refine fork_intro (fun hb => ?_) (fun hb => ?_) | refine partB_intro (fun hb => ?_) (fun hb => ?_) | refine And.intro ?_ ?_)); all_goals first | exact True.intro | omega | with_reducible rfl | exact congrArg (AV.int _) (by omega) | (first | rfl)) | (first | rfl)
def t_l2Close : Table := [(29, ownC g_l2Close)]
theorem t_l2Close_ok : TabOK Tryz.prog t_l2Close := .cons Tryz.func29 (by kernel_rfl) (.own (by intro args hp; unfold g_l2Close at hp ⊢; split at hp <;> first | exact hp.elim | exact ⟨l2Close_ok _ _ hp, rfl⟩)) (.nil _)
attribute [go_sem] g_l2Close_eq t_l2Close
def g_closeOfS : List AV -> Prop × AV
  | [.agg [.ints o, .rows d]] => (o.length <= 1048576000 /\ d.length <= 1048576000 /\ ∀ x ∈ d, x.length <= 1048576000, .tup [.agg [.ints (bif good o d then o else []), .rows (bif good o d then closeD d.length o.length d else [])], .bool (good o d)])
  | _ => (False, .undef)
theorem g_closeOfS_eq (o : List Int) (d : List (List Int)) : g_closeOfS [.agg [.ints o, .rows d]] = (o.length <= 1048576000 /\ d.length <= 1048576000 /\ ∀ x ∈ d, x.length <= 1048576000, .tup [.agg [.ints (bif good o d then o else []), .rows (bif good o d then closeD d.length o.length d else [])], .bool (good o d)]) := (rfl)
theorem closeOfS_ok (o : List Int) (d : List (List Int)) (hp : o.length <= 1048576000 /\ d.length <= 1048576000 /\ ∀ x ∈ d, x.length <= 1048576000) : SpecOK Tryz.prog 7 [.agg [.ints o, .rows d]] (.tup [.agg [.ints (bif good o d then o else []), .rows (bif good o d then closeD d.length o.length d else [])], .bool (good o d)]) [] := by
  refine fun_ok (C := t_l2Good ++ t_l2Close) (hint := hintX [2] [] 0 [] [] [] []) ((t_l2Good_ok).append t_l2Close_ok) mixed Tryz.func7 rfl (by kernel_rfl) rfl ?_
  show codeA _ _ _ _ _ _ _ _
  simp only [go_sem, Tryz.results7]
  refine ⟨hp, partB_intro (fun hg => ?_) (fun hg => ?_)⟩
  · rw [hg]
    refine ⟨good_iff.1 hg, ?_⟩
    repeat' (first | refine fork_intro (fun hb => ?_) (fun hb => ?_) | refine partB_intro (fun hb => ?_) (fun hb => ?_) | refine And.intro ?_ ?_)
    all_goals first | exact True.intro | omega | with_reducible rfl | exact congrArg (AV.int _) (by omega) | (first | rfl)
  · rw [hg]
    repeat' (first | refine fork_intro (fun hb => ?_) (fun hb => ?_) | refine partB_intro (fun hb => ?_) (fun hb => ?_) | refine And.intro ?_ ?_)
    all_goals first | exact True.intro | omega | with_reducible rfl | exact congrArg (AV.int _) (by omega) | (first | rfl)
def t_closeOfS : Table := [(7, pureC g_closeOfS)]
theorem t_closeOfS_ok : TabOK Tryz.prog t_closeOfS := .cons Tryz.func7 (by kernel_rfl) (.pure (by intro args hp; unfold g_closeOfS at hp ⊢; split at hp <;> first | exact hp.elim | exact closeOfS_ok _ _ hp)) (.nil _)
attribute [go_sem] g_closeOfS_eq t_closeOfS
def g_closeOfI : List AV -> Prop × AV × Heap
  | [.agg [.ints o, .rows d]] => (o.length <= 1048576000 /\ d.length <= 1048576000 /\ ∀ x ∈ d, x.length <= 1048576000, .tup [.agg [.sl 1, .mt 2], .bool (good o d)], [(1, .arr (.ints (bif good o d then o else []))), (2, .mat (bif good o d then closeD d.length o.length d else []))])
  | _ => (False, .undef, [])
theorem g_closeOfI_eq (o : List Int) (d : List (List Int)) : g_closeOfI [.agg [.ints o, .rows d]] = (o.length <= 1048576000 /\ d.length <= 1048576000 /\ ∀ x ∈ d, x.length <= 1048576000, .tup [.agg [.sl 1, .mt 2], .bool (good o d)], [(1, .arr (.ints (bif good o d then o else []))), (2, .mat (bif good o d then closeD d.length o.length d else []))]) := (rfl)
theorem closeOfI_ok (o : List Int) (d : List (List Int)) (hp : o.length <= 1048576000 /\ d.length <= 1048576000 /\ ∀ x ∈ d, x.length <= 1048576000) : SpecOK Tryz.prog 6 [.agg [.ints o, .rows d]] (.tup [.agg [.sl 1, .mt 2], .bool (good o d)]) [(1, .arr (.ints (bif good o d then o else []))), (2, .mat (bif good o d then closeD d.length o.length d else []))] := by
  refine fun_ok (C := t_isF ++ t_cloneI ++ t_copyL) (hint := hintX [2, 4, 19, 22] [(2, [.post, .upf 2 0 (.arr (.ints [])), .upf 2 1 (.mat [])])] 0 [] [] [] []) (((t_isF_ok).append t_cloneI_ok).append t_copyL_ok) mixed Tryz.func6 rfl (by kernel_rfl) rfl ?_
  show codeA _ _ _ _ _ _ _ _
  simp only [go_sem, Tryz.results6]
  refine ⟨hp, partB_intro (fun hg => ?_) (fun hg => ?_)⟩
  · have h := good_iff.1 hg
    have hn := h.n7
    have hm := h.m7
    rw [hg]
    refine ⟨by omega, ⟨by omega, hp.2.2⟩, ?_⟩
    refine loop_intro (fun g : List (List Int) × Bool => [(4, .bx 3 0), (2, .bx 0 0), (5, .bool g.2)]) (fun g => [(0, .box [.nils, .nils]), (1, .arr (.ints o)), (2, .mat g.1), (3, .box [.sl 1, .mt 2])]) 4 (fun g => Closes d.length o.length d g.1 /\ (g.2 = false -> MetM d.length o.length g.1)) (fun g => (msum d.length o.length g.1).toNat + (bif g.2 then 1 else 0)) (d, true) ⟨closes_refl h.sh, by intro h; cases h⟩ (by omega) ?_ ?_
    · simp only [go_sem]
      repeat' (first | refine fork_intro (fun hb => ?_) (fun hb => ?_) | refine partB_intro (fun hb => ?_) (fun hb => ?_) | refine And.intro ?_ ?_)
      all_goals first | exact True.intro | omega | with_reducible rfl | exact congrArg (AV.int _) (by omega) | (first | rfl)
    · rintro ⟨D, ch0⟩ ⟨hD, hmet⟩
      simp only at hD hmet
      have hDl := hD.sh.len
      simp only [go_sem]
      refine partB_intro (fun hch => ?_) (fun hch => ?_)
      · subst hch
        refine loop_intro (fun g : Nat × List (List Int) × Bool => [(26, .mt 2), (27, .int .i64 d.length), (28, .int .i64 g.1), (4, .bx 3 0), (2, .bx 0 0), (5, .bool g.2.2)]) (fun g => [(0, .box [.nils, .nils]), (1, .arr (.ints o)), (2, .mat g.2.1), (3, .box [.sl 1, .mt 2])]) 4 (fun g => g.1 <= d.length /\ Closes d.length o.length d g.2.1 /\ ProgB d.length o.length D g.2.1 g.2.2 g.1 0 0 0) (fun g => d.length - g.1) (0, D, false) ⟨by show 0 <= _; omega, hD, progB_start ..⟩ (by omega) ?_ ?_
        · simp only [go_sem]
          repeat' (first | refine fork_intro (fun hb => ?_) (fun hb => ?_) | refine partB_intro (fun hb => ?_) (fun hb => ?_) | refine And.intro ?_ ?_)
          all_goals first | exact True.intro | omega | with_reducible rfl | exact congrArg (AV.int _) (by omega) | (first | rfl | rw [hDl])
        · rintro ⟨i, M, ch⟩ ⟨hi, hM, hP⟩
          simp only at hi hM hP
          have hMl := hM.sh.len
          simp only [go_sem]
          refine fork_intro (fun hc => ?_) (fun hc => ?_)
          · refine ⟨by omega, ?_⟩
            refine loop_intro (fun g : Nat × List (List Int) × Bool => [(7, .mr 2 i), (33, .mt 2), (34, .int .i64 d.length), (35, .int .i64 g.1), (26, .mt 2), (27, .int .i64 d.length), (28, .int .i64 i), (4, .bx 3 0), (2, .bx 0 0), (5, .bool g.2.2)]) (fun g => [(0, .box [.nils, .nils]), (1, .arr (.ints o)), (2, .mat g.2.1), (3, .box [.sl 1, .mt 2])]) 4 (fun g => g.1 <= d.length /\ Closes d.length o.length d g.2.1 /\ ProgB d.length o.length D g.2.1 g.2.2 i g.1 0 0) (fun g => d.length - g.1) (0, M, ch) ⟨by show 0 <= _; omega, hM, hP⟩ (by omega) ?_ ?_
            · simp only [go_sem]
              repeat' (first | refine fork_intro (fun hb => ?_) (fun hb => ?_) | refine partB_intro (fun hb => ?_) (fun hb => ?_) | refine And.intro ?_ ?_)
              all_goals first | exact True.intro | omega | with_reducible rfl | exact congrArg (AV.int _) (by omega) | (first | rfl | rw [hMl])
            · rintro ⟨j, M, ch⟩ ⟨hj, hM, hP⟩
              simp only at hj hM hP
              have hMl := hM.sh.len
              simp only [go_sem]
              refine fork_intro (fun hc2 => ?_) (fun hc2 => ?_)
              · refine ⟨by omega, ?_⟩
                refine loop_intro (fun g : Nat × List (List Int) × Bool => [(9, .mr 2 j), (40, .sl 1), (41, .int .i64 o.length), (42, .int .i64 g.1), (7, .mr 2 i), (33, .mt 2), (34, .int .i64 d.length), (35, .int .i64 j), (26, .mt 2), (27, .int .i64 d.length), (28, .int .i64 i), (4, .bx 3 0), (2, .bx 0 0), (5, .bool g.2.2)]) (fun g => [(0, .box [.nils, .nils]), (1, .arr (.ints o)), (2, .mat g.2.1), (3, .box [.sl 1, .mt 2])]) 4 (fun g => g.1 <= o.length /\ Closes d.length o.length d g.2.1 /\ ProgB d.length o.length D g.2.1 g.2.2 i j g.1 0) (fun g => o.length - g.1) (0, M, ch) ⟨by show 0 <= _; omega, hM, hP⟩ (by omega) ?_ ?_
                · simp only [go_sem]
                  repeat' (first | refine fork_intro (fun hb => ?_) (fun hb => ?_) | refine partB_intro (fun hb => ?_) (fun hb => ?_) | refine And.intro ?_ ?_)
                  all_goals first | exact True.intro | omega | with_reducible rfl | exact congrArg (AV.int _) (by omega) | (first | rfl)
                · rintro ⟨a, M, ch⟩ ⟨ha, hM, hP⟩
                  simp only at ha hM hP
                  have hMl := hM.sh.len
                  simp only [go_sem]
                  refine fork_intro (fun hc3 => ?_) (fun hc3 => ?_)
                  · refine loop_intro (fun g : Nat × List (List Int) × Bool => [(10, .int .i64 a), (46, .sl 1), (47, .int .i64 o.length), (48, .int .i64 g.1), (9, .mr 2 j), (40, .sl 1), (41, .int .i64 o.length), (42, .int .i64 a), (7, .mr 2 i), (33, .mt 2), (34, .int .i64 d.length), (35, .int .i64 j), (26, .mt 2), (27, .int .i64 d.length), (28, .int .i64 i), (4, .bx 3 0), (2, .bx 0 0), (5, .bool g.2.2)]) (fun g => [(0, .box [.nils, .nils]), (1, .arr (.ints o)), (2, .mat g.2.1), (3, .box [.sl 1, .mt 2])]) 4 (fun g => g.1 <= o.length /\ Closes d.length o.length d g.2.1 /\ ProgB d.length o.length D g.2.1 g.2.2 i j a g.1) (fun g => o.length - g.1) (0, M, ch) ⟨by show 0 <= _; omega, hM, hP⟩ (by omega) ?_ ?_
                    · simp only [go_sem]
                      repeat' (first | refine fork_intro (fun hb => ?_) (fun hb => ?_) | refine partB_intro (fun hb => ?_) (fun hb => ?_) | refine And.intro ?_ ?_)
                      all_goals first | exact True.intro | omega | with_reducible rfl | exact congrArg (AV.int _) (by omega) | (first | rfl)
                    · rintro ⟨b, M, ch⟩ ⟨hb, hM, hP⟩
                      simp only at hb hM hP
                      have hMl := hM.sh.len
                      simp only [go_sem]
                      refine fork_intro (fun hc4 => ?_) (fun hc4 => ?_)
                      · have r1 := hM.sh.row i (by omega)
                        have r2 := hM.sh.row j (by omega)
                        obtain ⟨v1, v2, v3, v4⟩ := viaV_bd hM.sh (i := i) (j := j) (a := a) (b := b) (by omega) (by omega) (by omega) (by omega)
                        have q1 : ix (ix M (i : Int)) (b : Int) = ent M i b := rfl
                        have q2 : ix (ix M (j : Int)) (b : Int) = ent M j b := rfl
                        have q3 : ix (ix M (j : Int)) (a : Int) = ent M j a := rfl
                        have q4 : ix (ix M (i : Int)) (a : Int) = ent M i a := rfl
                        have hvv : ent M i b + ent M j b + ent M j a = viaV M i j a b := rfl
                        simp only [q1, q2, q3, q4, hvv]
                        have hcl := fun hv => closes_upd hM (show i < d.length by omega) (show j < d.length by omega) (show a < o.length by omega) (show b < o.length by omega) (Int.le_of_lt hv)
                        have hpy := fun hv => ProgB.yes hM.sh (show i < d.length by omega) (show a < o.length by omega) hP (v := viaV M i j a b) hv (i2 := i) (j2 := j) (a2 := a) (b2 := b + 1)
                        have hpn := fun hv => hP.no hv
                        refine ⟨by omega, by omega, by omega, by omega, by omega, by omega, fork_intro (fun hv => ?_) (fun hv => ?_)⟩
                        · have g1 := hcl hv
                          have g2 := hpy hv
                          repeat' (first | refine fork_intro (fun hb => ?_) (fun hb => ?_) | refine partB_intro (fun hb => ?_) (fun hb => ?_) | refine And.intro ?_ ?_)
                          all_goals first | exact True.intro | omega | with_reducible rfl | exact congrArg (AV.int _) (by omega) | (refine LoopEnd.intro ((b + 1, upd M i a (viaV M i j a b), true)) (by first | omega | (first | exact ⟨by show b + 1 <= _; omega, g1, g2⟩)) (by first | omega | (dsimp only; omega)) (by omega) ?_; simp only [go_sem]; (repeat' (first | refine fork_intro (fun hb => ?_) (fun hb => ?_) | refine partB_intro (fun hb => ?_) (fun hb => ?_) | refine And.intro ?_ ?_)); all_goals first | exact True.intro | omega | with_reducible rfl | exact congrArg (AV.int _) (by omega) | (first | rfl)) | (first | rfl)
                        · have g2 := hpn (by omega)
                          repeat' (first | refine fork_intro (fun hb => ?_) (fun hb => ?_) | refine partB_intro (fun hb => ?_) (fun hb => ?_) | refine And.intro ?_ ?_)
                          all_goals first | exact True.intro | omega | with_reducible rfl | exact congrArg (AV.int _) (by omega) | (refine LoopEnd.intro ((b + 1, M, ch)) (by first | omega | (first | exact ⟨by show b + 1 <= _; omega, hM, g2⟩)) (by first | omega | (dsimp only; omega)) (by omega) ?_; simp only [go_sem]; (repeat' (first | refine fork_intro (fun hb => ?_) (fun hb => ?_) | refine partB_intro (fun hb => ?_) (fun hb => ?_) | refine And.intro ?_ ?_)); all_goals first | exact True.intro | omega | with_reducible rfl | exact congrArg (AV.int _) (by omega) | (first | rfl)) | (first | rfl)
                      · have hpr := hP.b (by omega)
                        repeat' (first | refine fork_intro (fun hb => ?_) (fun hb => ?_) | refine partB_intro (fun hb => ?_) (fun hb => ?_) | refine And.intro ?_ ?_)
                        all_goals first | exact True.intro | omega | with_reducible rfl | exact congrArg (AV.int _) (by omega) | (refine LoopEnd.intro ((a + 1, M, ch)) (by first | omega | (first | exact ⟨by show a + 1 <= _; omega, hM, hpr⟩)) (by first | omega | (dsimp only; omega)) (by omega) ?_; simp only [go_sem]; (repeat' (first | refine fork_intro (fun hb => ?_) (fun hb => ?_) | refine partB_intro (fun hb => ?_) (fun hb => ?_) | refine And.intro ?_ ?_)); all_goals first | exact True.intro | omega | with_reducible rfl | exact congrArg (AV.int _) (by omega) | (first | rfl)) | (first | rfl)
                  · have hpr := hP.a (by omega)
                    repeat' (first | refine fork_intro (fun hb => ?_) (fun hb => ?_) | refine partB_intro (fun hb => ?_) (fun hb => ?_) | refine And.intro ?_ ?_)
                    all_goals first | exact True.intro | omega | with_reducible rfl | exact congrArg (AV.int _) (by omega) | (refine LoopEnd.intro ((j + 1, M, ch)) (by first | omega | (first | exact ⟨by show j + 1 <= _; omega, hM, hpr⟩)) (by first | omega | (dsimp only; omega)) (by omega) ?_; simp only [go_sem]; (repeat' (first | refine fork_intro (fun hb => ?_) (fun hb => ?_) | refine partB_intro (fun hb => ?_) (fun hb => ?_) | refine And.intro ?_ ?_)); all_goals first | exact True.intro | omega | with_reducible rfl | exact congrArg (AV.int _) (by omega) | (first | rfl)) | (first | rfl)
              · have hpr := hP.j (by omega)
                repeat' (first | refine fork_intro (fun hb => ?_) (fun hb => ?_) | refine partB_intro (fun hb => ?_) (fun hb => ?_) | refine And.intro ?_ ?_)
                all_goals first | exact True.intro | omega | with_reducible rfl | exact congrArg (AV.int _) (by omega) | (refine LoopEnd.intro ((i + 1, M, ch)) (by first | omega | (first | exact ⟨by show i + 1 <= _; omega, hM, hpr⟩)) (by first | omega | (dsimp only; omega)) (by omega) ?_; simp only [go_sem]; (repeat' (first | refine fork_intro (fun hb => ?_) (fun hb => ?_) | refine partB_intro (fun hb => ?_) (fun hb => ?_) | refine And.intro ?_ ?_)); all_goals first | exact True.intro | omega | with_reducible rfl | exact congrArg (AV.int _) (by omega) | (first | rfl)) | (first | rfl)
          · have hnn := msum_nn hM.sh
            have hE := hP.end (by omega)
            have hm1 : (msum d.length o.length M).toNat + (bif ch then 1 else 0) < (msum d.length o.length D).toNat + 1 := by
              rcases hE with ⟨h1, h2, h3⟩ | ⟨h1, h2⟩
              · subst h1; subst h2; simp
              · subst h1; simp only [cond_true]; omega
            have hm2 : ch = false -> MetM d.length o.length M := fun hf => by
              rcases hE with ⟨h1, h2, h3⟩ | ⟨h1, h2⟩
              · exact h3
              · rw [hf] at h1; cases h1
            repeat' (first | refine fork_intro (fun hb => ?_) (fun hb => ?_) | refine partB_intro (fun hb => ?_) (fun hb => ?_) | refine And.intro ?_ ?_)
            all_goals first | exact True.intro | omega | with_reducible rfl | exact congrArg (AV.int _) (by omega) | (refine LoopEnd.intro ((M, ch)) (by first | omega | (first | exact ⟨hM, hm2⟩ | exact hm1)) (by first | omega | (dsimp only; omega)) (by omega) ?_; simp only [go_sem]; (repeat' (first | refine fork_intro (fun hb => ?_) (fun hb => ?_) | refine partB_intro (fun hb => ?_) (fun hb => ?_) | refine And.intro ?_ ?_)); all_goals first | exact True.intro | omega | with_reducible rfl | exact congrArg (AV.int _) (by omega) | (first | rfl)) | (first | rfl)
      · have e := closeD_eq h.sh hm hn hD (hmet hch)
        repeat' (first | refine fork_intro (fun hb => ?_) (fun hb => ?_) | refine partB_intro (fun hb => ?_) (fun hb => ?_) | refine And.intro ?_ ?_)
        all_goals first | exact True.intro | omega | with_reducible rfl | exact congrArg (AV.int _) (by omega) | (first | rfl | rw [e])
  · rw [hg]
    repeat' (first | refine fork_intro (fun hb => ?_) (fun hb => ?_) | refine partB_intro (fun hb => ?_) (fun hb => ?_) | refine And.intro ?_ ?_)
    all_goals first | exact True.intro | omega | with_reducible rfl | exact congrArg (AV.int _) (by omega) | (first | rfl)
def t_closeOfI : Table := [(6, ownC g_closeOfI)]
theorem t_closeOfI_ok : TabOK Tryz.prog t_closeOfI := .cons Tryz.func6 (by kernel_rfl) (.own (by intro args hp; unfold g_closeOfI at hp ⊢; split at hp <;> first | exact hp.elim | exact ⟨closeOfI_ok _ _ hp, rfl⟩)) (.nil _)
attribute [go_sem] g_closeOfI_eq t_closeOfI
end Go.Proofs.YteefjdbdknkcjaaGreatDoor
namespace Go.Proofs.YteefjdbdknkcjaaGreatDoor
open Go.Vc
set_option maxRecDepth 100000
set_option linter.unusedSimpArgs false
set_option linter.unusedVariables false

def g_risI : List AV -> Prop × AV
  | [.ints xs, .int .i64 n] => (xs.length <= 1048576000 /\ 0 <= n /\ n <= 1048576000, .bool (ris 0 (n - 1) xs))
  | _ => (False, .undef)
theorem g_risI_eq (xs : List Int) (n : Int) : g_risI [.ints xs, .int .i64 n] = (xs.length <= 1048576000 /\ 0 <= n /\ n <= 1048576000, .bool (ris 0 (n - 1) xs)) := (rfl)
theorem risI_ok (xs : List Int) (n : Int) (hp : xs.length <= 1048576000 /\ 0 <= n /\ n <= 1048576000) : SpecOK Tryz.prog 86 [.ints xs, .int .i64 n] (.bool (ris 0 (n - 1) xs)) [] := by
  refine fun_ok (C := t_between) (hint := hintX [] [] 0 [] [] [] []) (t_between_ok) mixed Tryz.func86 rfl (by kernel_rfl) rfl ?_
  show codeA _ _ _ _ _ _ _ _
  simp only [go_sem, Tryz.results86]
  refine loop_intro (fun k : Nat => [(7, .ints xs), (8, .int .i64 xs.length), (9, .int .i64 k), (0, .ints xs), (1, .int .i64 n)]) (fun _ => []) 0 (fun k => k <= xs.length /\ ∀ k', k' < k -> (0 <= ix xs (k' : Int) /\ ix xs (k' : Int) <= n - 1) /\ (0 < k' -> ix xs ((k' : Int) - 1) < ix xs (k' : Int))) (fun k => xs.length - k) 0 ⟨Nat.zero_le _, fun i' h => absurd h (Nat.not_lt_zero _)⟩ (Nat.zero_le _) ?_ ?_
  · simp only [go_sem]
    repeat' (first | refine fork_intro (fun hb => ?_) (fun hb => ?_) | refine partB_intro (fun hb => ?_) (fun hb => ?_) | refine And.intro ?_ ?_)
    all_goals first | trivial | rfl | omega
  · rintro k ⟨hk, ht⟩
    simp only [go_sem]
    refine fork_intro (fun hb => ?_) (fun hb => ?_)
    · have hz : ∀ h : ¬((0 <= ix xs (k : Int) /\ ix xs (k : Int) <= n - 1) /\ (0 < k -> ix xs ((k : Int) - 1) < ix xs (k : Int))), ris 0 (n - 1) xs = false := fun h => decide_eq_false (fun hz => h (hz k (by omega)))
      have hs : ∀ h : ((0 <= ix xs (k : Int) /\ ix xs (k : Int) <= n - 1) /\ (0 < k -> ix xs ((k : Int) - 1) < ix xs (k : Int))), ∀ k', k' < k + 1 -> (0 <= ix xs (k' : Int) /\ ix xs (k' : Int) <= n - 1) /\ (0 < k' -> ix xs ((k' : Int) - 1) < ix xs (k' : Int)) := by
        intro h k' hk'
        rcases Nat.lt_succ_iff_lt_or_eq.1 hk' with h' | h'
        · exact ht k' h'
        · subst h'; exact h
      refine ⟨by omega, by omega, fork_intro (fun h1 => fork_intro (fun h2 => ⟨by omega, by omega, fork_intro (fun h3 => ?_) (fun h3 => ⟨by omega, ?_⟩)⟩) (fun h2 => ⟨by omega, ?_⟩)) (fun h1 => ?_)⟩
      · rw [hz (by omega)]
      · refine LoopEnd.intro (k + 1) ⟨by omega, hs ⟨by omega, fun _ => by omega⟩⟩ (by omega) (Nat.zero_le _) ?_
        simp only [go_sem]
        repeat' (first | refine fork_intro (fun hb => ?_) (fun hb => ?_) | refine partB_intro (fun hb => ?_) (fun hb => ?_) | refine And.intro ?_ ?_)
        all_goals first | trivial | rfl | omega
      · refine LoopEnd.intro (k + 1) ⟨by omega, hs ⟨by omega, fun h => by omega⟩⟩ (by omega) (Nat.zero_le _) ?_
        simp only [go_sem]
        repeat' (first | refine fork_intro (fun hb => ?_) (fun hb => ?_) | refine partB_intro (fun hb => ?_) (fun hb => ?_) | refine And.intro ?_ ?_)
        all_goals first | trivial | rfl | omega
      · rw [hz (by omega)]
    · rw [show ris 0 (n - 1) xs = true from decide_eq_true (fun k' hk' => ht k' (by omega))]
def t_risI : Table := [(86, pureC g_risI)]
theorem t_risI_ok : TabOK Tryz.prog t_risI := .cons Tryz.func86 (by kernel_rfl) (.pure (by intro args hp; unfold g_risI at hp ⊢; split at hp <;> first | exact hp.elim | exact risI_ok _ _ hp)) (.nil _)
attribute [go_sem] g_risI_eq t_risI
def g_payI : List AV -> Prop × AV
  | [.agg [.ints o, .rows d], .ints xs] => (PayOK o xs, .int .i64 (pay o xs))
  | _ => (False, .undef)
theorem g_payI_eq (o : List Int) (d : List (List Int)) (xs : List Int) : g_payI [.agg [.ints o, .rows d], .ints xs] = (PayOK o xs, .int .i64 (pay o xs)) := (rfl)
theorem payI_ok (o : List Int) (d : List (List Int)) (xs : List Int) (hp : PayOK o xs) : SpecOK Tryz.prog 62 [.agg [.ints o, .rows d], .ints xs] (.int .i64 (pay o xs)) [] := by
  refine fun_ok (C := []) (hint := hintX [] [] 0 [] [] [] []) (TabOK.nil _) mixed Tryz.func62 rfl (by kernel_rfl) rfl ?_
  show codeA _ _ _ _ _ _ _ _
  simp only [go_sem, Tryz.results62]
  have hl := hp.len
  refine loop_intro (fun k : Nat => [(5, .int .i64 (pay o (xs.take k))), (8, .ints xs), (9, .int .i64 xs.length), (10, .int .i64 k), (1, .ints xs), (2, .iptr [.ints o, .rows d])]) (fun _ => []) 0 (fun k => k <= xs.length) (fun k => xs.length - k) 0 (Nat.zero_le _) (Nat.zero_le _) ?_ ?_
  · simp only [go_sem]
    repeat' (first | refine fork_intro (fun hb => ?_) (fun hb => ?_) | refine partB_intro (fun hb => ?_) (fun hb => ?_) | refine And.intro ?_ ?_)
    all_goals first | trivial | rfl | omega
  · rintro k hk
    simp only [go_sem]
    refine fork_intro (fun hb => ?_) (fun hb => ?_)
    · have hx := hp.xin k (by omega)
      have hv := hp.o99 _ hx.1 hx.2
      have h1 := hp.bd hk
      refine ⟨by omega, by omega, by omega, by omega, ?_⟩
      refine LoopEnd.intro (k + 1) (by omega) (by omega) (Nat.zero_le _) ?_
      simp only [go_sem]
      rw [pay_take o xs (by omega)]
      repeat' (first | refine fork_intro (fun hb => ?_) (fun hb => ?_) | refine partB_intro (fun hb => ?_) (fun hb => ?_) | refine And.intro ?_ ?_)
      all_goals first | trivial | rfl | omega
    · rw [List.take_of_length_le (by omega)]
def t_payI : Table := [(62, pureC g_payI)]
theorem t_payI_ok : TabOK Tryz.prog t_payI := .cons Tryz.func62 (by kernel_rfl) (.pure (by intro args hp; unfold g_payI at hp ⊢; split at hp <;> first | exact hp.elim | exact payI_ok _ _ _ hp)) (.nil _)
attribute [go_sem] g_payI_eq t_payI
end Go.Proofs.YteefjdbdknkcjaaGreatDoor
namespace Go.Proofs.YteefjdbdknkcjaaGreatDoor
open Go.Vc
set_option maxRecDepth 100000
set_option linter.unusedSimpArgs false
set_option linter.unusedVariables false

def g_isSetI : List AV -> Prop × AV
  | [.agg [.ints o, .rows d], .ints set] => (o.length <= 1048576000 /\ set.length <= 1048576000, .bool (ris 0 (o.length - 1) set && decide (0 < (set.length : Int))))
  | _ => (False, .undef)
theorem g_isSetI_eq (o : List Int) (d : List (List Int)) (set : List Int) : g_isSetI [.agg [.ints o, .rows d], .ints set] = (o.length <= 1048576000 /\ set.length <= 1048576000, .bool (ris 0 (o.length - 1) set && decide (0 < (set.length : Int)))) := (rfl)
theorem isSetI_ok (o : List Int) (d : List (List Int)) (set : List Int) (hp : o.length <= 1048576000 /\ set.length <= 1048576000) : SpecOK Tryz.prog 67 [.agg [.ints o, .rows d], .ints set] (.bool (ris 0 (o.length - 1) set && decide (0 < (set.length : Int)))) [] := by
  refine fun_ok (C := t_risI) (hint := hintX [] [] 0 [] [] [] []) (t_risI_ok) mixed Tryz.func67 rfl (by kernel_rfl) rfl ?_
  show codeA _ _ _ _ _ _ _ _
  simp only [go_sem, Tryz.results67]
  refine fork_intro (fun h => ⟨by omega, ?_⟩) (fun h => ?_)
  · rw [decide_eq_true h, Bool.and_true]
  · rw [decide_eq_false h, Bool.and_false]
def t_isSetI : Table := [(67, pureC g_isSetI)]
theorem t_isSetI_ok : TabOK Tryz.prog t_isSetI := .cons Tryz.func67 (by kernel_rfl) (.pure (by intro args hp; unfold g_isSetI at hp ⊢; split at hp <;> first | exact hp.elim | exact isSetI_ok _ _ _ hp)) (.nil _)
attribute [go_sem] g_isSetI_eq t_isSetI
def g_openI : List AV -> Prop × AV
  | [.agg [.ints o, .rows d], .ints set] => ((o.length <= 1048576000 /\ d.length <= 1048576000 /\ ∀ x ∈ d, x.length <= 1048576000) /\ set.length <= 1048576000, .bool (opened o d set))
  | _ => (False, .undef)
theorem g_openI_eq (o : List Int) (d : List (List Int)) (set : List Int) : g_openI [.agg [.ints o, .rows d], .ints set] = ((o.length <= 1048576000 /\ d.length <= 1048576000 /\ ∀ x ∈ d, x.length <= 1048576000) /\ set.length <= 1048576000, .bool (opened o d set)) := (rfl)
theorem openI_ok (o : List Int) (d : List (List Int)) (set : List Int) (hp : (o.length <= 1048576000 /\ d.length <= 1048576000 /\ ∀ x ∈ d, x.length <= 1048576000) /\ set.length <= 1048576000) : SpecOK Tryz.prog 45 [.agg [.ints o, .rows d], .ints set] (.bool (opened o d set)) [] := by
  refine fun_ok (C := t_isF ++ t_isSetI) (hint := hintX [] [] 0 [] [] [] []) ((t_isF_ok).append t_isSetI_ok) mixed Tryz.func45 rfl (by kernel_rfl) rfl ?_
  show codeA _ _ _ _ _ _ _ _
  simp only [go_sem, Tryz.results45]
  refine ⟨hp.1, partB_intro (fun hg => ⟨by omega, ?_⟩) (fun hg => ?_)⟩
  · rw [opened, hg]; rfl
  · rw [opened, hg]; rfl
def t_openI : Table := [(45, pureC g_openI)]
theorem t_openI_ok : TabOK Tryz.prog t_openI := .cons Tryz.func45 (by kernel_rfl) (.pure (by intro args hp; unfold g_openI at hp ⊢; split at hp <;> first | exact hp.elim | exact openI_ok _ _ _ hp)) (.nil _)
attribute [go_sem] g_openI_eq t_openI
def g_serverI : List AV -> Prop × AV
  | [.agg [.ints o, .rows d], .int .i64 i, .ints set] => (OpenOK o d set /\ 0 <= i /\ i < d.length, .int .i64 (srv (ix d i) set))
  | _ => (False, .undef)
theorem g_serverI_eq (o : List Int) (d : List (List Int)) (i : Int) (set : List Int) : g_serverI [.agg [.ints o, .rows d], .int .i64 i, .ints set] = (OpenOK o d set /\ 0 <= i /\ i < d.length, .int .i64 (srv (ix d i) set)) := (rfl)
theorem serverI_ok (o : List Int) (d : List (List Int)) (i : Int) (set : List Int) (hp : OpenOK o d set /\ 0 <= i /\ i < d.length) : SpecOK Tryz.prog 104 [.agg [.ints o, .rows d], .int .i64 i, .ints set] (.int .i64 (srv (ix d i) set)) [] := by
  refine fun_ok (C := []) (hint := hintX [] [] 0 [] [] [] []) (TabOK.nil _) mixed Tryz.func104 rfl (by kernel_rfl) rfl ?_
  show codeA _ _ _ _ _ _ _ _
  simp only [go_sem, Tryz.results104]
  obtain ⟨h, h0, h1⟩ := hp
  have hpos := h.pos
  have hlen := h.len
  have hrow := h.f.d_len h0 h1
  refine ⟨by omega, ?_⟩
  refine loop_intro (fun k : Nat => [(7, .int .i64 (srvF (ix d i) (ix set 0) (set.take k))), (13, .ints set), (14, .int .i64 set.length), (15, .int .i64 k), (1, .int .i64 i), (3, .iptr [.ints o, .rows d])]) (fun _ => []) 0 (fun k => k <= set.length) (fun k => set.length - k) 0 (by omega) (by omega) ?_ ?_
  · simp only [go_sem]
    repeat' (first | refine fork_intro (fun hb => ?_) (fun hb => ?_) | refine partB_intro (fun hb => ?_) (fun hb => ?_) | refine And.intro ?_ ?_)
    all_goals first | exact True.intro | omega | with_reducible rfl | exact congrArg (AV.int _) (by omega) | (first | rfl)
  · intro k hk2
    have hb := h.take (ix d i) k
    simp only [go_sem]
    refine fork_intro (fun hc => ?_) (fun hc => ?_)
    · have e := srvF_take (ix d i) set (ix set 0) (k := k) (by omega)
      have hx := h.xin k (by omega)
      refine ⟨by omega, by omega, by omega, by omega, by omega, fork_intro (fun hd => ?_) (fun hd => ?_)⟩
      · rw [if_pos hd] at e
        repeat' (first | refine fork_intro (fun hb => ?_) (fun hb => ?_) | refine partB_intro (fun hb => ?_) (fun hb => ?_) | refine And.intro ?_ ?_)
        all_goals first | exact True.intro | omega | with_reducible rfl | exact congrArg (AV.int _) (by omega) | (refine LoopEnd.intro (k + 1) (by first | omega) (by first | omega | (dsimp only; omega)) (by omega) ?_; simp only [go_sem]; (repeat' (first | refine fork_intro (fun hb => ?_) (fun hb => ?_) | refine partB_intro (fun hb => ?_) (fun hb => ?_) | refine And.intro ?_ ?_)); all_goals first | exact True.intro | omega | with_reducible rfl | exact congrArg (AV.int _) (by omega) | (first | rw [e])) | (first | rw [e])
      · rw [if_neg hd] at e
        repeat' (first | refine fork_intro (fun hb => ?_) (fun hb => ?_) | refine partB_intro (fun hb => ?_) (fun hb => ?_) | refine And.intro ?_ ?_)
        all_goals first | exact True.intro | omega | with_reducible rfl | exact congrArg (AV.int _) (by omega) | (refine LoopEnd.intro (k + 1) (by first | omega) (by first | omega | (dsimp only; omega)) (by omega) ?_; simp only [go_sem]; (repeat' (first | refine fork_intro (fun hb => ?_) (fun hb => ?_) | refine partB_intro (fun hb => ?_) (fun hb => ?_) | refine And.intro ?_ ?_)); all_goals first | exact True.intro | omega | with_reducible rfl | exact congrArg (AV.int _) (by omega) | (first | rw [e])) | (first | rw [e])
    · rw [show k = set.length by omega, List.take_length]; rfl
def t_serverI : Table := [(104, pureC g_serverI)]
theorem t_serverI_ok : TabOK Tryz.prog t_serverI := .cons Tryz.func104 (by kernel_rfl) (.pure (by intro args hp; unfold g_serverI at hp ⊢; split at hp <;> first | exact hp.elim | exact serverI_ok _ _ _ _ hp)) (.nil _)
attribute [go_sem] g_serverI_eq t_serverI
def g_servedI : List AV -> Prop × AV × Heap
  | [.agg [.ints o, .rows d], .ints set] => (OpenOK o d set, .sl 0, [(0, .arr (.ints (servedL d set)))])
  | _ => (False, .undef, [])
theorem g_servedI_eq (o : List Int) (d : List (List Int)) (set : List Int) : g_servedI [.agg [.ints o, .rows d], .ints set] = (OpenOK o d set, .sl 0, [(0, .arr (.ints (servedL d set)))]) := (rfl)
theorem servedI_ok (o : List Int) (d : List (List Int)) (set : List Int) (hp : OpenOK o d set) : SpecOK Tryz.prog 87 [.agg [.ints o, .rows d], .ints set] (.sl 0) [(0, .arr (.ints (servedL d set)))] := by
  refine fun_ok (C := t_serverI) (hint := hintX [7] [] 0 [] [] [] []) (t_serverI_ok) mixed Tryz.func87 rfl (by kernel_rfl) rfl ?_
  show codeA _ _ _ _ _ _ _ _
  simp only [go_sem, Tryz.results87]
  have hm := hp.f.m7
  refine loop_intro (fun i : Nat => [(5, .sl 0), (10, .int .i64 d.length), (11, .int .i64 i), (1, .ints set), (2, .iptr [.ints o, .rows d])]) (fun i => [(0, .arr (.ints (tab i fun i => srv (ix d (i : Int)) set)))]) 1 (fun i => i <= d.length) (fun i => d.length - i) 0 (by omega) (by omega) ?_ ?_
  · simp only [go_sem]
    repeat' (first | refine fork_intro (fun hb => ?_) (fun hb => ?_) | refine partB_intro (fun hb => ?_) (fun hb => ?_) | refine And.intro ?_ ?_)
    all_goals first | exact True.intro | omega | with_reducible rfl | exact congrArg (AV.int _) (by omega) | (first | rfl)
  · intro i hi
    have hl : (tab i fun i => srv (ix d (i : Int)) set).length = i := tab_len _ _
    simp only [go_sem]
    refine fork_intro (fun hc => ?_) (fun hc => ?_)
    · have e := tab_succ i (fun i => srv (ix d (i : Int)) set)
      refine ⟨⟨hp, by omega, by omega⟩, ?_⟩
      repeat' (first | refine fork_intro (fun hb => ?_) (fun hb => ?_) | refine partB_intro (fun hb => ?_) (fun hb => ?_) | refine And.intro ?_ ?_)
      all_goals first | exact True.intro | omega | with_reducible rfl | exact congrArg (AV.int _) (by omega) | (refine LoopEnd.intro (i + 1) (by first | omega) (by first | omega | (dsimp only; omega)) (by omega) ?_; simp only [go_sem]; (repeat' (first | refine fork_intro (fun hb => ?_) (fun hb => ?_) | refine partB_intro (fun hb => ?_) (fun hb => ?_) | refine And.intro ?_ ?_)); all_goals first | exact True.intro | omega | with_reducible rfl | exact congrArg (AV.int _) (by omega) | (first | rw [e])) | (first | rw [e])
    · rw [show i = d.length by omega]; rfl
def t_servedI : Table := [(87, ownC g_servedI)]
theorem t_servedI_ok : TabOK Tryz.prog t_servedI := .cons Tryz.func87 (by kernel_rfl) (.own (by intro args hp; unfold g_servedI at hp ⊢; split at hp <;> first | exact hp.elim | exact ⟨servedI_ok _ _ _ hp, rfl⟩)) (.nil _)
attribute [go_sem] g_servedI_eq t_servedI
def g_lengthsI : List AV -> Prop × AV × Heap
  | [.agg [.ints o, .rows d], .ints set] => (OpenOK o d set, .sl 0, [(0, .arr (.ints (lengthsL d set)))])
  | _ => (False, .undef, [])
theorem g_lengthsI_eq (o : List Int) (d : List (List Int)) (set : List Int) : g_lengthsI [.agg [.ints o, .rows d], .ints set] = (OpenOK o d set, .sl 0, [(0, .arr (.ints (lengthsL d set)))]) := (rfl)
theorem lengthsI_ok (o : List Int) (d : List (List Int)) (set : List Int) (hp : OpenOK o d set) : SpecOK Tryz.prog 69 [.agg [.ints o, .rows d], .ints set] (.sl 0) [(0, .arr (.ints (lengthsL d set)))] := by
  refine fun_ok (C := t_servedI) (hint := hintX [8] [] 0 [] [] [] []) (t_servedI_ok) mixed Tryz.func69 rfl (by kernel_rfl) rfl ?_
  show codeA _ _ _ _ _ _ _ _
  simp only [go_sem, Tryz.results69]
  have hm := hp.f.m7
  have hsl : (servedL d set).length = d.length := tab_len _ _
  refine ⟨hp, ?_⟩
  refine loop_intro (fun i : Nat => [(5, .sl 0), (11, .ints (servedL d set)), (12, .int .i64 d.length), (13, .int .i64 i), (2, .iptr [.ints o, .rows d])]) (fun i => [(0, .arr (.ints (tab i fun i => near (ix d (i : Int)) set)))]) 1 (fun i => i <= d.length) (fun i => d.length - i) 0 (by omega) (by omega) ?_ ?_
  · simp only [go_sem]
    repeat' (first | refine fork_intro (fun hb => ?_) (fun hb => ?_) | refine partB_intro (fun hb => ?_) (fun hb => ?_) | refine And.intro ?_ ?_)
    all_goals first | exact True.intro | omega | with_reducible rfl | exact congrArg (AV.int _) (by omega) | (first | rfl | rw [hsl])
  · intro i hi
    have hl : (tab i fun i => near (ix d (i : Int)) set).length = i := tab_len _ _
    simp only [go_sem]
    refine fork_intro (fun hc => ?_) (fun hc => ?_)
    · have hrow := hp.f.d_len (k := (i : Int)) (by omega) (by omega)
      have hs := hp.srv (ix d (i : Int))
      have e1 : ix (servedL d set) (i : Int) = srv (ix d (i : Int)) set := tab_ix (by omega)
      have e := tab_succ i (fun i => near (ix d (i : Int)) set)
      rw [e1]
      repeat' (first | refine fork_intro (fun hb => ?_) (fun hb => ?_) | refine partB_intro (fun hb => ?_) (fun hb => ?_) | refine And.intro ?_ ?_)
      all_goals first | exact True.intro | omega | with_reducible rfl | exact congrArg (AV.int _) (by omega) | (refine LoopEnd.intro (i + 1) (by first | omega) (by first | omega | (dsimp only; omega)) (by omega) ?_; simp only [go_sem]; (repeat' (first | refine fork_intro (fun hb => ?_) (fun hb => ?_) | refine partB_intro (fun hb => ?_) (fun hb => ?_) | refine And.intro ?_ ?_)); all_goals first | exact True.intro | omega | with_reducible rfl | exact congrArg (AV.int _) (by omega) | (first | rw [e]; rfl)) | (first | rw [e]; rfl)
    · rw [show i = d.length by omega]; rfl
def t_lengthsI : Table := [(69, ownC g_lengthsI)]
theorem t_lengthsI_ok : TabOK Tryz.prog t_lengthsI := .cons Tryz.func69 (by kernel_rfl) (.own (by intro args hp; unfold g_lengthsI at hp ⊢; split at hp <;> first | exact hp.elim | exact ⟨lengthsI_ok _ _ _ hp, rfl⟩)) (.nil _)
attribute [go_sem] g_lengthsI_eq t_lengthsI
def g_sumI : List AV -> Prop × AV
  | [.ints xs] => (xs.length <= 1000000 /\ ∀ x ∈ xs, -1000000000 <= x /\ x <= 1000000000, .int .i64 xs.sum)
  | _ => (False, .undef)
theorem g_sumI_eq (xs : List Int) : g_sumI [.ints xs] = (xs.length <= 1000000 /\ ∀ x ∈ xs, -1000000000 <= x /\ x <= 1000000000, .int .i64 xs.sum) := (rfl)
theorem sumI_ok (xs : List Int) (hp : xs.length <= 1000000 /\ ∀ x ∈ xs, -1000000000 <= x /\ x <= 1000000000) : SpecOK Tryz.prog 68 [.ints xs] (.int .i64 xs.sum) [] := by
  refine fun_ok (C := []) (hint := hintX [] [] 0 [] [] [] []) (TabOK.nil _) mixed Tryz.func68 rfl (by kernel_rfl) rfl ?_
  show codeA _ _ _ _ _ _ _ _
  simp only [go_sem, Tryz.results68]
  obtain ⟨hl, hx⟩ := hp
  refine loop_intro (fun k : Nat => [(3, .int .i64 (xs.take k).sum), (6, .ints xs), (7, .int .i64 xs.length), (8, .int .i64 k)]) (fun _ => []) 0 (fun k => k <= xs.length /\ -1000000000 * (k : Int) <= (xs.take k).sum /\ (xs.take k).sum <= 1000000000 * (k : Int)) (fun k => xs.length - k) 0 (by simp) (by omega) ?_ ?_
  · simp only [go_sem]
    repeat' (first | refine fork_intro (fun hb => ?_) (fun hb => ?_) | refine partB_intro (fun hb => ?_) (fun hb => ?_) | refine And.intro ?_ ?_)
    all_goals first | exact True.intro | omega | with_reducible rfl | exact congrArg (AV.int _) (by omega) | (first | rfl)
  · rintro k ⟨hk, h1, h2⟩
    simp only [go_sem]
    refine fork_intro (fun hc => ?_) (fun hc => ?_)
    · have e := sum_take xs (k := k) (by omega)
      have hb := hx _ (ix_mem xs (k := k) (by omega))
      repeat' (first | refine fork_intro (fun hb => ?_) (fun hb => ?_) | refine partB_intro (fun hb => ?_) (fun hb => ?_) | refine And.intro ?_ ?_)
      all_goals first | exact True.intro | omega | with_reducible rfl | exact congrArg (AV.int _) (by omega) | (refine LoopEnd.intro (k + 1) (by first | omega) (by first | omega | (dsimp only; omega)) (by omega) ?_; simp only [go_sem]; (repeat' (first | refine fork_intro (fun hb => ?_) (fun hb => ?_) | refine partB_intro (fun hb => ?_) (fun hb => ?_) | refine And.intro ?_ ?_)); all_goals first | exact True.intro | omega | with_reducible rfl | exact congrArg (AV.int _) (by omega))
    · rw [show k = xs.length by omega, List.take_length]
def t_sumI : Table := [(68, pureC g_sumI)]
theorem t_sumI_ok : TabOK Tryz.prog t_sumI := .cons Tryz.func68 (by kernel_rfl) (.pure (by intro args hp; unfold g_sumI at hp ⊢; split at hp <;> first | exact hp.elim | exact sumI_ok _ hp)) (.nil _)
attribute [go_sem] g_sumI_eq t_sumI
def g_serviceI : List AV -> Prop × AV
  | [.agg [.ints o, .rows d], .ints set] => (OpenOK o d set, .int .i64 (svc d set))
  | _ => (False, .undef)
theorem g_serviceI_eq (o : List Int) (d : List (List Int)) (set : List Int) : g_serviceI [.agg [.ints o, .rows d], .ints set] = (OpenOK o d set, .int .i64 (svc d set)) := (rfl)
theorem serviceI_ok (o : List Int) (d : List (List Int)) (set : List Int) (hp : OpenOK o d set) : SpecOK Tryz.prog 46 [.agg [.ints o, .rows d], .ints set] (.int .i64 (svc d set)) [] := by
  refine fun_ok (C := t_lengthsI ++ t_sumI) (hint := hintX [] [] 0 [] [] [] []) ((t_lengthsI_ok).append t_sumI_ok) mixed Tryz.func46 rfl (by kernel_rfl) rfl ?_
  show codeA _ _ _ _ _ _ _ _
  simp only [go_sem, Tryz.results46]
  have hm := hp.f.m7
  have hl : (lengthsL d set).length = d.length := tab_len _ _
  refine ⟨hp, ⟨by omega, fun x hx => ?_⟩, ?_⟩
  · obtain ⟨k, hk, rfl⟩ := mem_tab.1 hx
    have := hp.near (i := (k : Int)) (by omega) (by omega)
    omega
  · rw [show (lengthsL d set).sum = svc d set from sum_tab _ _]
def t_serviceI : Table := [(46, pureC g_serviceI)]
theorem t_serviceI_ok : TabOK Tryz.prog t_serviceI := .cons Tryz.func46 (by kernel_rfl) (.pure (by intro args hp; unfold g_serviceI at hp ⊢; split at hp <;> first | exact hp.elim | exact serviceI_ok _ _ _ hp)) (.nil _)
attribute [go_sem] g_serviceI_eq t_serviceI
def g_totalI : List AV -> Prop × AV
  | [.agg [.ints o, .rows d], .ints set] => (OpenOK o d set, .int .i64 (total o d set))
  | _ => (False, .undef)
theorem g_totalI_eq (o : List Int) (d : List (List Int)) (set : List Int) : g_totalI [.agg [.ints o, .rows d], .ints set] = (OpenOK o d set, .int .i64 (total o d set)) := (rfl)
theorem totalI_ok (o : List Int) (d : List (List Int)) (set : List Int) (hp : OpenOK o d set) : SpecOK Tryz.prog 38 [.agg [.ints o, .rows d], .ints set] (.int .i64 (total o d set)) [] := by
  refine fun_ok (C := t_payI ++ t_serviceI) (hint := hintX [] [] 0 [] [] [] []) ((t_payI_ok).append t_serviceI_ok) mixed Tryz.func38 rfl (by kernel_rfl) rfl ?_
  show codeA _ _ _ _ _ _ _ _
  simp only [go_sem, Tryz.results38]
  have h1 := hp.svc (Nat.le_refl _)
  have h2 := hp.pay.bd (Nat.le_refl _)
  rw [List.take_length] at h2
  have e1 : sumN (fun i => near (ix d (i : Int)) set) d.length = svc d set := rfl
  have e2 : total o d set = pay o set + svc d set := rfl
  repeat' (first | refine fork_intro (fun hb => ?_) (fun hb => ?_) | refine partB_intro (fun hb => ?_) (fun hb => ?_) | refine And.intro ?_ ?_)
  all_goals first | exact True.intro | omega | with_reducible rfl | exact congrArg (AV.int _) (by omega) | (first | exact hp | exact hp.pay)
def t_totalI : Table := [(38, pureC g_totalI)]
theorem t_totalI_ok : TabOK Tryz.prog t_totalI := .cons Tryz.func38 (by kernel_rfl) (.pure (by intro args hp; unfold g_totalI at hp ⊢; split at hp <;> first | exact hp.elim | exact totalI_ok _ _ _ hp)) (.nil _)
attribute [go_sem] g_totalI_eq t_totalI
def g_serviceOfI : List AV -> Prop × AV
  | [.agg [.ints o, .rows d], .ints set] => ((o.length <= 1048576000 /\ d.length <= 1048576000 /\ ∀ x ∈ d, x.length <= 1048576000) /\ set.length <= 1048576000, .tup [.int .i64 (bif opened o d set then svc d set else 0), .bool (opened o d set)])
  | _ => (False, .undef)
theorem g_serviceOfI_eq (o : List Int) (d : List (List Int)) (set : List Int) : g_serviceOfI [.agg [.ints o, .rows d], .ints set] = ((o.length <= 1048576000 /\ d.length <= 1048576000 /\ ∀ x ∈ d, x.length <= 1048576000) /\ set.length <= 1048576000, .tup [.int .i64 (bif opened o d set then svc d set else 0), .bool (opened o d set)]) := (rfl)
theorem serviceOfI_ok (o : List Int) (d : List (List Int)) (set : List Int) (hp : (o.length <= 1048576000 /\ d.length <= 1048576000 /\ ∀ x ∈ d, x.length <= 1048576000) /\ set.length <= 1048576000) : SpecOK Tryz.prog 18 [.agg [.ints o, .rows d], .ints set] (.tup [.int .i64 (bif opened o d set then svc d set else 0), .bool (opened o d set)]) [] := by
  refine fun_ok (C := t_openI ++ t_serviceI) (hint := hintX [] [] 0 [] [] [] []) ((t_openI_ok).append t_serviceI_ok) mixed Tryz.func18 rfl (by kernel_rfl) rfl ?_
  show codeA _ _ _ _ _ _ _ _
  simp only [go_sem, Tryz.results18]
  refine ⟨hp, partB_intro (fun hg => ?_) (fun hg => ?_)⟩
  · rw [hg]; exact ⟨opened_iff hp.2 hg, rfl, rfl⟩
  · rw [hg]; first | rfl | exact ⟨rfl, rfl⟩
def t_serviceOfI : Table := [(18, pureC g_serviceOfI)]
theorem t_serviceOfI_ok : TabOK Tryz.prog t_serviceOfI := .cons Tryz.func18 (by kernel_rfl) (.pure (by intro args hp; unfold g_serviceOfI at hp ⊢; split at hp <;> first | exact hp.elim | exact serviceOfI_ok _ _ _ hp)) (.nil _)
attribute [go_sem] g_serviceOfI_eq t_serviceOfI
end Go.Proofs.YteefjdbdknkcjaaGreatDoor
namespace Go.Proofs.YteefjdbdknkcjaaGreatDoor
open Go.Vc
set_option maxRecDepth 100000
set_option linter.unusedSimpArgs false
set_option linter.unusedVariables false

def fairOK (o : List Int) (d : List (List Int)) (ps : List Int) : Bool := pricesOK o d ps && fairB o d ps
def sumP (o : List Int) (d : List (List Int)) (ps : List Int) : Prop := ps.length <= 1000000 /\ ∀ x ∈ ps, -1000000000 <= x /\ x <= 1000000000
def closedOK (o : List Int) (d : List (List Int)) (ps : List Int) (v : Int) : Bool := fairOK o d ps && decide (0 <= v /\ v <= 1400)
def closedL (o : List Int) (d : List (List Int)) (ps : List Int) (v : Int) : List Int := sel (fun a => decide (v < ps.sum + (ix o (a : Int) - clm d ps 1 (a : Int)))) o.length

end Go.Proofs.YteefjdbdknkcjaaGreatDoor
namespace Go.Proofs.YteefjdbdknkcjaaGreatDoor
open Go.Vc
set_option maxRecDepth 100000
set_option linter.unusedSimpArgs false
set_option linter.unusedVariables false

end Go.Proofs.YteefjdbdknkcjaaGreatDoor
namespace Go.Vc
set_option linter.unusedSimpArgs false
set_option linter.unusedVariables false

/-! rising lists -/
def Up (xs : List Int) : Prop := xs.Pairwise (· < ·)
theorem up_ext : ∀ {xs ys : List Int}, Up xs -> Up ys -> (∀ a, a ∈ xs ↔ a ∈ ys) -> xs = ys
  | [], [], _, _, _ => rfl
  | [], y :: ys, _, _, h => by have := (h y).2 List.mem_cons_self; cases this
  | x :: xs, [], _, _, h => by have := (h x).1 List.mem_cons_self; cases this
  | x :: xs, y :: ys, h1, h2, h => by
    obtain ⟨h3, h4⟩ := List.pairwise_cons.1 h1
    obtain ⟨h5, h6⟩ := List.pairwise_cons.1 h2
    have e : x = y := by
      rcases List.mem_cons.1 ((h x).1 List.mem_cons_self) with e | e
      · exact e
      · rcases List.mem_cons.1 ((h y).2 List.mem_cons_self) with e' | e'
        · exact e'.symm
        · have := h5 x e; have := h3 y e'; omega
    subst e
    congr 1
    refine up_ext h4 h6 (fun a => ⟨fun ha => ?_, fun ha => ?_⟩)
    · rcases List.mem_cons.1 ((h a).1 (List.mem_cons_of_mem _ ha)) with e | e
      · subst e; have := h3 a ha; omega
      · exact e
    · rcases List.mem_cons.1 ((h a).2 (List.mem_cons_of_mem _ ha)) with e | e
      · subst e; have := h5 a ha; omega
      · exact e
theorem up_sel (p : Nat -> Bool) : ∀ n, Up (sel p n)
  | 0 => List.Pairwise.nil
  | n + 1 => by
    unfold sel
    split
    · refine List.pairwise_append.2 ⟨up_sel p n, List.pairwise_singleton _ _, fun a ha b hb => ?_⟩
      obtain ⟨k, hk, _, rfl⟩ := mem_sel.1 ha
      simp at hb; subst hb; omega
    · exact up_sel p n
theorem up_ris {lo hi : Int} {xs : List Int} (h : Up xs) (hb : ∀ x ∈ xs, lo <= x /\ x <= hi) : ris lo hi xs = true := by
  refine decide_eq_true (fun k hk => ⟨hb _ (ix_mem xs hk), fun h0 => ?_⟩)
  obtain ⟨j, rfl⟩ : ∃ j, k = j + 1 := ⟨k - 1, by omega⟩
  rw [show (((j + 1 : Nat) : Int) - 1) = (j : Int) by omega]
  have h2 := List.pairwise_iff_getElem.1 h j (j + 1) (by omega) hk (by omega)
  have e1 := ix_some xs (show j < xs.length by omega)
  have e2 := ix_some xs hk
  rw [List.getElem?_eq_getElem (by omega)] at e1
  rw [List.getElem?_eq_getElem hk] at e2
  rw [<- Option.some.inj e1, <- Option.some.inj e2]; exact h2
def hasB (xs : List Int) (a : Nat) : Bool := decide ((a : Int) ∈ xs)
theorem up_eq_sel {xs : List Int} {n : Nat} (h : Up xs) (hb : ∀ x ∈ xs, 0 <= x /\ x < n) : xs = sel (hasB xs) n :=
  up_ext h (up_sel _ _) (fun a => by
    rw [mem_sel]
    constructor
    · intro ha
      have := hb a ha
      exact ⟨a.toNat, by omega, by unfold hasB; exact decide_eq_true (by rw [show ((a.toNat : Nat) : Int) = a by omega]; exact ha), by omega⟩
    · rintro ⟨k, _, h2, rfl⟩
      exact of_decide_eq_true h2)
theorem sel_ext {p q : Nat -> Bool} {n m : Nat} (h : ∀ k, (k < n /\ p k = true) ↔ (k < m /\ q k = true)) : sel p n = sel q m :=
  up_ext (up_sel _ _) (up_sel _ _) (fun a => by
    rw [mem_sel, mem_sel]
    constructor
    · rintro ⟨k, h1, h2, h3⟩; have := (h k).1 ⟨h1, h2⟩; exact ⟨k, this.1, this.2, h3⟩
    · rintro ⟨k, h1, h2, h3⟩; have := (h k).2 ⟨h1, h2⟩; exact ⟨k, this.1, this.2, h3⟩)

/-! one number less, one more -/
def without (xs : List Int) (a : Int) : List Int := xs.filter fun x => decide (x ≠ a)
theorem mem_without {xs : List Int} {a x : Int} : x ∈ without xs a ↔ x ∈ xs /\ x ≠ a := by simp [without]
theorem up_without {xs : List Int} (h : Up xs) (a : Int) : Up (without xs a) := List.Pairwise.filter _ h
def putF : List Int -> Int -> List Int
  | [], n => [n]
  | x :: r, n => if x < n then x :: putF r n else if x = n then x :: r else n :: x :: r
theorem mem_putF {n a : Int} : ∀ {xs : List Int}, a ∈ putF xs n ↔ a = n \/ a ∈ xs
  | [] => by simp [putF]
  | x :: r => by
    unfold putF
    split
    · rw [List.mem_cons, mem_putF (xs := r), List.mem_cons]
      constructor
      · rintro (h | h | h) <;> simp [h]
      · rintro (h | h | h) <;> simp [h]
    · split
      · rename_i h; subst h; simp
      · simp
theorem up_putF {n : Int} : ∀ {xs : List Int}, Up xs -> Up (putF xs n)
  | [], _ => List.pairwise_singleton _ _
  | x :: r, h => by
    obtain ⟨h1, h2⟩ := List.pairwise_cons.1 h
    unfold putF
    split
    · refine List.pairwise_cons.2 ⟨fun a ha => ?_, up_putF h2⟩
      rcases mem_putF.1 ha with e | e
      · omega
      · exact h1 a e
    · split
      · exact h
      · refine List.pairwise_cons.2 ⟨fun a ha => ?_, h⟩
        rcases List.mem_cons.1 ha with e | e
        · omega
        · have := h1 a e; omega
def swapL (xs : List Int) (a b : Int) : List Int := putF (without xs a) b
theorem up_swap {xs : List Int} (h : Up xs) (a b : Int) : Up (swapL xs a b) := up_putF (up_without h a)
/-! bits -/
def bagF : List Int -> Nat -> Nat
  | [], b => b
  | x :: r, b => bagF r (b ||| (1 * 2 ^ x.toNat))
theorem testBit_one (n a : Nat) : (1 * 2 ^ n).testBit a = decide (n = a) := by rw [Nat.one_mul]; exact Nat.testBit_two_pow
theorem bagF_bit : ∀ (xs : List Int) (b a : Nat), (∀ x ∈ xs, 0 <= x) -> (bagF xs b).testBit a = (b.testBit a || decide ((a : Int) ∈ xs))
  | [], b, a, _ => by simp [bagF]
  | x :: r, b, a, h => by
    rw [bagF, bagF_bit r _ a (fun y hy => h y (List.mem_cons_of_mem _ hy)), Nat.testBit_or, testBit_one]
    have h0 := h x List.mem_cons_self
    have e : decide (x.toNat = a) = decide ((a : Int) = x) := decide_eq_decide.2 (by omega)
    rw [e]
    simp only [List.mem_cons, Bool.decide_or, Bool.or_assoc]
def bag (xs : List Int) : Nat := bagF xs 0
theorem bag_bit {xs : List Int} (h : ∀ x ∈ xs, 0 <= x) (a : Nat) : (bag xs).testBit a = hasB xs a := by rw [bag, bagF_bit xs 0 a h]; simp [hasB]
theorem bagF_lt {n : Nat} : ∀ (xs : List Int) (b : Nat), b < 2 ^ n -> (∀ x ∈ xs, 0 <= x /\ x < n) -> bagF xs b < 2 ^ n
  | [], b, hb, _ => hb
  | x :: r, b, hb, h => by
    have h0 := h x List.mem_cons_self
    refine bagF_lt r _ (Nat.or_lt_two_pow hb ?_) (fun y hy => h y (List.mem_cons_of_mem _ hy))
    rw [Nat.one_mul]
    exact Nat.pow_lt_pow_right (by omega) (by omega)
def bagL (b : Nat) : List Int := sel b.testBit 64
theorem bit_lt {b n k : Nat} (hb : b < 2 ^ n) (h : b.testBit k = true) : k < n := by
  refine Nat.lt_of_not_le (fun hk => ?_)
  rw [Nat.testBit_lt_two_pow (Nat.lt_of_lt_of_le hb (Nat.pow_le_pow_right (by omega) hk))] at h
  cases h
theorem bagL_eq {b n : Nat} (hb : b < 2 ^ n) (hn : n <= 64) : bagL b = sel b.testBit n :=
  sel_ext (fun k => ⟨fun h => ⟨bit_lt hb h.2, h.2⟩, fun h => ⟨by omega, h.2⟩⟩)
theorem mem_bagL {b n : Nat} (hb : b < 2 ^ n) (hn : n <= 64) {x : Int} : x ∈ bagL b ↔ 0 <= x /\ b.testBit x.toNat = true := by
  unfold bagL
  rw [mem_sel]
  constructor
  · rintro ⟨k, h1, h2, rfl⟩; exact ⟨by omega, by simpa using h2⟩
  · intro h
    have := bit_lt hb h.2
    exact ⟨x.toNat, by omega, h.2, by omega⟩
theorem bagL_bag {xs : List Int} {n : Nat} (h : Up xs) (hb : ∀ x ∈ xs, 0 <= x /\ x < n) (hn : n <= 64) : bagL (bag xs) = xs := by
  have h0 : bag xs < 2 ^ n := bagF_lt xs 0 (Nat.two_pow_pos n) hb
  refine up_ext (up_sel _ _) h (fun a => ?_)
  rw [mem_bagL h0 hn]
  constructor
  · rintro ⟨h1, h2⟩
    rw [bag_bit (fun x hx => (hb x hx).1)] at h2
    have := of_decide_eq_true h2
    rwa [show ((a.toNat : Nat) : Int) = a by omega] at this
  · intro ha
    have := hb a ha
    refine ⟨this.1, ?_⟩
    rw [bag_bit (fun x hx => (hb x hx).1)]
    exact decide_eq_true (by rw [show ((a.toNat : Nat) : Int) = a by omega]; exact ha)
theorem bitN_and (x y : Nat) : bitN .and x y = x &&& y := rfl
theorem shr_pos (b x : Nat) : 0 < (b : Int) / 2 ^ x ↔ 2 ^ x <= b := by
  have e : (b : Int) / 2 ^ x = ((b / 2 ^ x : Nat) : Int) := by simp
  rw [e]
  have h : 0 < b / 2 ^ x ↔ 2 ^ x <= b := Nat.div_pos_iff.trans ⟨fun h => h.2, fun h => ⟨Nat.two_pow_pos x, h⟩⟩
  omega
theorem shr_nat (b x : Nat) : ((b : Int) / 2 ^ x).toNat = b / 2 ^ x := by
  have e : (b : Int) / 2 ^ x = ((b / 2 ^ x : Nat) : Int) := by simp
  rw [e]; rfl
theorem shr_le (b x : Nat) : 0 <= (b : Int) / 2 ^ x /\ (b : Int) / 2 ^ x <= b := by
  have e : (b : Int) / 2 ^ x = ((b / 2 ^ x : Nat) : Int) := by simp
  rw [e]
  exact ⟨Int.natCast_nonneg _, Int.ofNat_le.2 (Nat.div_le_self _ _)⟩
theorem bit_one (b x : Nat) : decide ((((b / 2 ^ x) &&& 1 : Nat) : Int) = 1) = b.testBit x := by
  rw [Nat.testBit_eq_decide_div_mod_eq, Nat.and_one_is_mod]
  exact decide_eq_decide.2 (by omega)
theorem lt_pow7 {b x : Nat} (hb : b < 128) (hx : 2 ^ x <= b) : x < 7 := by
  refine Nat.lt_of_not_le (fun h => ?_)
  have : 2 ^ 7 <= 2 ^ x := Nat.pow_le_pow_right (by omega) h
  omega
theorem srvF_mem (row : List Int) : ∀ (xs : List Int) (b : Int), srvF row b xs = b \/ srvF row b xs ∈ xs
  | [], b => .inl rfl
  | x :: r, b => by
    rw [srvF]
    rcases srvF_mem row r (if ix row x < ix row b then x else b) with h | h
    · by_cases e : ix row x < ix row b
      · rw [if_pos e] at h ⊢; exact .inr (by rw [h]; exact List.mem_cons_self)
      · rw [if_neg e] at h ⊢; exact .inl h
    · exact .inr (List.mem_cons_of_mem _ h)
theorem srv_mem (row : List Int) {set : List Int} (h : 0 < set.length) : srv row set ∈ set := by
  unfold srv
  rcases srvF_mem row set (ix set 0) with e | e
  · rw [e]; exact ix_mem set h
  · exact e
def clientsL (d : List (List Int)) (set : List Int) (s : Int) : List Int := sel (fun i => decide (srv (ix d (i : Int)) set = s)) d.length
def idleL (d : List (List Int)) (set : List Int) : List Int := set.filter fun s => decide ((clientsL d set s).length = 0)
/-! prices that meet a set -/
def meet1 (d : List (List Int)) (set : List Int) (p : Int) (j : Nat) : Bool :=
  decide (near (ix d (j : Int)) set <= p) && allN (fun i => !(decide (ix set (i : Int) ≠ srv (ix d (j : Int)) set) && decide (ix (ix d (j : Int)) (ix set (i : Int)) < p))) set.length
def meetT (o : List Int) (d : List (List Int)) (ps set : List Int) (i : Nat) : Bool := decide (clm d ps 1 (ix set (i : Int)) = ix o (ix set (i : Int)))
def meetB (o : List Int) (d : List (List Int)) (ps set : List Int) : Bool := allN (meetT o d ps set) set.length && allN (fun j => meet1 d set (ix ps (j : Int)) j) d.length
def meetK (d : List (List Int)) (set : List Int) (p : Int) (j i : Nat) : Bool :=
  !((decide (ix set (i : Int) = srv (ix d (j : Int)) set) && decide (p < ix (ix d (j : Int)) (ix set (i : Int)))) || (decide (ix set (i : Int) ≠ srv (ix d (j : Int)) set) && decide (ix (ix d (j : Int)) (ix set (i : Int)) < p)))
end Go.Vc
namespace Go.Proofs.YteefjdbdknkcjaaGreatDoor
open Go.Vc
set_option maxRecDepth 100000
set_option linter.unusedSimpArgs false
set_option linter.unusedVariables false

def g_hasI : List AV -> Prop × AV
  | [.int .u64 b, .int .i64 x] => ((0 <= b /\ b < 128) /\ 0 <= x /\ x <= 63, .bool (b.toNat.testBit x.toNat))
  | _ => (False, .undef)
theorem g_hasI_eq (b x : Int) : g_hasI [.int .u64 b, .int .i64 x] = ((0 <= b /\ b < 128) /\ 0 <= x /\ x <= 63, .bool (b.toNat.testBit x.toNat)) := (rfl)
theorem hasI_ok (b x : Int) (hp : (0 <= b /\ b < 128) /\ 0 <= x /\ x <= 63) : SpecOK Tryz.prog 98 [.int .u64 b, .int .i64 x] (.bool (b.toNat.testBit x.toNat)) [] := by
  refine fun_ok (C := []) (hint := hintX [] [] 0 [] [] [] []) (TabOK.nil _) mixed Tryz.func98 rfl (by kernel_rfl) rfl ?_
  show codeA _ _ _ _ _ _ _ _
  simp only [go_sem, Tryz.results98]
  obtain ⟨⟨h0, h1⟩, h2, h3⟩ := hp
  obtain ⟨b, rfl⟩ : ∃ n : Nat, b = n := ⟨b.toNat, by omega⟩
  obtain ⟨x, rfl⟩ : ∃ n : Nat, x = n := ⟨x.toNat, by omega⟩
  have hs := shr_le b x
  simp only [Int.toNat_natCast, shr_nat, bitN_and]
  have hb := bit_one b x
  repeat' (first | refine fork_intro (fun hb => ?_) (fun hb => ?_) | refine partB_intro (fun hb => ?_) (fun hb => ?_) | refine And.intro ?_ ?_)
  all_goals first | exact True.intro | omega | with_reducible rfl | exact congrArg (AV.int _) (by omega) | (first | (rw [<- hb]; rfl) | (show _ <= _; decide) | decide)
def t_hasI : Table := [(98, pureC g_hasI)]
theorem t_hasI_ok : TabOK Tryz.prog t_hasI := .cons Tryz.func98 (by kernel_rfl) (.pure (by intro args hp; unfold g_hasI at hp ⊢; split at hp <;> first | exact hp.elim | exact hasI_ok _ _ hp)) (.nil _)
attribute [go_sem] g_hasI_eq t_hasI
def g_listI : List AV -> Prop × AV × Heap
  | [.int .u64 b] => (0 <= b /\ b < 128, .sl 0, [(0, .arr (.ints (bagL b.toNat)))])
  | _ => (False, .undef, [])
theorem g_listI_eq (b : Int) : g_listI [.int .u64 b] = (0 <= b /\ b < 128, .sl 0, [(0, .arr (.ints (bagL b.toNat)))]) := (rfl)
theorem listI_ok (b : Int) (hp : 0 <= b /\ b < 128) : SpecOK Tryz.prog 82 [.int .u64 b] (.sl 0) [(0, .arr (.ints (bagL b.toNat)))] := by
  refine fun_ok (C := t_hasI) (hint := hintX [5] [] 0 [] [] [] []) (t_hasI_ok) mixed Tryz.func82 rfl (by kernel_rfl) rfl ?_
  show codeA _ _ _ _ _ _ _ _
  simp only [go_sem, Tryz.results82]
  obtain ⟨h0, h1⟩ := hp
  obtain ⟨b, rfl⟩ : ∃ n : Nat, b = n := ⟨b.toNat, by omega⟩
  simp only [Int.toNat_natCast]
  refine loop_intro (fun x : Nat => [(3, .sl 0), (4, .int .i64 x), (0, .int .u64 b)]) (fun x => [(0, .arr (.ints (sel b.testBit x)))]) 1 (fun x => x <= 7) (fun x => 7 - x) 0 (by omega) (by omega) ?_ ?_
  · simp only [go_sem]
    repeat' (first | refine fork_intro (fun hb => ?_) (fun hb => ?_) | refine partB_intro (fun hb => ?_) (fun hb => ?_) | refine And.intro ?_ ?_)
    all_goals first | exact True.intro | omega | with_reducible rfl | exact congrArg (AV.int _) (by omega) | (first | rfl)
  · intro x hx
    have hs := shr_le b x
    have hsl := sel_len b.testBit x
    have hpos := shr_pos b x
    simp only [go_sem]
    refine ⟨by omega, fork_intro (fun hc => ?_) (fun hc => ?_)⟩
    · have hx7 := lt_pow7 (show b < 128 by omega) (hpos.1 hc)
      refine ⟨⟨by omega, by omega⟩, partB_intro (fun hd => ?_) (fun hd => ?_)⟩
      · have e := sel_t (p := b.testBit) (n := x) hd
        repeat' (first | refine fork_intro (fun hb => ?_) (fun hb => ?_) | refine partB_intro (fun hb => ?_) (fun hb => ?_) | refine And.intro ?_ ?_)
        all_goals first | exact True.intro | omega | with_reducible rfl | exact congrArg (AV.int _) (by omega) | (refine LoopEnd.intro (x + 1) (by first | omega) (by first | omega | (dsimp only; omega)) (by omega) ?_; simp only [go_sem]; (repeat' (first | refine fork_intro (fun hb => ?_) (fun hb => ?_) | refine partB_intro (fun hb => ?_) (fun hb => ?_) | refine And.intro ?_ ?_)); all_goals first | exact True.intro | omega | with_reducible rfl | exact congrArg (AV.int _) (by omega) | (first | rw [e])) | (first | rw [e])
      · have e := sel_f (p := b.testBit) (n := x) hd
        repeat' (first | refine fork_intro (fun hb => ?_) (fun hb => ?_) | refine partB_intro (fun hb => ?_) (fun hb => ?_) | refine And.intro ?_ ?_)
        all_goals first | exact True.intro | omega | with_reducible rfl | exact congrArg (AV.int _) (by omega) | (refine LoopEnd.intro (x + 1) (by first | omega) (by first | omega | (dsimp only; omega)) (by omega) ?_; simp only [go_sem]; (repeat' (first | refine fork_intro (fun hb => ?_) (fun hb => ?_) | refine partB_intro (fun hb => ?_) (fun hb => ?_) | refine And.intro ?_ ?_)); all_goals first | exact True.intro | omega | with_reducible rfl | exact congrArg (AV.int _) (by omega) | (first | rw [e])) | (first | rw [e])
    · have hlt : b < 2 ^ x := Nat.lt_of_not_le (fun h => hc (hpos.2 h))
      rw [bagL_eq hlt (by omega)]
      repeat' (first | refine fork_intro (fun hb => ?_) (fun hb => ?_) | refine partB_intro (fun hb => ?_) (fun hb => ?_) | refine And.intro ?_ ?_)
      all_goals first | exact True.intro | omega | with_reducible rfl | exact congrArg (AV.int _) (by omega) | (first | rfl)
def t_listI : Table := [(82, ownC g_listI)]
theorem t_listI_ok : TabOK Tryz.prog t_listI := .cons Tryz.func82 (by kernel_rfl) (.own (by intro args hp; unfold g_listI at hp ⊢; split at hp <;> first | exact hp.elim | exact ⟨listI_ok _ hp, rfl⟩)) (.nil _)
attribute [go_sem] g_listI_eq t_listI
end Go.Proofs.YteefjdbdknkcjaaGreatDoor
