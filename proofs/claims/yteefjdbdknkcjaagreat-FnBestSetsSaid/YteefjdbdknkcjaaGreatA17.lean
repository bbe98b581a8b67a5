/- Least ways: both packages say the same. -/
import Derived.Test.YteefjdbdknkcjaaGreatA13
import Derived.Test.YteefjdbdknkcjaaGreatA15
import Derived.Test.YteefjdbdknkcjaaGreatA4
namespace Go.Proofs.YteefjdbdknkcjaaGreat
open Go.Vc
set_option maxRecDepth 100000
set_option linter.unusedSimpArgs false
set_option linter.unusedVariables false

def g_l2Close : List AV -> Prop × AV × Heap
  | [.agg [.ints o, .rows d]] => (FieldOK o d, .agg [.sl 2, .mt 4], [(2, .arr (.ints o)), (4, .mat (closeD d.length o.length d))])
  | _ => (False, .undef, [])
theorem g_l2Close_eq (o : List Int) (d : List (List Int)) : g_l2Close [.agg [.ints o, .rows d]] = (FieldOK o d, .agg [.sl 2, .mt 4], [(2, .arr (.ints o)), (4, .mat (closeD d.length o.length d))]) := (rfl)
theorem l2Close_ok (o : List Int) (d : List (List Int)) (hp : FieldOK o d) : SpecOK Tryz.prog 112 [.agg [.ints o, .rows d]] (.agg [.sl 2, .mt 4]) [(2, .arr (.ints o)), (4, .mat (closeD d.length o.length d))] := by
  refine fun_ok (C := t_l2Own ++ t_metS ++ t_least2) (hint := hintX [2, 3, 9] [] 0 [] [] [] []) (((t_l2Own_ok).append t_metS_ok).append t_least2_ok) mixed Tryz.func112 rfl (by kernel_rfl) rfl ?_
  show codeA _ _ _ _ _ _ _ _
  simp only [go_sem, Tryz.results112]
  have hn := hp.n7
  have hm := hp.m7
  refine ⟨⟨by omega, by omega, fun x hx => by rw [hp.len x hx]; omega⟩, ?_⟩
  refine loop_intro (fun g : List (List Int) => [(3, .bx 5 0), (2, .bx 0 0)]) (fun g => [(0, .box [.nils, .nils]), (2, .arr (.ints o)), (4, .mat g), (5, .box [.sl 2, .mt 4])]) 6 (fun g => Closes d.length o.length d g) (fun g => (msum d.length o.length g).toNat) d (closes_refl hp.sh) (by omega) ?_ ?_
  · simp only [go_sem]
    repeat' (first | refine fork_intro (fun hb => ?_) (fun hb => ?_) | refine partB_intro (fun hb => ?_) (fun hb => ?_) | refine And.intro ?_ ?_)
    all_goals first | exact True.intro | omega | with_reducible rfl | exact congrArg (AV.int _) (by omega) | (first | rfl)
  · intro D hD
    have hF := Sh.field hp hD.sh
    have hDl := hD.sh.len
    simp only [go_sem]
    refine ⟨hF, partB_intro (fun hg => ?_) (fun hg => ?_)⟩
    · have e := closeD_eq hp.sh hm hn hD ((metric_iff hDl).1 hg)
      repeat' (first | refine fork_intro (fun hb => ?_) (fun hb => ?_) | refine partB_intro (fun hb => ?_) (fun hb => ?_) | refine And.intro ?_ ?_)
      all_goals first | exact True.intro | omega | with_reducible rfl | exact congrArg (AV.int _) (by omega) | (first | rfl | rw [e])
    · have hnm : ¬ MetM d.length o.length D := fun h => by rw [(metric_iff hDl).2 h] at hg; cases hg
      refine loop_intro (fun g : Nat × List (List Int) × Bool => [(4, .int .i64 g.1), (3, .bx 5 0), (2, .bx 0 0)]) (fun g => [(0, .box [.nils, .nils]), (2, .arr (.ints o)), (4, .mat g.2.1), (5, .box [.sl 2, .mt 4])]) 6 (fun g => g.1 <= d.length /\ Closes d.length o.length d g.2.1 /\ ProgB d.length o.length D g.2.1 g.2.2 g.1 0 0 0) (fun g => d.length - g.1) (0, D, false) ⟨by show 0 <= _; omega, hD, progB_start ..⟩ (by omega) ?_ ?_
      · simp only [go_sem]
        repeat' (first | refine fork_intro (fun hb => ?_) (fun hb => ?_) | refine partB_intro (fun hb => ?_) (fun hb => ?_) | refine And.intro ?_ ?_)
        all_goals first | exact True.intro | omega | with_reducible rfl | exact congrArg (AV.int _) (by omega) | (first | rfl)
      · rintro ⟨i, M, ch⟩ ⟨hi, hM, hP⟩
        simp only at hi hM hP
        have hMl := hM.sh.len
        simp only [go_sem]
        refine fork_intro (fun hc => ?_) (fun hc => ?_)
        · refine loop_intro (fun g : Nat × List (List Int) × Bool => [(5, .int .i64 g.1), (4, .int .i64 i), (3, .bx 5 0), (2, .bx 0 0)]) (fun g => [(0, .box [.nils, .nils]), (2, .arr (.ints o)), (4, .mat g.2.1), (5, .box [.sl 2, .mt 4])]) 6 (fun g => g.1 <= d.length /\ Closes d.length o.length d g.2.1 /\ ProgB d.length o.length D g.2.1 g.2.2 i g.1 0 0) (fun g => d.length - g.1) (0, M, ch) ⟨by show 0 <= _; omega, hM, hP⟩ (by omega) ?_ ?_
          · simp only [go_sem]
            repeat' (first | refine fork_intro (fun hb => ?_) (fun hb => ?_) | refine partB_intro (fun hb => ?_) (fun hb => ?_) | refine And.intro ?_ ?_)
            all_goals first | exact True.intro | omega | with_reducible rfl | exact congrArg (AV.int _) (by omega) | (first | rfl)
          · rintro ⟨j, M, ch⟩ ⟨hj, hM, hP⟩
            simp only at hj hM hP
            have hMl := hM.sh.len
            simp only [go_sem]
            refine fork_intro (fun hc2 => ?_) (fun hc2 => ?_)
            · refine loop_intro (fun g : Nat × List (List Int) × Bool => [(6, .int .i64 g.1), (5, .int .i64 j), (4, .int .i64 i), (3, .bx 5 0), (2, .bx 0 0)]) (fun g => [(0, .box [.nils, .nils]), (2, .arr (.ints o)), (4, .mat g.2.1), (5, .box [.sl 2, .mt 4])]) 6 (fun g => g.1 <= o.length /\ Closes d.length o.length d g.2.1 /\ ProgB d.length o.length D g.2.1 g.2.2 i j g.1 0) (fun g => o.length - g.1) (0, M, ch) ⟨by show 0 <= _; omega, hM, hP⟩ (by omega) ?_ ?_
              · simp only [go_sem]
                repeat' (first | refine fork_intro (fun hb => ?_) (fun hb => ?_) | refine partB_intro (fun hb => ?_) (fun hb => ?_) | refine And.intro ?_ ?_)
                all_goals first | exact True.intro | omega | with_reducible rfl | exact congrArg (AV.int _) (by omega) | (first | rfl)
              · rintro ⟨a, M, ch⟩ ⟨ha, hM, hP⟩
                simp only at ha hM hP
                have hMl := hM.sh.len
                simp only [go_sem]
                refine fork_intro (fun hc3 => ?_) (fun hc3 => ?_)
                · refine loop_intro (fun g : Nat × List (List Int) × Bool => [(7, .int .i64 g.1), (6, .int .i64 a), (5, .int .i64 j), (4, .int .i64 i), (3, .bx 5 0), (2, .bx 0 0)]) (fun g => [(0, .box [.nils, .nils]), (2, .arr (.ints o)), (4, .mat g.2.1), (5, .box [.sl 2, .mt 4])]) 6 (fun g => g.1 <= o.length /\ Closes d.length o.length d g.2.1 /\ ProgB d.length o.length D g.2.1 g.2.2 i j a g.1) (fun g => o.length - g.1) (0, M, ch) ⟨by show 0 <= _; omega, hM, hP⟩ (by omega) ?_ ?_
                  · simp only [go_sem]
                    repeat' (first | refine fork_intro (fun hb => ?_) (fun hb => ?_) | refine partB_intro (fun hb => ?_) (fun hb => ?_) | refine And.intro ?_ ?_)
                    all_goals first | exact True.intro | omega | with_reducible rfl | exact congrArg (AV.int _) (by omega) | (first | rfl)
                  · rintro ⟨b, M, ch⟩ ⟨hb, hM, hP⟩
                    simp only at hb hM hP
                    have hMl := hM.sh.len
                    simp only [go_sem]
                    refine fork_intro (fun hc4 => ?_) (fun hc4 => ?_)
                    · have r1 := hM.sh.row i (by omega)
                      have r2 := hM.sh.row j (by omega)
                      obtain ⟨v1, v2, v3, v4⟩ := viaV_bd hM.sh (i := i) (j := j) (a := a) (b := b) (by omega) (by omega) (by omega) (by omega)
                      have q1 : ix (ix M (i : Int)) (b : Int) = ent M i b := rfl
                      have q2 : ix (ix M (j : Int)) (b : Int) = ent M j b := rfl
                      have q3 : ix (ix M (j : Int)) (a : Int) = ent M j a := rfl
                      have q4 : ix (ix M (i : Int)) (a : Int) = ent M i a := rfl
                      simp only [q1, q2, q3, q4]
                      have hvv : viaV M i j a b = ent M i b + ent M j b + ent M j a := rfl
                      by_cases hv : viaV M i j a b < ent M i a
                      · have hmin : min (ent M i a) (ent M i b + ent M j b + ent M j a) = viaV M i j a b := by omega
                        have hcl := closes_upd hM (show i < d.length by omega) (show j < d.length by omega) (show a < o.length by omega) (show b < o.length by omega) (by omega)
                        have hpr := ProgB.yes hM.sh (show i < d.length by omega) (show a < o.length by omega) hP hv (i2 := i) (j2 := j) (a2 := a) (b2 := b + 1)
                        simp only [hmin]
                        repeat' (first | refine fork_intro (fun hb => ?_) (fun hb => ?_) | refine partB_intro (fun hb => ?_) (fun hb => ?_) | refine And.intro ?_ ?_)
                        all_goals first | exact True.intro | omega | with_reducible rfl | exact congrArg (AV.int _) (by omega) | (refine LoopEnd.intro ((b + 1, upd M i a (viaV M i j a b), true)) (by first | omega | (first | exact ⟨by show b + 1 <= _; omega, hcl, hpr⟩)) (by first | omega | (dsimp only; omega)) (by omega) ?_; simp only [go_sem]; (repeat' (first | refine fork_intro (fun hb => ?_) (fun hb => ?_) | refine partB_intro (fun hb => ?_) (fun hb => ?_) | refine And.intro ?_ ?_)); all_goals first | exact True.intro | omega | with_reducible rfl | exact congrArg (AV.int _) (by omega) | (first | rfl)) | (first | rfl)
                      · have hmin : min (ent M i a) (ent M i b + ent M j b + ent M j a) = ent M i a := by omega
                        have hpr := hP.no (by omega)
                        have hsame := upd_same hM.sh (show i < d.length by omega) (show a < o.length by omega)
                        have hsame2 : M.set i ((ix M (i : Int)).set a (ent M i a)) = M := hsame
                        simp only [hmin]
                        repeat' (first | refine fork_intro (fun hb => ?_) (fun hb => ?_) | refine partB_intro (fun hb => ?_) (fun hb => ?_) | refine And.intro ?_ ?_)
                        all_goals first | exact True.intro | omega | with_reducible rfl | exact congrArg (AV.int _) (by omega) | (refine LoopEnd.intro ((b + 1, M, ch)) (by first | omega | (first | exact ⟨by show b + 1 <= _; omega, hM, hpr⟩)) (by first | omega | (dsimp only; omega)) (by omega) ?_; simp only [go_sem]; (repeat' (first | refine fork_intro (fun hb => ?_) (fun hb => ?_) | refine partB_intro (fun hb => ?_) (fun hb => ?_) | refine And.intro ?_ ?_)); all_goals first | exact True.intro | omega | with_reducible rfl | exact congrArg (AV.int _) (by omega) | (first | rfl | rw [hsame2])) | (first | rfl | rw [hsame2])
                    · have hpr := hP.b (by omega)
                      repeat' (first | refine fork_intro (fun hb => ?_) (fun hb => ?_) | refine partB_intro (fun hb => ?_) (fun hb => ?_) | refine And.intro ?_ ?_)
                      all_goals first | exact True.intro | omega | with_reducible rfl | exact congrArg (AV.int _) (by omega) | (refine LoopEnd.intro ((a + 1, M, ch)) (by first | omega | (first | exact ⟨by show a + 1 <= _; omega, hM, hpr⟩)) (by first | omega | (dsimp only; omega)) (by omega) ?_; simp only [go_sem]; (repeat' (first | refine fork_intro (fun hb => ?_) (fun hb => ?_) | refine partB_intro (fun hb => ?_) (fun hb => ?_) | refine And.intro ?_ ?_)); all_goals first | exact True.intro | omega | with_reducible rfl | exact congrArg (AV.int _) (by omega) | (first | rfl)) | (first | rfl)
                · have hpr := hP.a (by omega)
                  repeat' (first | refine fork_intro (fun hb => ?_) (fun hb => ?_) | refine partB_intro (fun hb => ?_) (fun hb => ?_) | refine And.intro ?_ ?_)
                  all_goals first | exact True.intro | omega | with_reducible rfl | exact congrArg (AV.int _) (by omega) | (refine LoopEnd.intro ((j + 1, M, ch)) (by first | omega | (first | exact ⟨by show j + 1 <= _; omega, hM, hpr⟩)) (by first | omega | (dsimp only; omega)) (by omega) ?_; simp only [go_sem]; (repeat' (first | refine fork_intro (fun hb => ?_) (fun hb => ?_) | refine partB_intro (fun hb => ?_) (fun hb => ?_) | refine And.intro ?_ ?_)); all_goals first | exact True.intro | omega | with_reducible rfl | exact congrArg (AV.int _) (by omega) | (first | rfl)) | (first | rfl)
            · have hpr := hP.j (by omega)
              repeat' (first | refine fork_intro (fun hb => ?_) (fun hb => ?_) | refine partB_intro (fun hb => ?_) (fun hb => ?_) | refine And.intro ?_ ?_)
              all_goals first | exact True.intro | omega | with_reducible rfl | exact congrArg (AV.int _) (by omega) | (refine LoopEnd.intro ((i + 1, M, ch)) (by first | omega | (first | exact ⟨by show i + 1 <= _; omega, hM, hpr⟩)) (by first | omega | (dsimp only; omega)) (by omega) ?_; simp only [go_sem]; (repeat' (first | refine fork_intro (fun hb => ?_) (fun hb => ?_) | refine partB_intro (fun hb => ?_) (fun hb => ?_) | refine And.intro ?_ ?_)); all_goals first | exact True.intro | omega | with_reducible rfl | exact congrArg (AV.int _) (by omega) | (first | rfl)) | (first | rfl)
        · have hlt : msum d.length o.length M < msum d.length o.length D := by
            rcases hP.end (by omega) with ⟨_, h2, h3⟩ | h
            · subst h2; exact (hnm h3).elim
            · exact h.2
          have hnn := msum_nn hM.sh
          repeat' (first | refine fork_intro (fun hb => ?_) (fun hb => ?_) | refine partB_intro (fun hb => ?_) (fun hb => ?_) | refine And.intro ?_ ?_)
          all_goals first | exact True.intro | omega | with_reducible rfl | exact congrArg (AV.int _) (by omega) | (refine LoopEnd.intro (M) (by first | omega | (first | exact hM)) (by first | omega | (dsimp only; omega)) (by omega) ?_; simp only [go_sem]; (repeat' (first | refine fork_intro (fun hb => ?_) (fun hb => ?_) | refine partB_intro (fun hb => ?_) (fun hb => ?_) | refine And.intro ?_ ?_)); all_goals first | exact True.intro | omega | with_reducible rfl | exact congrArg (AV.int _) (by omega) | (first | rfl)) | (first | rfl)
def t_l2Close : Table := [(112, ownC g_l2Close)]
theorem t_l2Close_ok : TabOK Tryz.prog t_l2Close := .cons Tryz.func112 (by kernel_rfl) (.own (by intro args hp; unfold g_l2Close at hp ⊢; split at hp <;> first | exact hp.elim | exact ⟨l2Close_ok _ _ hp, rfl⟩)) (.nil _)
attribute [go_sem] g_l2Close_eq t_l2Close
end Go.Proofs.YteefjdbdknkcjaaGreat
