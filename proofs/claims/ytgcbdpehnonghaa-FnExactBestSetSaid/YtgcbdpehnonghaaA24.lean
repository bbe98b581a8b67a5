/- Best sets: both packages say the same. -/
import Derived.Test.YtgcbdpehnonghaaA23
namespace Go.Proofs.Ytgcbdpehnonghaa
open Go.Vc
set_option maxRecDepth 100000
set_option linter.unusedSimpArgs false
set_option linter.unusedVariables false

def bestT (v : List Int -> Int) (xss : List (List Int)) : Nat -> List Int
  | 0 => ix xss 0
  | k + 1 => if v (ix xss (k : Int)) < v (bestT v xss k) then ix xss (k : Int) else bestT v xss k
def bestL (o : List Int) (d : List (List Int)) : List Int := bestT (total o d) (setsL o.length) (setsL o.length).length
theorem bestT_one (v : List Int -> Int) (xss : List (List Int)) : bestT v xss 1 = bestT v xss 0 := by
  show (if v (ix xss ((0 : Nat) : Int)) < v (ix xss 0) then _ else _) = _
  rw [if_neg (by have : ((0 : Nat) : Int) = 0 := rfl; rw [this]; omega)]
theorem bestT_mem (v : List Int -> Int) {xss : List (List Int)} (h : 0 < xss.length) : ∀ k, k <= xss.length -> bestT v xss k ∈ xss := by
  intro k
  induction k with
  | zero => intro _; exact ix_mem (k := 0) xss h
  | succ k ih =>
    intro hk
    unfold bestT
    split
    · exact ix_mem xss (by omega)
    · exact ih (by omega)
theorem bestL_open {o : List Int} {d : List (List Int)} (hf : FieldOK o d) : OpenOK o d (bestL o d) := by
  have h1 := setsL_len o.length
  have h2 := pow_ge2 o.length hf.n1
  exact setsL_open hf (bestT_mem _ (by omega) _ (Nat.le_refl _))

def g_bestS : List AV -> Prop × AV
  | [.agg [.ints o, .rows d]] => (FieldOK o d, .ints (bestL o d))
  | _ => (False, .undef)
theorem g_bestS_eq (o : List Int) (d : List (List Int)) : g_bestS [.agg [.ints o, .rows d]] = (FieldOK o d, .ints (bestL o d)) := (rfl)
theorem bestS_ok (o : List Int) (d : List (List Int)) (hp : FieldOK o d) : SpecOK Try.prog 39 [.agg [.ints o, .rows d]] (.ints (bestL o d)) [] := by
  refine fun_ok (C := t_setsS ++ t_totalS) (hint := hintX [] [] 0 [] [] [] []) ((t_setsS_ok).append t_totalS_ok) mixed Try.func39 rfl (by kernel_rfl) rfl ?_
  show codeA _ _ _ _ _ _ _ _
  simp only [go_sem, Try.results39]
  have hn := hp.n7
  have hn1 := hp.n1
  have hl := setsL_len o.length
  have h2 := pow_ge2 o.length hn1
  have h3 := pow_7 o.length hn
  have hx := fun k (hk : k < (setsL o.length).length) => setsL_open hp (ix_mem (setsL o.length) hk)
  have hb := fun k hk => setsL_open hp (bestT_mem (total o d) (xss := setsL o.length) (by omega) k hk)
  have h1 := bestT_one (total o d) (setsL o.length)
  have step := fun (k : Nat) => (show bestT (total o d) (setsL o.length) (k + 1) = if total o d (ix (setsL o.length) (k : Int)) < total o d (bestT (total o d) (setsL o.length) k) then ix (setsL o.length) (k : Int) else bestT (total o d) (setsL o.length) k from rfl)
  have eb : bestL o d = bestT (total o d) (setsL o.length) (setsL o.length).length := rfl
  rw [eb]
  refine ⟨by omega, ?_⟩
  generalize setsL o.length = xss at *
  refine ⟨by omega, ?_⟩
  refine loop_intro (fun k : Nat => [(4, .ints (bestT (total o d) xss k)), (5, .int .i64 k), (3, .rows xss), (1, .iptr [.ints o, .rows d])]) (fun _ => []) 0 (fun k => 1 <= k /\ k <= xss.length) (fun k => xss.length - k) 1 ⟨by omega, by omega⟩ (by omega) ?_ ?_
  · simp only [go_sem]
    repeat' (first | refine fork_intro (fun hb => ?_) (fun hb => ?_) | refine partB_intro (fun hb => ?_) (fun hb => ?_) | refine And.intro ?_ ?_)
    all_goals first | exact True.intro | omega | with_reducible rfl | exact congrArg (AV.int _) (by omega) | (first | rw [h1]; rfl | rfl)
  · rintro k ⟨hk1, hk⟩
    have e := step k
    simp only [go_sem]
    refine fork_intro (fun hc => ?_) (fun hc => ?_)
    · refine ⟨⟨by omega, by omega⟩, hx k (by omega), hb k hk, fork_intro (fun h3 => ?_) (fun h3 => ?_)⟩
      · rw [if_pos h3] at e
        repeat' (first | refine fork_intro (fun hb => ?_) (fun hb => ?_) | refine partB_intro (fun hb => ?_) (fun hb => ?_) | refine And.intro ?_ ?_)
        all_goals first | exact True.intro | omega | with_reducible rfl | exact congrArg (AV.int _) (by omega) | (refine LoopEnd.intro (k + 1) (by first | omega) (by first | omega | (dsimp only; omega)) (by omega) ?_; simp only [go_sem]; (repeat' (first | refine fork_intro (fun hb => ?_) (fun hb => ?_) | refine partB_intro (fun hb => ?_) (fun hb => ?_) | refine And.intro ?_ ?_)); all_goals first | exact True.intro | omega | with_reducible rfl | exact congrArg (AV.int _) (by omega) | (first | rw [e])) | (first | rw [e])
      · rw [if_neg h3] at e
        repeat' (first | refine fork_intro (fun hb => ?_) (fun hb => ?_) | refine partB_intro (fun hb => ?_) (fun hb => ?_) | refine And.intro ?_ ?_)
        all_goals first | exact True.intro | omega | with_reducible rfl | exact congrArg (AV.int _) (by omega) | (refine LoopEnd.intro (k + 1) (by first | omega) (by first | omega | (dsimp only; omega)) (by omega) ?_; simp only [go_sem]; (repeat' (first | refine fork_intro (fun hb => ?_) (fun hb => ?_) | refine partB_intro (fun hb => ?_) (fun hb => ?_) | refine And.intro ?_ ?_)); all_goals first | exact True.intro | omega | with_reducible rfl | exact congrArg (AV.int _) (by omega) | (first | rw [e])) | (first | rw [e])
    · rw [show k = xss.length by omega]
def t_bestS : Table := [(39, pureC g_bestS)]
theorem t_bestS_ok : TabOK Try.prog t_bestS := .cons Try.func39 (by kernel_rfl) (.pure (by intro args hp; unfold g_bestS at hp ⊢; split at hp <;> first | exact hp.elim | exact bestS_ok _ _ hp)) (.nil _)
attribute [go_sem] g_bestS_eq t_bestS
end Go.Proofs.Ytgcbdpehnonghaa
