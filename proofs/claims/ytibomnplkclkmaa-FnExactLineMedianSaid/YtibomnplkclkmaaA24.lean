/- Best sets: both packages say the same. -/
import Derived.Test.YtibomnplkclkmaaA23
namespace Go.Proofs.Ytibomnplkclkmaa
open Go.Vc
set_option maxRecDepth 100000
set_option linter.unusedSimpArgs false
set_option linter.unusedVariables false

def bestT (v : List Int → Int) (xss : List (List Int)) : Nat → List Int
  | 0 => ix xss 0
  | k + 1 => if v (ix xss (k : Int)) < v (bestT v xss k) then ix xss (k : Int) else bestT v xss k
def valG (g : Nat) (o : List Int) (d : List (List Int)) (set : List Int) : Int := if g = 68 then total o d set else svc d set
def bestL (o : List Int) (d : List (List Int)) : List Int := bestT (total o d) (setsL o.length) (setsL o.length).length
theorem bestT_one (v : List Int → Int) (xss : List (List Int)) : bestT v xss 1 = bestT v xss 0 := by
  show (if v (ix xss ((0 : Nat) : Int)) < v (ix xss 0) then _ else _) = _
  rw [if_neg (by have : ((0 : Nat) : Int) = 0 := rfl; rw [this]; omega)]
theorem bestT_mem (v : List Int → Int) {xss : List (List Int)} (h : 0 < xss.length) : ∀ k, k ≤ xss.length → bestT v xss k ∈ xss := by
  intro k
  induction k with
  | zero => intro _; exact ix_mem (k := 0) xss h
  | succ k ih =>
    intro hk
    unfold bestT
    split
    · exact ix_mem xss (by omega)
    · exact ih (by omega)
theorem bestL_open {o : List Int} {d : List (List Int)} (hf : FieldOK o d) : OpenOK o d (bestL o d) := by
  have h1 := setsL_len o.length
  have h2 := pow_ge2 o.length hf.n1
  exact setsL_open hf (bestT_mem _ (by omega) _ (Nat.le_refl _))

def g_least : List AV → Prop × AV
  | [.rows xss, .bnd g [.agg [.ints o, .rows d]]] => ((g = 68 ∨ g = 60) ∧ 0 < xss.length ∧ xss.length ≤ 1048576000 ∧ ∀ x ∈ xss, OpenOK o d x, .ints (bestT (valG g o d) xss xss.length))
  | _ => (False, .undef)
theorem g_least_eq (xss : List (List Int)) (g : Nat) (o : List Int) (d : List (List Int)) : g_least [.rows xss, .bnd g [.agg [.ints o, .rows d]]] = ((g = 68 ∨ g = 60) ∧ 0 < xss.length ∧ xss.length ≤ 1048576000 ∧ ∀ x ∈ xss, OpenOK o d x, .ints (bestT (valG g o d) xss xss.length)) := (rfl)
theorem least_ok (xss : List (List Int)) (g : Nat) (o : List Int) (d : List (List Int)) (hp : (g = 68 ∨ g = 60) ∧ 0 < xss.length ∧ xss.length ≤ 1048576000 ∧ ∀ x ∈ xss, OpenOK o d x) : SpecOK Try.prog 102 [.rows xss, .bnd g [.agg [.ints o, .rows d]]] (.ints (bestT (valG g o d) xss xss.length)) [] := by
  refine fun_ok (C := t_totalI ++ t_serviceI) (hint := hintX [] [] 0 [] [] [] []) ((t_totalI_ok).append t_serviceI_ok) mixed Try.func102 rfl (by kernel_rfl) rfl ?_
  show codeA _ _ _ _ _ _ _ _
  simp only [go_sem, ↓reduceIte, Nat.reduceEqDiff, Nat.reduceBEq, Nat.reduceAdd, Nat.reduceSub, Nat.reduceLeDiff, Nat.reduceMul, Nat.reduceLT, Try.results102]
  obtain ⟨hg, h0, h1, ho⟩ := hp
  have hb := fun k hk => ho _ (bestT_mem (valG g o d) h0 k hk)
  have hx := fun k (hk : k < xss.length) => ho _ (ix_mem xss hk)
  have step := fun (k : Nat) => (show bestT (valG g o d) xss (k + 1) = if valG g o d (ix xss (k : Int)) < valG g o d (bestT (valG g o d) xss k) then ix xss (k : Int) else bestT (valG g o d) xss k from rfl)
  have go : ∀ v : List Int → Int, v = valG g o d → True := fun _ _ => trivial
  rcases hg with rfl | rfl
  · have ev : ∀ s, valG 68 o d s = total o d s := fun s => rfl
    generalize valG 68 o d = v at *
    refine ⟨by omega, ?_⟩
    refine loop_intro (fun k : Nat => [(5, .ints (bestT v xss k)), (11, .rows xss), (12, .int .i64 xss.length), (13, .int .i64 k), (1, .bnd 68 [.agg [.ints o, .rows d]])]) (fun _ => []) 0 (fun k => k ≤ xss.length) (fun k => xss.length - k) 0 (by omega) (by omega) ?_ ?_
    · simp only [go_sem, ↓reduceIte, Nat.reduceEqDiff, Nat.reduceBEq, Nat.reduceAdd, Nat.reduceSub, Nat.reduceLeDiff, Nat.reduceMul, Nat.reduceLT]
      repeat' (first | refine fork_intro (fun hb => ?_) (fun hb => ?_) | refine partB_intro (fun hb => ?_) (fun hb => ?_) | refine And.intro ?_ ?_)
      all_goals first | exact True.intro | omega | with_reducible rfl | exact congrArg (AV.int _) (by omega) | (first | rfl)
    · intro k hk
      have e := step k
      rw [ev, ev] at e
      simp only [go_sem, ↓reduceIte, Nat.reduceEqDiff, Nat.reduceBEq, Nat.reduceAdd, Nat.reduceSub, Nat.reduceLeDiff, Nat.reduceMul, Nat.reduceLT]
      refine fork_intro (fun hc => ?_) (fun hc => ?_)
      · refine ⟨⟨by omega, by omega⟩, hx k (by omega), hb k hk, fork_intro (fun h3 => ?_) (fun h3 => ?_)⟩
        · rw [if_pos h3] at e
          repeat' (first | refine fork_intro (fun hb => ?_) (fun hb => ?_) | refine partB_intro (fun hb => ?_) (fun hb => ?_) | refine And.intro ?_ ?_)
          all_goals first | exact True.intro | omega | with_reducible rfl | exact congrArg (AV.int _) (by omega) | (refine LoopEnd.intro (k + 1) (by first | omega) (by first | omega | (dsimp only; omega)) (by omega) ?_; simp only [go_sem, ↓reduceIte, Nat.reduceEqDiff, Nat.reduceBEq, Nat.reduceAdd, Nat.reduceSub, Nat.reduceLeDiff, Nat.reduceMul, Nat.reduceLT]; (repeat' (first | refine fork_intro (fun hb => ?_) (fun hb => ?_) | refine partB_intro (fun hb => ?_) (fun hb => ?_) | refine And.intro ?_ ?_)); all_goals first | exact True.intro | omega | with_reducible rfl | exact congrArg (AV.int _) (by omega) | (first | rw [e])) | (first | rw [e])
        · rw [if_neg h3] at e
          repeat' (first | refine fork_intro (fun hb => ?_) (fun hb => ?_) | refine partB_intro (fun hb => ?_) (fun hb => ?_) | refine And.intro ?_ ?_)
          all_goals first | exact True.intro | omega | with_reducible rfl | exact congrArg (AV.int _) (by omega) | (refine LoopEnd.intro (k + 1) (by first | omega) (by first | omega | (dsimp only; omega)) (by omega) ?_; simp only [go_sem, ↓reduceIte, Nat.reduceEqDiff, Nat.reduceBEq, Nat.reduceAdd, Nat.reduceSub, Nat.reduceLeDiff, Nat.reduceMul, Nat.reduceLT]; (repeat' (first | refine fork_intro (fun hb => ?_) (fun hb => ?_) | refine partB_intro (fun hb => ?_) (fun hb => ?_) | refine And.intro ?_ ?_)); all_goals first | exact True.intro | omega | with_reducible rfl | exact congrArg (AV.int _) (by omega) | (first | rw [e])) | (first | rw [e])
      · rw [show k = xss.length by omega]
  · have ev : ∀ s, valG 60 o d s = svc d s := fun s => rfl
    generalize valG 60 o d = v at *
    refine ⟨by omega, ?_⟩
    refine loop_intro (fun k : Nat => [(5, .ints (bestT v xss k)), (11, .rows xss), (12, .int .i64 xss.length), (13, .int .i64 k), (1, .bnd 60 [.agg [.ints o, .rows d]])]) (fun _ => []) 0 (fun k => k ≤ xss.length) (fun k => xss.length - k) 0 (by omega) (by omega) ?_ ?_
    · simp only [go_sem, ↓reduceIte, Nat.reduceEqDiff, Nat.reduceBEq, Nat.reduceAdd, Nat.reduceSub, Nat.reduceLeDiff, Nat.reduceMul, Nat.reduceLT]
      repeat' (first | refine fork_intro (fun hb => ?_) (fun hb => ?_) | refine partB_intro (fun hb => ?_) (fun hb => ?_) | refine And.intro ?_ ?_)
      all_goals first | exact True.intro | omega | with_reducible rfl | exact congrArg (AV.int _) (by omega) | (first | rfl)
    · intro k hk
      have e := step k
      rw [ev, ev] at e
      simp only [go_sem, ↓reduceIte, Nat.reduceEqDiff, Nat.reduceBEq, Nat.reduceAdd, Nat.reduceSub, Nat.reduceLeDiff, Nat.reduceMul, Nat.reduceLT]
      refine fork_intro (fun hc => ?_) (fun hc => ?_)
      · refine ⟨⟨by omega, by omega⟩, hx k (by omega), hb k hk, fork_intro (fun h3 => ?_) (fun h3 => ?_)⟩
        · rw [if_pos h3] at e
          repeat' (first | refine fork_intro (fun hb => ?_) (fun hb => ?_) | refine partB_intro (fun hb => ?_) (fun hb => ?_) | refine And.intro ?_ ?_)
          all_goals first | exact True.intro | omega | with_reducible rfl | exact congrArg (AV.int _) (by omega) | (refine LoopEnd.intro (k + 1) (by first | omega) (by first | omega | (dsimp only; omega)) (by omega) ?_; simp only [go_sem, ↓reduceIte, Nat.reduceEqDiff, Nat.reduceBEq, Nat.reduceAdd, Nat.reduceSub, Nat.reduceLeDiff, Nat.reduceMul, Nat.reduceLT]; (repeat' (first | refine fork_intro (fun hb => ?_) (fun hb => ?_) | refine partB_intro (fun hb => ?_) (fun hb => ?_) | refine And.intro ?_ ?_)); all_goals first | exact True.intro | omega | with_reducible rfl | exact congrArg (AV.int _) (by omega) | (first | rw [e])) | (first | rw [e])
        · rw [if_neg h3] at e
          repeat' (first | refine fork_intro (fun hb => ?_) (fun hb => ?_) | refine partB_intro (fun hb => ?_) (fun hb => ?_) | refine And.intro ?_ ?_)
          all_goals first | exact True.intro | omega | with_reducible rfl | exact congrArg (AV.int _) (by omega) | (refine LoopEnd.intro (k + 1) (by first | omega) (by first | omega | (dsimp only; omega)) (by omega) ?_; simp only [go_sem, ↓reduceIte, Nat.reduceEqDiff, Nat.reduceBEq, Nat.reduceAdd, Nat.reduceSub, Nat.reduceLeDiff, Nat.reduceMul, Nat.reduceLT]; (repeat' (first | refine fork_intro (fun hb => ?_) (fun hb => ?_) | refine partB_intro (fun hb => ?_) (fun hb => ?_) | refine And.intro ?_ ?_)); all_goals first | exact True.intro | omega | with_reducible rfl | exact congrArg (AV.int _) (by omega) | (first | rw [e])) | (first | rw [e])
      · rw [show k = xss.length by omega]
def t_least : Table := [(102, pureC g_least)]
theorem t_least_ok : TabOK Try.prog t_least := .cons Try.func102 (by kernel_rfl) (.pure (by intro args hp; unfold g_least at hp ⊢; split at hp <;> first | exact hp.elim | exact least_ok _ _ _ _ hp)) (.nil _)
attribute [go_sem] g_least_eq t_least
def g_bestS : List AV → Prop × AV
  | [.agg [.ints o, .rows d]] => (FieldOK o d, .ints (bestL o d))
  | _ => (False, .undef)
theorem g_bestS_eq (o : List Int) (d : List (List Int)) : g_bestS [.agg [.ints o, .rows d]] = (FieldOK o d, .ints (bestL o d)) := (rfl)
theorem bestS_ok (o : List Int) (d : List (List Int)) (hp : FieldOK o d) : SpecOK Try.prog 101 [.agg [.ints o, .rows d]] (.ints (bestL o d)) [] := by
  refine fun_ok (C := t_setsS ++ t_totalS) (hint := hintX [] [] 0 [] [] [] []) ((t_setsS_ok).append t_totalS_ok) mixed Try.func101 rfl (by kernel_rfl) rfl ?_
  show codeA _ _ _ _ _ _ _ _
  simp only [go_sem, ↓reduceIte, Nat.reduceEqDiff, Nat.reduceBEq, Nat.reduceAdd, Nat.reduceSub, Nat.reduceLeDiff, Nat.reduceMul, Nat.reduceLT, Try.results101]
  have hn := hp.n7
  have hn1 := hp.n1
  have hl := setsL_len o.length
  have h2 := pow_ge2 o.length hn1
  have h3 := pow_7 o.length hn
  have hx := fun k (hk : k < (setsL o.length).length) => setsL_open hp (ix_mem (setsL o.length) hk)
  have hb := fun k hk => setsL_open hp (bestT_mem (total o d) (xss := setsL o.length) (by omega) k hk)
  have h1 := bestT_one (total o d) (setsL o.length)
  have step := fun (k : Nat) => (show bestT (total o d) (setsL o.length) (k + 1) = if total o d (ix (setsL o.length) (k : Int)) < total o d (bestT (total o d) (setsL o.length) k) then ix (setsL o.length) (k : Int) else bestT (total o d) (setsL o.length) k from rfl)
  have eb : bestL o d = bestT (total o d) (setsL o.length) (setsL o.length).length := rfl
  rw [eb]
  refine ⟨by omega, ?_⟩
  generalize setsL o.length = xss at *
  refine ⟨by omega, ?_⟩
  refine loop_intro (fun k : Nat => [(4, .ints (bestT (total o d) xss k)), (5, .int .i64 k), (3, .rows xss), (1, .iptr [.ints o, .rows d])]) (fun _ => []) 0 (fun k => 1 ≤ k ∧ k ≤ xss.length) (fun k => xss.length - k) 1 ⟨by omega, by omega⟩ (by omega) ?_ ?_
  · simp only [go_sem, ↓reduceIte, Nat.reduceEqDiff, Nat.reduceBEq, Nat.reduceAdd, Nat.reduceSub, Nat.reduceLeDiff, Nat.reduceMul, Nat.reduceLT]
    repeat' (first | refine fork_intro (fun hb => ?_) (fun hb => ?_) | refine partB_intro (fun hb => ?_) (fun hb => ?_) | refine And.intro ?_ ?_)
    all_goals first | exact True.intro | omega | with_reducible rfl | exact congrArg (AV.int _) (by omega) | (first | rw [h1]; rfl | rfl)
  · rintro k ⟨hk1, hk⟩
    have e := step k
    simp only [go_sem, ↓reduceIte, Nat.reduceEqDiff, Nat.reduceBEq, Nat.reduceAdd, Nat.reduceSub, Nat.reduceLeDiff, Nat.reduceMul, Nat.reduceLT]
    refine fork_intro (fun hc => ?_) (fun hc => ?_)
    · refine ⟨⟨by omega, by omega⟩, hx k (by omega), hb k hk, fork_intro (fun h3 => ?_) (fun h3 => ?_)⟩
      · rw [if_pos h3] at e
        repeat' (first | refine fork_intro (fun hb => ?_) (fun hb => ?_) | refine partB_intro (fun hb => ?_) (fun hb => ?_) | refine And.intro ?_ ?_)
        all_goals first | exact True.intro | omega | with_reducible rfl | exact congrArg (AV.int _) (by omega) | (refine LoopEnd.intro (k + 1) (by first | omega) (by first | omega | (dsimp only; omega)) (by omega) ?_; simp only [go_sem, ↓reduceIte, Nat.reduceEqDiff, Nat.reduceBEq, Nat.reduceAdd, Nat.reduceSub, Nat.reduceLeDiff, Nat.reduceMul, Nat.reduceLT]; (repeat' (first | refine fork_intro (fun hb => ?_) (fun hb => ?_) | refine partB_intro (fun hb => ?_) (fun hb => ?_) | refine And.intro ?_ ?_)); all_goals first | exact True.intro | omega | with_reducible rfl | exact congrArg (AV.int _) (by omega) | (first | rw [e])) | (first | rw [e])
      · rw [if_neg h3] at e
        repeat' (first | refine fork_intro (fun hb => ?_) (fun hb => ?_) | refine partB_intro (fun hb => ?_) (fun hb => ?_) | refine And.intro ?_ ?_)
        all_goals first | exact True.intro | omega | with_reducible rfl | exact congrArg (AV.int _) (by omega) | (refine LoopEnd.intro (k + 1) (by first | omega) (by first | omega | (dsimp only; omega)) (by omega) ?_; simp only [go_sem, ↓reduceIte, Nat.reduceEqDiff, Nat.reduceBEq, Nat.reduceAdd, Nat.reduceSub, Nat.reduceLeDiff, Nat.reduceMul, Nat.reduceLT]; (repeat' (first | refine fork_intro (fun hb => ?_) (fun hb => ?_) | refine partB_intro (fun hb => ?_) (fun hb => ?_) | refine And.intro ?_ ?_)); all_goals first | exact True.intro | omega | with_reducible rfl | exact congrArg (AV.int _) (by omega) | (first | rw [e])) | (first | rw [e])
    · rw [show k = xss.length by omega]
def t_bestS : Table := [(101, pureC g_bestS)]
theorem t_bestS_ok : TabOK Try.prog t_bestS := .cons Try.func101 (by kernel_rfl) (.pure (by intro args hp; unfold g_bestS at hp ⊢; split at hp <;> first | exact hp.elim | exact bestS_ok _ _ hp)) (.nil _)
attribute [go_sem] g_bestS_eq t_bestS
def g_bestSetS : List AV → Prop × AV
  | [.agg [.ints o, .rows d]] => (o.length ≤ 1048576000 ∧ d.length ≤ 1048576000 ∧ ∀ x ∈ d, x.length ≤ 1048576000, .tup [.ints (bif good o d then bestL o d else []), .bool (good o d)])
  | _ => (False, .undef)
theorem g_bestSetS_eq (o : List Int) (d : List (List Int)) : g_bestSetS [.agg [.ints o, .rows d]] = (o.length ≤ 1048576000 ∧ d.length ≤ 1048576000 ∧ ∀ x ∈ d, x.length ≤ 1048576000, .tup [.ints (bif good o d then bestL o d else []), .bool (good o d)]) := (rfl)
theorem bestSetS_ok (o : List Int) (d : List (List Int)) (hp : o.length ≤ 1048576000 ∧ d.length ≤ 1048576000 ∧ ∀ x ∈ d, x.length ≤ 1048576000) : SpecOK Try.prog 46 [.agg [.ints o, .rows d]] (.tup [.ints (bif good o d then bestL o d else []), .bool (good o d)]) [] := by
  refine fun_ok (C := t_l2Good ++ t_bestS) (hint := hintX [] [] 0 [] [] [] []) ((t_l2Good_ok).append t_bestS_ok) mixed Try.func46 rfl (by kernel_rfl) rfl ?_
  show codeA _ _ _ _ _ _ _ _
  simp only [go_sem, ↓reduceIte, Nat.reduceEqDiff, Nat.reduceBEq, Nat.reduceAdd, Nat.reduceSub, Nat.reduceLeDiff, Nat.reduceMul, Nat.reduceLT, Try.results46]
  refine ⟨hp, partB_intro (fun hg => ?_) (fun hg => ?_)⟩
  · rw [hg]
    exact ⟨good_iff.1 hg, rfl, rfl⟩
  · rw [hg]
    repeat' (first | refine fork_intro (fun hb => ?_) (fun hb => ?_) | refine partB_intro (fun hb => ?_) (fun hb => ?_) | refine And.intro ?_ ?_)
    all_goals first | exact True.intro | omega | with_reducible rfl | exact congrArg (AV.int _) (by omega) | (first | rfl)
def t_bestSetS : Table := [(46, pureC g_bestSetS)]
theorem t_bestSetS_ok : TabOK Try.prog t_bestSetS := .cons Try.func46 (by kernel_rfl) (.pure (by intro args hp; unfold g_bestSetS at hp ⊢; split at hp <;> first | exact hp.elim | exact bestSetS_ok _ _ hp)) (.nil _)
attribute [go_sem] g_bestSetS_eq t_bestSetS
def g_bestSetI : List AV → Prop × AV
  | [.agg [.ints o, .rows d]] => (o.length ≤ 1048576000 ∧ d.length ≤ 1048576000 ∧ ∀ x ∈ d, x.length ≤ 1048576000, .tup [.ints (bif good o d then bestL o d else []), .bool (good o d)])
  | _ => (False, .undef)
theorem g_bestSetI_eq (o : List Int) (d : List (List Int)) : g_bestSetI [.agg [.ints o, .rows d]] = (o.length ≤ 1048576000 ∧ d.length ≤ 1048576000 ∧ ∀ x ∈ d, x.length ≤ 1048576000, .tup [.ints (bif good o d then bestL o d else []), .bool (good o d)]) := (rfl)
theorem bestSetI_ok (o : List Int) (d : List (List Int)) (hp : o.length ≤ 1048576000 ∧ d.length ≤ 1048576000 ∧ ∀ x ∈ d, x.length ≤ 1048576000) : SpecOK Try.prog 47 [.agg [.ints o, .rows d]] (.tup [.ints (bif good o d then bestL o d else []), .bool (good o d)]) [] := by
  refine fun_ok (C := t_isF ++ t_setsI ++ t_least) (hint := hintX [] [] 0 [] [] [] []) (((t_isF_ok).append t_setsI_ok).append t_least_ok) mixed Try.func47 rfl (by kernel_rfl) rfl ?_
  show codeA _ _ _ _ _ _ _ _
  simp only [go_sem, ↓reduceIte, Nat.reduceEqDiff, Nat.reduceBEq, Nat.reduceAdd, Nat.reduceSub, Nat.reduceLeDiff, Nat.reduceMul, Nat.reduceLT, Try.results47]
  refine ⟨hp, partB_intro (fun hg => ?_) (fun hg => ?_)⟩
  · rw [hg]
    have hf := good_iff.1 hg
    have hn := hf.n7
    have hn1 := hf.n1
    have hl := setsL_len o.length
    have h2 := pow_ge2 o.length hn1
    have h3 := pow_7 o.length hn
    refine ⟨by omega, ⟨.inl trivial, by omega, by omega, fun x hx => setsL_open hf hx⟩, rfl, rfl⟩
  · rw [hg]
    repeat' (first | refine fork_intro (fun hb => ?_) (fun hb => ?_) | refine partB_intro (fun hb => ?_) (fun hb => ?_) | refine And.intro ?_ ?_)
    all_goals first | exact True.intro | omega | with_reducible rfl | exact congrArg (AV.int _) (by omega) | (first | rfl)
def t_bestSetI : Table := [(47, pureC g_bestSetI)]
theorem t_bestSetI_ok : TabOK Try.prog t_bestSetI := .cons Try.func47 (by kernel_rfl) (.pure (by intro args hp; unfold g_bestSetI at hp ⊢; split at hp <;> first | exact hp.elim | exact bestSetI_ok _ _ hp)) (.nil _)
attribute [go_sem] g_bestSetI_eq t_bestSetI
def g_bestTotalS : List AV → Prop × AV
  | [.agg [.ints o, .rows d]] => (o.length ≤ 1048576000 ∧ d.length ≤ 1048576000 ∧ ∀ x ∈ d, x.length ≤ 1048576000, .tup [.int .i64 (bif good o d then total o d (bestL o d) else 0), .bool (good o d)])
  | _ => (False, .undef)
theorem g_bestTotalS_eq (o : List Int) (d : List (List Int)) : g_bestTotalS [.agg [.ints o, .rows d]] = (o.length ≤ 1048576000 ∧ d.length ≤ 1048576000 ∧ ∀ x ∈ d, x.length ≤ 1048576000, .tup [.int .i64 (bif good o d then total o d (bestL o d) else 0), .bool (good o d)]) := (rfl)
theorem bestTotalS_ok (o : List Int) (d : List (List Int)) (hp : o.length ≤ 1048576000 ∧ d.length ≤ 1048576000 ∧ ∀ x ∈ d, x.length ≤ 1048576000) : SpecOK Try.prog 44 [.agg [.ints o, .rows d]] (.tup [.int .i64 (bif good o d then total o d (bestL o d) else 0), .bool (good o d)]) [] := by
  refine fun_ok (C := t_l2Good ++ t_bestS ++ t_totalS) (hint := hintX [] [] 0 [] [] [] []) (((t_l2Good_ok).append t_bestS_ok).append t_totalS_ok) mixed Try.func44 rfl (by kernel_rfl) rfl ?_
  show codeA _ _ _ _ _ _ _ _
  simp only [go_sem, ↓reduceIte, Nat.reduceEqDiff, Nat.reduceBEq, Nat.reduceAdd, Nat.reduceSub, Nat.reduceLeDiff, Nat.reduceMul, Nat.reduceLT, Try.results44]
  refine ⟨hp, partB_intro (fun hg => ?_) (fun hg => ?_)⟩
  · rw [hg]
    have hf := good_iff.1 hg
    exact ⟨hf, bestL_open hf, rfl, rfl⟩
  · rw [hg]
    repeat' (first | refine fork_intro (fun hb => ?_) (fun hb => ?_) | refine partB_intro (fun hb => ?_) (fun hb => ?_) | refine And.intro ?_ ?_)
    all_goals first | exact True.intro | omega | with_reducible rfl | exact congrArg (AV.int _) (by omega) | (first | rfl)
def t_bestTotalS : Table := [(44, pureC g_bestTotalS)]
theorem t_bestTotalS_ok : TabOK Try.prog t_bestTotalS := .cons Try.func44 (by kernel_rfl) (.pure (by intro args hp; unfold g_bestTotalS at hp ⊢; split at hp <;> first | exact hp.elim | exact bestTotalS_ok _ _ hp)) (.nil _)
attribute [go_sem] g_bestTotalS_eq t_bestTotalS
def g_bestTotalI : List AV → Prop × AV
  | [.agg [.ints o, .rows d]] => (o.length ≤ 1048576000 ∧ d.length ≤ 1048576000 ∧ ∀ x ∈ d, x.length ≤ 1048576000, .tup [.int .i64 (bif good o d then total o d (bestL o d) else 0), .bool (good o d)])
  | _ => (False, .undef)
theorem g_bestTotalI_eq (o : List Int) (d : List (List Int)) : g_bestTotalI [.agg [.ints o, .rows d]] = (o.length ≤ 1048576000 ∧ d.length ≤ 1048576000 ∧ ∀ x ∈ d, x.length ≤ 1048576000, .tup [.int .i64 (bif good o d then total o d (bestL o d) else 0), .bool (good o d)]) := (rfl)
theorem bestTotalI_ok (o : List Int) (d : List (List Int)) (hp : o.length ≤ 1048576000 ∧ d.length ≤ 1048576000 ∧ ∀ x ∈ d, x.length ≤ 1048576000) : SpecOK Try.prog 45 [.agg [.ints o, .rows d]] (.tup [.int .i64 (bif good o d then total o d (bestL o d) else 0), .bool (good o d)]) [] := by
  refine fun_ok (C := t_bestSetI ++ t_totalI) (hint := hintX [] [] 0 [] [] [] []) ((t_bestSetI_ok).append t_totalI_ok) mixed Try.func45 rfl (by kernel_rfl) rfl ?_
  show codeA _ _ _ _ _ _ _ _
  simp only [go_sem, ↓reduceIte, Nat.reduceEqDiff, Nat.reduceBEq, Nat.reduceAdd, Nat.reduceSub, Nat.reduceLeDiff, Nat.reduceMul, Nat.reduceLT, Try.results45]
  refine ⟨hp, partB_intro (fun hg => ?_) (fun hg => ?_)⟩
  · rw [hg]
    have hf := good_iff.1 hg
    exact ⟨bestL_open hf, rfl, rfl⟩
  · rw [hg]
    repeat' (first | refine fork_intro (fun hb => ?_) (fun hb => ?_) | refine partB_intro (fun hb => ?_) (fun hb => ?_) | refine And.intro ?_ ?_)
    all_goals first | exact True.intro | omega | with_reducible rfl | exact congrArg (AV.int _) (by omega) | (first | rfl)
def t_bestTotalI : Table := [(45, pureC g_bestTotalI)]
theorem t_bestTotalI_ok : TabOK Try.prog t_bestTotalI := .cons Try.func45 (by kernel_rfl) (.pure (by intro args hp; unfold g_bestTotalI at hp ⊢; split at hp <;> first | exact hp.elim | exact bestTotalI_ok _ _ hp)) (.nil _)
attribute [go_sem] g_bestTotalI_eq t_bestTotalI
end Go.Proofs.Ytibomnplkclkmaa
