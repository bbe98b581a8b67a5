/- Claims, fair prices, tight sites: both packages say the same. -/
import Derived.Test.YteefjdbdknkcjaaGreatA6
import Derived.Test.YteefjdbdknkcjaaGreatPlF
namespace Go.Proofs.YteefjdbdknkcjaaGreat
open Go.Vc
set_option maxRecDepth 100000
set_option linter.unusedSimpArgs false
set_option linter.unusedVariables false

def g_pricesS : List AV → Prop × AV
  | [.agg [.ints o, .rows d], .ints ps] => ((o.length ≤ 1048576000 ∧ d.length ≤ 1048576000 ∧ ∀ x ∈ d, x.length ≤ 1048576000) ∧ ps.length ≤ 1048576000, .bool (pricesOK o d ps))
  | _ => (False, .undef)
theorem g_pricesS_eq (o : List Int) (d : List (List Int)) (ps : List Int) : g_pricesS [.agg [.ints o, .rows d], .ints ps] = ((o.length ≤ 1048576000 ∧ d.length ≤ 1048576000 ∧ ∀ x ∈ d, x.length ≤ 1048576000) ∧ ps.length ≤ 1048576000, .bool (pricesOK o d ps)) := (rfl)
theorem pricesS_ok (o : List Int) (d : List (List Int)) (ps : List Int) (hp : (o.length ≤ 1048576000 ∧ d.length ≤ 1048576000 ∧ ∀ x ∈ d, x.length ≤ 1048576000) ∧ ps.length ≤ 1048576000) : SpecOK Tryz.prog 107 [.agg [.ints o, .rows d], .ints ps] (.bool (pricesOK o d ps)) [] := by
  refine fun_ok (C := t_l1In ++ t_l2Good) (hint := hintX [] [] 0 [] [] [] []) ((t_l1In_ok).append t_l2Good_ok) mixed Tryz.func107 rfl (by kernel_rfl) rfl ?_
  show codeA _ _ _ _ _ _ _ _
  simp only [go_sem, ↓reduceIte, Nat.reduceEqDiff, Nat.reduceBEq, Nat.reduceAdd, Nat.reduceSub, Nat.reduceLeDiff, Nat.reduceMul, Nat.reduceLT, Tryz.results107]
  obtain ⟨hf, hl⟩ := hp
  refine loop_intro (fun k : Nat => [(5, .int .i64 k), (1, .ints ps), (2, .iptr [.ints o, .rows d])]) (fun _ => []) 0 (fun k => k ≤ ps.length ∧ rowOK 500 (ps.drop k) = rowOK 500 ps) (fun k => ps.length - k) 0 ⟨Nat.zero_le _, rfl⟩ (Nat.zero_le _) ?_ ?_
  · simp only [go_sem, ↓reduceIte, Nat.reduceEqDiff, Nat.reduceBEq, Nat.reduceAdd, Nat.reduceSub, Nat.reduceLeDiff, Nat.reduceMul, Nat.reduceLT]
    repeat' (first | refine fork_intro (fun hb => ?_) (fun hb => ?_) | refine partB_intro (fun hb => ?_) (fun hb => ?_) | refine And.intro ?_ ?_)
    all_goals first | exact True.intro | omega | with_reducible rfl | exact congrArg (AV.int _) (by omega)
  · rintro k ⟨hk, ht⟩
    simp only [go_sem, ↓reduceIte, Nat.reduceEqDiff, Nat.reduceBEq, Nat.reduceAdd, Nat.reduceSub, Nat.reduceLeDiff, Nat.reduceMul, Nat.reduceLT]
    refine fork_intro (fun hb => ?_) (fun hb => ?_)
    · rw [drop_ix ps (show k < ps.length by omega)] at ht
      simp only [rowOK, List.all_cons] at ht
      refine ⟨by omega, fork_intro (fun hc => ?_) (fun hc => ?_)⟩
      · have h2 : rowOK 500 (ps.drop (k + 1)) = rowOK 500 ps := by rw [rowOK, rowOK, ← ht]; simp [hc]
        repeat' (first | refine fork_intro (fun hb => ?_) (fun hb => ?_) | refine partB_intro (fun hb => ?_) (fun hb => ?_) | refine And.intro ?_ ?_)
        all_goals first | exact True.intro | omega | with_reducible rfl | exact congrArg (AV.int _) (by omega) | (refine LoopEnd.intro (k + 1) (by first | omega | (first | exact ⟨by omega, h2⟩)) (by first | omega | (dsimp only; omega)) (by omega) ?_; simp only [go_sem, ↓reduceIte, Nat.reduceEqDiff, Nat.reduceBEq, Nat.reduceAdd, Nat.reduceSub, Nat.reduceLeDiff, Nat.reduceMul, Nat.reduceLT]; (repeat' (first | refine fork_intro (fun hb => ?_) (fun hb => ?_) | refine partB_intro (fun hb => ?_) (fun hb => ?_) | refine And.intro ?_ ?_)); all_goals first | exact True.intro | omega | with_reducible rfl | exact congrArg (AV.int _) (by omega))
      · have h2 : rowOK 500 ps = false := by rw [rowOK, ← ht]; simp [hc]
        rw [pricesOK, h2]; rfl
    · rw [show k = ps.length by omega, List.drop_length] at ht
      have h2 : rowOK 500 ps = true := by rw [← ht]; rfl
      refine ⟨hf, partB_intro (fun hg => ?_) (fun hg => ?_)⟩
      · rw [pricesOK, h2, hg]; rfl
      · rw [pricesOK, h2, hg]; rfl
def t_pricesS : Table := [(107, pureC g_pricesS)]
theorem t_pricesS_ok : TabOK Tryz.prog t_pricesS := .cons Tryz.func107 (by kernel_rfl) (.pure (by intro args hp; unfold g_pricesS at hp ⊢; split at hp <;> first | exact hp.elim | exact pricesS_ok _ _ _ hp)) (.nil _)
attribute [go_sem] g_pricesS_eq t_pricesS
def g_pricesI : List AV → Prop × AV
  | [.agg [.ints o, .rows d], .ints ps] => ((o.length ≤ 1048576000 ∧ d.length ≤ 1048576000 ∧ ∀ x ∈ d, x.length ≤ 1048576000) ∧ ps.length ≤ 1048576000, .bool (pricesOK o d ps))
  | _ => (False, .undef)
theorem g_pricesI_eq (o : List Int) (d : List (List Int)) (ps : List Int) : g_pricesI [.agg [.ints o, .rows d], .ints ps] = ((o.length ≤ 1048576000 ∧ d.length ≤ 1048576000 ∧ ∀ x ∈ d, x.length ≤ 1048576000) ∧ ps.length ≤ 1048576000, .bool (pricesOK o d ps)) := (rfl)
theorem pricesI_ok (o : List Int) (d : List (List Int)) (ps : List Int) (hp : (o.length ≤ 1048576000 ∧ d.length ≤ 1048576000 ∧ ∀ x ∈ d, x.length ≤ 1048576000) ∧ ps.length ≤ 1048576000) : SpecOK Tryz.prog 105 [.agg [.ints o, .rows d], .ints ps] (.bool (pricesOK o d ps)) [] := by
  refine fun_ok (C := t_isF ++ t_areBtw) (hint := hintX [] [] 0 [] [] [] []) ((t_isF_ok).append t_areBtw_ok) mixed Tryz.func105 rfl (by kernel_rfl) rfl ?_
  show codeA _ _ _ _ _ _ _ _
  simp only [go_sem, ↓reduceIte, Nat.reduceEqDiff, Nat.reduceBEq, Nat.reduceAdd, Nat.reduceSub, Nat.reduceLeDiff, Nat.reduceMul, Nat.reduceLT, Tryz.results105]
  obtain ⟨hf, hl⟩ := hp
  refine ⟨hf, partB_intro (fun hg => fork_intro (fun h1 => ⟨hl, ?_⟩) (fun h1 => ?_)) (fun hg => ?_)⟩
  · rw [pricesOK, hg, decide_eq_true h1, Bool.and_true, Bool.and_true]; rfl
  · rw [pricesOK, hg, decide_eq_false h1, Bool.and_false, Bool.and_false]
  · rw [pricesOK, hg, Bool.false_and, Bool.and_false]
def t_pricesI : Table := [(105, pureC g_pricesI)]
theorem t_pricesI_ok : TabOK Tryz.prog t_pricesI := .cons Tryz.func105 (by kernel_rfl) (.pure (by intro args hp; unfold g_pricesI at hp ⊢; split at hp <;> first | exact hp.elim | exact pricesI_ok _ _ _ hp)) (.nil _)
attribute [go_sem] g_pricesI_eq t_pricesI
def g_claimS : List AV → Prop × AV
  | [.agg [.ints o, .rows d], .ints ps, .int .i64 a, .int .i64 u] => (ClmOK o d ps u ∧ 0 ≤ a ∧ a < o.length, .int .i64 (clm d ps u a))
  | _ => (False, .undef)
theorem g_claimS_eq (o : List Int) (d : List (List Int)) (ps : List Int) (a u : Int) : g_claimS [.agg [.ints o, .rows d], .ints ps, .int .i64 a, .int .i64 u] = (ClmOK o d ps u ∧ 0 ≤ a ∧ a < o.length, .int .i64 (clm d ps u a)) := (rfl)
theorem claimS_ok (o : List Int) (d : List (List Int)) (ps : List Int) (a u : Int) (hp : ClmOK o d ps u ∧ 0 ≤ a ∧ a < o.length) : SpecOK Tryz.prog 103 [.agg [.ints o, .rows d], .ints ps, .int .i64 a, .int .i64 u] (.int .i64 (clm d ps u a)) [] := by
  refine fun_ok (C := t_most2) (hint := hintX [] [] 0 [] [] [] []) (t_most2_ok) mixed Tryz.func103 rfl (by kernel_rfl) rfl ?_
  show codeA _ _ _ _ _ _ _ _
  simp only [go_sem, ↓reduceIte, Nat.reduceEqDiff, Nat.reduceBEq, Nat.reduceAdd, Nat.reduceSub, Nat.reduceLeDiff, Nat.reduceMul, Nat.reduceLT, Tryz.results103]
  obtain ⟨hc, h0, h1⟩ := hp
  have hl := hc.len
  have hm := hc.f.m7
  refine loop_intro (fun j : Nat => [(9, .int .i64 (sumN (clmT d ps u a) j)), (10, .int .i64 j), (1, .ints ps), (2, .int .i64 a), (3, .int .i64 u), (4, .iptr [.ints o, .rows d])]) (fun _ => []) 0 (fun j => j ≤ ps.length) (fun j => ps.length - j) 0 (Nat.zero_le _) (Nat.zero_le _) ?_ ?_
  · simp only [go_sem, ↓reduceIte, Nat.reduceEqDiff, Nat.reduceBEq, Nat.reduceAdd, Nat.reduceSub, Nat.reduceLeDiff, Nat.reduceMul, Nat.reduceLT]
    repeat' (first | refine fork_intro (fun hb => ?_) (fun hb => ?_) | refine partB_intro (fun hb => ?_) (fun hb => ?_) | refine And.intro ?_ ?_)
    all_goals first | exact True.intro | omega | with_reducible rfl | exact congrArg (AV.int _) (by omega) | (first | rfl)
  · intro j hj
    have hs := hc.s_bd h0 h1 hj
    simp only [go_sem, ↓reduceIte, Nat.reduceEqDiff, Nat.reduceBEq, Nat.reduceAdd, Nat.reduceSub, Nat.reduceLeDiff, Nat.reduceMul, Nat.reduceLT]
    refine fork_intro (fun hb => ?_) (fun hb => ?_)
    · have ht := hc.t_bd h0 h1 (j := j) (by omega)
      have hp0 := hc.p0 j (by omega)
      have hdl := hc.f.d_len (k := (j : Int)) (by omega) (by omega)
      have hn : sumN (clmT d ps u a) (j + 1) = sumN (clmT d ps u a) j + clmT d ps u a j := rfl
      have he : clmT d ps u a j = max 0 (ix ps (j : Int) - u * ix (ix d (j : Int)) a) := rfl
      repeat' (first | refine fork_intro (fun hb => ?_) (fun hb => ?_) | refine partB_intro (fun hb => ?_) (fun hb => ?_) | refine And.intro ?_ ?_)
      all_goals first | exact True.intro | omega | with_reducible rfl | exact congrArg (AV.int _) (by omega) | (refine LoopEnd.intro (j + 1) (by first | omega) (by first | omega | (dsimp only; omega)) (by omega) ?_; simp only [go_sem, ↓reduceIte, Nat.reduceEqDiff, Nat.reduceBEq, Nat.reduceAdd, Nat.reduceSub, Nat.reduceLeDiff, Nat.reduceMul, Nat.reduceLT]; (repeat' (first | refine fork_intro (fun hb => ?_) (fun hb => ?_) | refine partB_intro (fun hb => ?_) (fun hb => ?_) | refine And.intro ?_ ?_)); all_goals first | exact True.intro | omega | with_reducible rfl | exact congrArg (AV.int _) (by omega))
    · rw [show j = ps.length by omega]; rfl
def t_claimS : Table := [(103, pureC g_claimS)]
theorem t_claimS_ok : TabOK Tryz.prog t_claimS := .cons Tryz.func103 (by kernel_rfl) (.pure (by intro args hp; unfold g_claimS at hp ⊢; split at hp <;> first | exact hp.elim | exact claimS_ok _ _ _ _ _ hp)) (.nil _)
attribute [go_sem] g_claimS_eq t_claimS
def g_claimsS : List AV → Prop × AV
  | [.agg [.ints o, .rows d], .ints ps] => (ClmOK o d ps 1, .ints (clms d ps 1 o.length))
  | _ => (False, .undef)
theorem g_claimsS_eq (o : List Int) (d : List (List Int)) (ps : List Int) : g_claimsS [.agg [.ints o, .rows d], .ints ps] = (ClmOK o d ps 1, .ints (clms d ps 1 o.length)) := (rfl)
theorem claimsS_ok (o : List Int) (d : List (List Int)) (ps : List Int) (hp : ClmOK o d ps 1) : SpecOK Tryz.prog 110 [.agg [.ints o, .rows d], .ints ps] (.ints (clms d ps 1 o.length)) [] := by
  refine fun_ok (C := t_claimS) (hint := hintX [7] [] 0 [] [] [] []) (t_claimS_ok) mixed Tryz.func110 rfl (by kernel_rfl) rfl ?_
  show codeA _ _ _ _ _ _ _ _
  simp only [go_sem, ↓reduceIte, Nat.reduceEqDiff, Nat.reduceBEq, Nat.reduceAdd, Nat.reduceSub, Nat.reduceLeDiff, Nat.reduceMul, Nat.reduceLT, Tryz.results110]
  have hn := hp.f.n7
  refine loop_intro (fun a : Nat => [(5, .sl 0), (6, .int .i64 a), (1, .ints ps), (2, .iptr [.ints o, .rows d])]) (fun a => [(0, .arr (.ints (clms d ps 1 a)))]) 1 (fun a => a ≤ o.length) (fun a => o.length - a) 0 (Nat.zero_le _) (by omega) ?_ ?_
  · simp only [go_sem, ↓reduceIte, Nat.reduceEqDiff, Nat.reduceBEq, Nat.reduceAdd, Nat.reduceSub, Nat.reduceLeDiff, Nat.reduceMul, Nat.reduceLT]
    repeat' (first | refine fork_intro (fun hb => ?_) (fun hb => ?_) | refine partB_intro (fun hb => ?_) (fun hb => ?_) | refine And.intro ?_ ?_)
    all_goals first | exact True.intro | omega | with_reducible rfl | exact congrArg (AV.int _) (by omega) | (first | rfl)
  · intro a ha
    have hlen : (clms d ps 1 a).length = a := tab_len _ _
    simp only [go_sem, ↓reduceIte, Nat.reduceEqDiff, Nat.reduceBEq, Nat.reduceAdd, Nat.reduceSub, Nat.reduceLeDiff, Nat.reduceMul, Nat.reduceLT]
    refine fork_intro (fun hb => ?_) (fun hb => ?_)
    · have hs : clms d ps 1 a ++ [clm d ps 1 (a : Int)] = clms d ps 1 (a + 1) := (tab_succ _ _).symm
      refine ⟨⟨hp, by omega, by omega⟩, ?_⟩
      repeat' (first | refine fork_intro (fun hb => ?_) (fun hb => ?_) | refine partB_intro (fun hb => ?_) (fun hb => ?_) | refine And.intro ?_ ?_)
      all_goals first | exact True.intro | omega | with_reducible rfl | exact congrArg (AV.int _) (by omega) | (refine LoopEnd.intro (a + 1) (by first | omega) (by first | omega | (dsimp only; omega)) (by omega) ?_; simp only [go_sem, ↓reduceIte, Nat.reduceEqDiff, Nat.reduceBEq, Nat.reduceAdd, Nat.reduceSub, Nat.reduceLeDiff, Nat.reduceMul, Nat.reduceLT, hs]; (repeat' (first | refine fork_intro (fun hb => ?_) (fun hb => ?_) | refine partB_intro (fun hb => ?_) (fun hb => ?_) | refine And.intro ?_ ?_)); all_goals first | exact True.intro | omega | with_reducible rfl | exact congrArg (AV.int _) (by omega))
    · rw [show a = o.length by omega]
def t_claimsS : Table := [(110, pureC g_claimsS)]
theorem t_claimsS_ok : TabOK Tryz.prog t_claimsS := .cons Tryz.func110 (by kernel_rfl) (.pure (by intro args hp; unfold g_claimsS at hp ⊢; split at hp <;> first | exact hp.elim | exact claimsS_ok _ _ _ hp)) (.nil _)
attribute [go_sem] g_claimsS_eq t_claimsS
def g_fairS : List AV → Prop × AV
  | [.agg [.ints o, .rows d], .ints ps] => ((o.length ≤ 1048576000 ∧ d.length ≤ 1048576000 ∧ ∀ x ∈ d, x.length ≤ 1048576000) ∧ ps.length ≤ 1048576000, .bool (pricesOK o d ps && fairB o d ps))
  | _ => (False, .undef)
theorem g_fairS_eq (o : List Int) (d : List (List Int)) (ps : List Int) : g_fairS [.agg [.ints o, .rows d], .ints ps] = ((o.length ≤ 1048576000 ∧ d.length ≤ 1048576000 ∧ ∀ x ∈ d, x.length ≤ 1048576000) ∧ ps.length ≤ 1048576000, .bool (pricesOK o d ps && fairB o d ps)) := (rfl)
theorem fairS_ok (o : List Int) (d : List (List Int)) (ps : List Int) (hp : (o.length ≤ 1048576000 ∧ d.length ≤ 1048576000 ∧ ∀ x ∈ d, x.length ≤ 1048576000) ∧ ps.length ≤ 1048576000) : SpecOK Tryz.prog 108 [.agg [.ints o, .rows d], .ints ps] (.bool (pricesOK o d ps && fairB o d ps)) [] := by
  refine fun_ok (C := t_pricesS ++ t_claimsS) (hint := hintX [] [] 0 [] [] [] []) ((t_pricesS_ok).append t_claimsS_ok) mixed Tryz.func108 rfl (by kernel_rfl) rfl ?_
  show codeA _ _ _ _ _ _ _ _
  simp only [go_sem, ↓reduceIte, Nat.reduceEqDiff, Nat.reduceBEq, Nat.reduceAdd, Nat.reduceSub, Nat.reduceLeDiff, Nat.reduceMul, Nat.reduceLT, Tryz.results108]
  refine ⟨hp, partB_intro (fun hg => ?_) (fun hg => ?_)⟩
  · have h := pricesOK_iff hg
    have hn := h.f.n7
    have hlen : (clms d ps 1 o.length).length = o.length := tab_len _ _
    refine ⟨h.clm, ?_⟩
    refine loop_intro (fun a : Nat => [(5, .ints (clms d ps 1 o.length)), (6, .int .i64 a), (1, .ints ps), (2, .iptr [.ints o, .rows d])]) (fun a => []) 0 (fun a => a ≤ o.length ∧ ∀ j, j < a → decide (clm d ps 1 ((j : Nat) : Int) ≤ ix o (j : Int)) = true) (fun a => o.length - a) 0 ⟨Nat.zero_le _, fun j hj => absurd hj (Nat.not_lt_zero _)⟩ (by omega) ?_ ?_
    · simp only [go_sem, ↓reduceIte, Nat.reduceEqDiff, Nat.reduceBEq, Nat.reduceAdd, Nat.reduceSub, Nat.reduceLeDiff, Nat.reduceMul, Nat.reduceLT]
      repeat' (first | refine fork_intro (fun hb => ?_) (fun hb => ?_) | refine partB_intro (fun hb => ?_) (fun hb => ?_) | refine And.intro ?_ ?_)
      all_goals first | exact True.intro | omega | with_reducible rfl | exact congrArg (AV.int _) (by omega)
    · rintro a ⟨ha, ht⟩
      simp only [go_sem, ↓reduceIte, Nat.reduceEqDiff, Nat.reduceBEq, Nat.reduceAdd, Nat.reduceSub, Nat.reduceLeDiff, Nat.reduceMul, Nat.reduceLT]
      refine fork_intro (fun hb => ?_) (fun hb => ?_)
      · have e : ix (clms d ps 1 o.length) (a : Int) = clm d ps 1 (a : Int) := tab_ix (by omega)
        refine ⟨by omega, by omega, fork_intro (fun hc => ?_) (fun hc => ⟨by omega, ?_⟩)⟩
        · have : fairB o d ps = false := allN_f (k := a) (by omega) (decide_eq_false (by omega))
          rw [this, Bool.and_false]
        · have hs := below_succ (q := fun j => decide (clm d ps 1 ((j : Nat) : Int) ≤ ix o (j : Int)) = true) ht (decide_eq_true (by omega))
          repeat' (first | refine fork_intro (fun hb => ?_) (fun hb => ?_) | refine partB_intro (fun hb => ?_) (fun hb => ?_) | refine And.intro ?_ ?_)
          all_goals first | exact True.intro | omega | with_reducible rfl | exact congrArg (AV.int _) (by omega) | (refine LoopEnd.intro (a + 1) (by first | omega | (first | exact ⟨by omega, hs⟩)) (by first | omega | (dsimp only; omega)) (by omega) ?_; simp only [go_sem, ↓reduceIte, Nat.reduceEqDiff, Nat.reduceBEq, Nat.reduceAdd, Nat.reduceSub, Nat.reduceLeDiff, Nat.reduceMul, Nat.reduceLT]; (repeat' (first | refine fork_intro (fun hb => ?_) (fun hb => ?_) | refine partB_intro (fun hb => ?_) (fun hb => ?_) | refine And.intro ?_ ?_)); all_goals first | exact True.intro | omega | with_reducible rfl | exact congrArg (AV.int _) (by omega))
      · have : fairB o d ps = true := allN_t (fun k hk => ht k (by omega))
        rw [this, hg]; rfl
  · rw [hg]; rfl
def t_fairS : Table := [(108, pureC g_fairS)]
theorem t_fairS_ok : TabOK Tryz.prog t_fairS := .cons Tryz.func108 (by kernel_rfl) (.pure (by intro args hp; unfold g_fairS at hp ⊢; split at hp <;> first | exact hp.elim | exact fairS_ok _ _ _ hp)) (.nil _)
attribute [go_sem] g_fairS_eq t_fairS
def g_claimsI : List AV → Prop × AV × Heap
  | [.agg [.ints o, .rows d], .ints ps, .int .i64 u] => (ClmOK o d ps u, .sl 0, [(0, .arr (.ints (clms d ps u o.length)))])
  | _ => (False, .undef, [])
theorem g_claimsI_eq (o : List Int) (d : List (List Int)) (ps : List Int) (u : Int) : g_claimsI [.agg [.ints o, .rows d], .ints ps, .int .i64 u] = (ClmOK o d ps u, .sl 0, [(0, .arr (.ints (clms d ps u o.length)))]) := (rfl)
theorem claimsI_ok (o : List Int) (d : List (List Int)) (ps : List Int) (u : Int) (hp : ClmOK o d ps u) : SpecOK Tryz.prog 109 [.agg [.ints o, .rows d], .ints ps, .int .i64 u] (.sl 0) [(0, .arr (.ints (clms d ps u o.length)))] := by
  refine fun_ok (C := []) (hint := hintX [15] [] 0 [] [] [] []) (TabOK.nil _) mixed Tryz.func109 rfl (by kernel_rfl) rfl ?_
  show codeA _ _ _ _ _ _ _ _
  simp only [go_sem, ↓reduceIte, Nat.reduceEqDiff, Nat.reduceBEq, Nat.reduceAdd, Nat.reduceSub, Nat.reduceLeDiff, Nat.reduceMul, Nat.reduceLT, Tryz.results109]
  have hn := hp.f.n7
  have hm := hp.f.m7
  have hl := hp.len
  refine ⟨by omega, ?_⟩
  refine loop_intro (fun i : Nat => [(19, .int .i64 i), (18, .int .i64 d.length), (17, .rows d), (7, .sl 0), (1, .ints ps), (2, .int .i64 u)]) (fun i => [(0, .arr (.ints (tab o.length (fun a => sumN (clmT d ps u (a : Int)) i))))]) 1 (fun i => i ≤ d.length) (fun i => d.length - i) 0 (Nat.zero_le _) (by omega) ?_ ?_
  · have e : List.replicate o.length (0 : Int) = tab o.length (fun a => sumN (clmT d ps u (a : Int)) 0) := tab_rep _ _
    simp only [go_sem, ↓reduceIte, Nat.reduceEqDiff, Nat.reduceBEq, Nat.reduceAdd, Nat.reduceSub, Nat.reduceLeDiff, Nat.reduceMul, Nat.reduceLT]
    repeat' (first | refine fork_intro (fun hb => ?_) (fun hb => ?_) | refine partB_intro (fun hb => ?_) (fun hb => ?_) | refine And.intro ?_ ?_)
    all_goals first | exact True.intro | omega | with_reducible rfl | exact congrArg (AV.int _) (by omega) | (first | rw [← e])
  · intro i hi
    simp only [go_sem, ↓reduceIte, Nat.reduceEqDiff, Nat.reduceBEq, Nat.reduceAdd, Nat.reduceSub, Nat.reduceLeDiff, Nat.reduceMul, Nat.reduceLT]
    refine fork_intro (fun hb => ?_) (fun hb => ?_)
    · have hdl := hp.f.d_len (k := (i : Int)) (by omega) (by omega)
      refine ⟨by omega, ?_⟩
      refine loop_intro (fun k : Nat => [(26, .int .i64 k), (25, .int .i64 o.length), (24, .ints (ix d (i : Int))), (8, .int .i64 i), (19, .int .i64 i), (18, .int .i64 d.length), (17, .rows d), (7, .sl 0), (1, .ints ps), (2, .int .i64 u)]) (fun k => [(0, .arr (.ints (tab o.length (fun a => if a < k then sumN (clmT d ps u (a : Int)) (i + 1) else sumN (clmT d ps u (a : Int)) i))))]) 1 (fun k => k ≤ o.length) (fun k => o.length - k) 0 (Nat.zero_le _) (by omega) ?_ ?_
      · have e : tab o.length (fun a => sumN (clmT d ps u (a : Int)) i) = tab o.length (fun a => if a < 0 then sumN (clmT d ps u (a : Int)) (i + 1) else sumN (clmT d ps u (a : Int)) i) := tab_congr (fun k hk => by simp)
        simp only [go_sem, ↓reduceIte, Nat.reduceEqDiff, Nat.reduceBEq, Nat.reduceAdd, Nat.reduceSub, Nat.reduceLeDiff, Nat.reduceMul, Nat.reduceLT]
        repeat' (first | refine fork_intro (fun hb => ?_) (fun hb => ?_) | refine partB_intro (fun hb => ?_) (fun hb => ?_) | refine And.intro ?_ ?_)
        all_goals first | exact True.intro | omega | with_reducible rfl | exact congrArg (AV.int _) (by omega) | (first | rw [e] | rw [hdl])
      · intro k hk
        have hlen : (tab o.length (fun a => if a < k then sumN (clmT d ps u (a : Int)) (i + 1) else sumN (clmT d ps u (a : Int)) i)).length = o.length := tab_len _ _
        simp only [go_sem, ↓reduceIte, Nat.reduceEqDiff, Nat.reduceBEq, Nat.reduceAdd, Nat.reduceSub, Nat.reduceLeDiff, Nat.reduceMul, Nat.reduceLT]
        refine fork_intro (fun hc => ?_) (fun hc => ?_)
        · have hs := hp.s_bd (a := (k : Int)) (by omega) (by omega) (j := i) (by omega)
          have ht := hp.t_bd (a := (k : Int)) (by omega) (by omega) (j := i) (by omega)
          have hp0 := hp.p0 i (by omega)
          have e1 : ix (tab o.length (fun a => if a < k then sumN (clmT d ps u (a : Int)) (i + 1) else sumN (clmT d ps u (a : Int)) i)) (k : Int) = sumN (clmT d ps u (k : Int)) i := by rw [tab_ix (by omega), if_neg (by omega)]
          have he : clmT d ps u (k : Int) i = max 0 (ix ps (i : Int) - u * ix (ix d (i : Int)) (k : Int)) := rfl
          have e2 : (tab o.length (fun a => if a < k then sumN (clmT d ps u (a : Int)) (i + 1) else sumN (clmT d ps u (a : Int)) i)).set k (sumN (clmT d ps u (k : Int)) i + max 0 (ix ps (i : Int) - u * ix (ix d (i : Int)) (k : Int))) = tab o.length (fun a => if a < k + 1 then sumN (clmT d ps u (a : Int)) (i + 1) else sumN (clmT d ps u (a : Int)) i) := by
            rw [tab_set _ (by omega)]
            refine tab_congr (fun j hj => ?_)
            by_cases h1 : j = k
            · subst h1; rw [if_pos rfl, if_pos (by omega), ← he]; rfl
            · rw [if_neg h1]
              by_cases h2 : j < k
              · rw [if_pos h2, if_pos (by omega)]
              · rw [if_neg h2, if_neg (by omega)]
          rw [e1, Int.mul_comm (ix (ix d (i : Int)) (k : Int)) u]
          repeat' (first | refine fork_intro (fun hb => ?_) (fun hb => ?_) | refine partB_intro (fun hb => ?_) (fun hb => ?_) | refine And.intro ?_ ?_)
          all_goals first | exact True.intro | omega | with_reducible rfl | exact congrArg (AV.int _) (by omega) | (refine LoopEnd.intro (k + 1) (by first | omega) (by first | omega | (dsimp only; omega)) (by omega) ?_; simp only [go_sem, ↓reduceIte, Nat.reduceEqDiff, Nat.reduceBEq, Nat.reduceAdd, Nat.reduceSub, Nat.reduceLeDiff, Nat.reduceMul, Nat.reduceLT, e2]; (repeat' (first | refine fork_intro (fun hb => ?_) (fun hb => ?_) | refine partB_intro (fun hb => ?_) (fun hb => ?_) | refine And.intro ?_ ?_)); all_goals first | exact True.intro | omega | with_reducible rfl | exact congrArg (AV.int _) (by omega))
        · have e : tab o.length (fun a => if a < k then sumN (clmT d ps u (a : Int)) (i + 1) else sumN (clmT d ps u (a : Int)) i) = tab o.length (fun a => sumN (clmT d ps u (a : Int)) (i + 1)) := tab_congr (fun j hj => by rw [if_pos (by omega)])
          repeat' (first | refine fork_intro (fun hb => ?_) (fun hb => ?_) | refine partB_intro (fun hb => ?_) (fun hb => ?_) | refine And.intro ?_ ?_)
          all_goals first | exact True.intro | omega | with_reducible rfl | exact congrArg (AV.int _) (by omega) | (refine LoopEnd.intro (i + 1) (by first | omega) (by first | omega | (dsimp only; omega)) (by omega) ?_; simp only [go_sem, ↓reduceIte, Nat.reduceEqDiff, Nat.reduceBEq, Nat.reduceAdd, Nat.reduceSub, Nat.reduceLeDiff, Nat.reduceMul, Nat.reduceLT]; (repeat' (first | refine fork_intro (fun hb => ?_) (fun hb => ?_) | refine partB_intro (fun hb => ?_) (fun hb => ?_) | refine And.intro ?_ ?_)); all_goals first | exact True.intro | omega | with_reducible rfl | exact congrArg (AV.int _) (by omega) | (first | rw [e])) | (first | rw [e])
    · rw [show i = d.length by omega, ← hl]; rfl
def t_claimsI : Table := [(109, ownC g_claimsI)]
theorem t_claimsI_ok : TabOK Tryz.prog t_claimsI := .cons Tryz.func109 (by kernel_rfl) (.own (by intro args hp; unfold g_claimsI at hp ⊢; split at hp <;> first | exact hp.elim | exact ⟨claimsI_ok _ _ _ _ hp, rfl⟩)) (.nil _)
attribute [go_sem] g_claimsI_eq t_claimsI
def g_restsI : List AV → Prop × AV × Heap
  | [.agg [.ints o, .rows d], .ints ps] => (ClmOK o d ps 1, .sl 0, [(0, .arr (.ints (restsL o d ps)))])
  | _ => (False, .undef, [])
theorem g_restsI_eq (o : List Int) (d : List (List Int)) (ps : List Int) : g_restsI [.agg [.ints o, .rows d], .ints ps] = (ClmOK o d ps 1, .sl 0, [(0, .arr (.ints (restsL o d ps)))]) := (rfl)
theorem restsI_ok (o : List Int) (d : List (List Int)) (ps : List Int) (hp : ClmOK o d ps 1) : SpecOK Tryz.prog 145 [.agg [.ints o, .rows d], .ints ps] (.sl 0) [(0, .arr (.ints (restsL o d ps)))] := by
  refine fun_ok (C := t_claimsI) (hint := hintX [10] [] 0 [] [] [] []) (t_claimsI_ok) mixed Tryz.func145 rfl (by kernel_rfl) rfl ?_
  show codeA _ _ _ _ _ _ _ _
  simp only [go_sem, ↓reduceIte, Nat.reduceEqDiff, Nat.reduceBEq, Nat.reduceAdd, Nat.reduceSub, Nat.reduceLeDiff, Nat.reduceMul, Nat.reduceLT, Tryz.results145]
  have hn := hp.f.n7
  have hlen : (clms d ps 1 o.length).length = o.length := tab_len _ _
  refine ⟨hp, ?_⟩
  refine loop_intro (fun k : Nat => [(13, .int .i64 k), (12, .int .i64 o.length), (11, .sl 0), (5, .sl 0), (2, .iptr [.ints o, .rows d])]) (fun k => [(0, .arr (.ints (tab o.length (fun a => if a < k then ix o (a : Int) - clm d ps 1 (a : Int) else clm d ps 1 (a : Int)))))]) 1 (fun k => k ≤ o.length) (fun k => o.length - k) 0 (Nat.zero_le _) (by omega) ?_ ?_
  · have e : clms d ps 1 o.length = tab o.length (fun a => if a < 0 then ix o (a : Int) - clm d ps 1 (a : Int) else clm d ps 1 (a : Int)) := tab_congr (fun k hk => by simp)
    simp only [go_sem, ↓reduceIte, Nat.reduceEqDiff, Nat.reduceBEq, Nat.reduceAdd, Nat.reduceSub, Nat.reduceLeDiff, Nat.reduceMul, Nat.reduceLT]
    repeat' (first | refine fork_intro (fun hb => ?_) (fun hb => ?_) | refine partB_intro (fun hb => ?_) (fun hb => ?_) | refine And.intro ?_ ?_)
    all_goals first | exact True.intro | omega | with_reducible rfl | exact congrArg (AV.int _) (by omega) | (first | rw [e] | rw [hlen])
  · intro k hk
    have hlen2 : (tab o.length (fun a => if a < k then ix o (a : Int) - clm d ps 1 (a : Int) else clm d ps 1 (a : Int))).length = o.length := tab_len _ _
    simp only [go_sem, ↓reduceIte, Nat.reduceEqDiff, Nat.reduceBEq, Nat.reduceAdd, Nat.reduceSub, Nat.reduceLeDiff, Nat.reduceMul, Nat.reduceLT]
    refine fork_intro (fun hc => ?_) (fun hc => ?_)
    · have e1 : ix (tab o.length (fun a => if a < k then ix o (a : Int) - clm d ps 1 (a : Int) else clm d ps 1 (a : Int))) (k : Int) = clm d ps 1 (k : Int) := by rw [tab_ix (by omega), if_neg (by omega)]
      have hb := hp.bd (a := (k : Int)) (by omega) (by omega)
      have ho := hp.f.o_ix (a := (k : Int)) (by omega) (by omega)
      have e2 : (tab o.length (fun a => if a < k then ix o (a : Int) - clm d ps 1 (a : Int) else clm d ps 1 (a : Int))).set k (ix o (k : Int) - clm d ps 1 (k : Int)) = tab o.length (fun a => if a < k + 1 then ix o (a : Int) - clm d ps 1 (a : Int) else clm d ps 1 (a : Int)) := by
        rw [tab_set _ (by omega)]
        refine tab_congr (fun j hj => ?_)
        by_cases h1 : j = k
        · subst h1; rw [if_pos rfl, if_pos (by omega)]
        · rw [if_neg h1]
          by_cases h2 : j < k
          · rw [if_pos h2, if_pos (by omega)]
          · rw [if_neg h2, if_neg (by omega)]
      rw [e1]
      repeat' (first | refine fork_intro (fun hb => ?_) (fun hb => ?_) | refine partB_intro (fun hb => ?_) (fun hb => ?_) | refine And.intro ?_ ?_)
      all_goals first | exact True.intro | omega | with_reducible rfl | exact congrArg (AV.int _) (by omega) | (refine LoopEnd.intro (k + 1) (by first | omega) (by first | omega | (dsimp only; omega)) (by omega) ?_; simp only [go_sem, ↓reduceIte, Nat.reduceEqDiff, Nat.reduceBEq, Nat.reduceAdd, Nat.reduceSub, Nat.reduceLeDiff, Nat.reduceMul, Nat.reduceLT, e2]; (repeat' (first | refine fork_intro (fun hb => ?_) (fun hb => ?_) | refine partB_intro (fun hb => ?_) (fun hb => ?_) | refine And.intro ?_ ?_)); all_goals first | exact True.intro | omega | with_reducible rfl | exact congrArg (AV.int _) (by omega))
    · have e : tab o.length (fun a => if a < k then ix o (a : Int) - clm d ps 1 (a : Int) else clm d ps 1 (a : Int)) = restsL o d ps := tab_congr (fun j hj => by rw [if_pos (by omega)])
      rw [e]
def t_restsI : Table := [(145, ownC g_restsI)]
theorem t_restsI_ok : TabOK Tryz.prog t_restsI := .cons Tryz.func145 (by kernel_rfl) (.own (by intro args hp; unfold g_restsI at hp ⊢; split at hp <;> first | exact hp.elim | exact ⟨restsI_ok _ _ _ hp, rfl⟩)) (.nil _)
attribute [go_sem] g_restsI_eq t_restsI
def g_minI : List AV → Prop × AV
  | [.ints xs] => (0 < xs.length ∧ xs.length ≤ 1048576000, .int .i64 (minL xs))
  | _ => (False, .undef)
theorem g_minI_eq (xs : List Int) : g_minI [.ints xs] = (0 < xs.length ∧ xs.length ≤ 1048576000, .int .i64 (minL xs)) := (rfl)
theorem minI_ok (xs : List Int) (hp : 0 < xs.length ∧ xs.length ≤ 1048576000) : SpecOK Tryz.prog 122 [.ints xs] (.int .i64 (minL xs)) [] := by
  refine fun_ok (C := []) (hint := hintX [] [] 0 [] [] [] []) (TabOK.nil _) mixed Tryz.func122 rfl (by kernel_rfl) rfl ?_
  show codeA _ _ _ _ _ _ _ _
  simp only [go_sem, ↓reduceIte, Nat.reduceEqDiff, Nat.reduceBEq, Nat.reduceAdd, Nat.reduceSub, Nat.reduceLeDiff, Nat.reduceMul, Nat.reduceLT, Tryz.results122]
  refine fork_intro (fun h => by omega) (fun h => ?_)
  refine ⟨by omega, ?_⟩
  refine loop_intro (fun k : Nat => [(3, .int .i64 (minF ((xs.drop 1).take k) (ix xs 0))), (4, .int .i64 ((k : Int) + 1)), (0, .ints xs)]) (fun _ => []) 0 (fun k => k + 1 ≤ xs.length) (fun k => xs.length - k) 0 (by omega) (by omega) ?_ ?_
  · simp only [go_sem, ↓reduceIte, Nat.reduceEqDiff, Nat.reduceBEq, Nat.reduceAdd, Nat.reduceSub, Nat.reduceLeDiff, Nat.reduceMul, Nat.reduceLT]
    repeat' (first | refine fork_intro (fun hb => ?_) (fun hb => ?_) | refine partB_intro (fun hb => ?_) (fun hb => ?_) | refine And.intro ?_ ?_)
    all_goals first | exact True.intro | omega | with_reducible rfl | exact congrArg (AV.int _) (by omega) | (first | rfl)
  · intro k hk
    simp only [go_sem, ↓reduceIte, Nat.reduceEqDiff, Nat.reduceBEq, Nat.reduceAdd, Nat.reduceSub, Nat.reduceLeDiff, Nat.reduceMul, Nat.reduceLT]
    refine fork_intro (fun hc => ?_) (fun hc => ?_)
    · have hd : (xs.drop 1).length = xs.length - 1 := by simp
      have e := minF_take (xs.drop 1) (ix xs 0) (k := k) (by omega)
      rw [show ix (xs.drop 1) (k : Int) = ix xs ((k : Int) + 1) by simp [ix, Nat.add_comm]] at e
      repeat' (first | refine fork_intro (fun hb => ?_) (fun hb => ?_) | refine partB_intro (fun hb => ?_) (fun hb => ?_) | refine And.intro ?_ ?_)
      all_goals first | exact True.intro | omega | with_reducible rfl | exact congrArg (AV.int _) (by omega) | (refine LoopEnd.intro (k + 1) (by first | omega) (by first | omega | (dsimp only; omega)) (by omega) ?_; simp only [go_sem, ↓reduceIte, Nat.reduceEqDiff, Nat.reduceBEq, Nat.reduceAdd, Nat.reduceSub, Nat.reduceLeDiff, Nat.reduceMul, Nat.reduceLT]; (repeat' (first | refine fork_intro (fun hb => ?_) (fun hb => ?_) | refine partB_intro (fun hb => ?_) (fun hb => ?_) | refine And.intro ?_ ?_)); all_goals first | exact True.intro | omega | with_reducible rfl | exact congrArg (AV.int _) (by omega))
    · rw [minL, List.take_of_length_le (by simp; omega)]
def t_minI : Table := [(122, pureC g_minI)]
theorem t_minI_ok : TabOK Tryz.prog t_minI := .cons Tryz.func122 (by kernel_rfl) (.pure (by intro args hp; unfold g_minI at hp ⊢; split at hp <;> first | exact hp.elim | exact minI_ok _ hp)) (.nil _)
attribute [go_sem] g_minI_eq t_minI
def g_areFairI : List AV → Prop × AV
  | [.agg [.ints o, .rows d], .ints ps] => (ClmOK o d ps 1, .bool (fairB o d ps))
  | _ => (False, .undef)
theorem g_areFairI_eq (o : List Int) (d : List (List Int)) (ps : List Int) : g_areFairI [.agg [.ints o, .rows d], .ints ps] = (ClmOK o d ps 1, .bool (fairB o d ps)) := (rfl)
theorem areFairI_ok (o : List Int) (d : List (List Int)) (ps : List Int) (hp : ClmOK o d ps 1) : SpecOK Tryz.prog 106 [.agg [.ints o, .rows d], .ints ps] (.bool (fairB o d ps)) [] := by
  refine fun_ok (C := t_restsI ++ t_minI) (hint := hintX [] [] 0 [] [] [] []) ((t_restsI_ok).append t_minI_ok) mixed Tryz.func106 rfl (by kernel_rfl) rfl ?_
  show codeA _ _ _ _ _ _ _ _
  simp only [go_sem, ↓reduceIte, Nat.reduceEqDiff, Nat.reduceBEq, Nat.reduceAdd, Nat.reduceSub, Nat.reduceLeDiff, Nat.reduceMul, Nat.reduceLT, Tryz.results106]
  have hn := hp.f.n7
  have h1 := hp.f.n1
  have hlen : (restsL o d ps).length = o.length := tab_len _ _
  refine ⟨hp, by omega, ?_⟩
  rw [← fair_min (by omega)]
def t_areFairI : Table := [(106, pureC g_areFairI)]
theorem t_areFairI_ok : TabOK Tryz.prog t_areFairI := .cons Tryz.func106 (by kernel_rfl) (.pure (by intro args hp; unfold g_areFairI at hp ⊢; split at hp <;> first | exact hp.elim | exact areFairI_ok _ _ _ hp)) (.nil _)
attribute [go_sem] g_areFairI_eq t_areFairI
end Go.Proofs.YteefjdbdknkcjaaGreat
