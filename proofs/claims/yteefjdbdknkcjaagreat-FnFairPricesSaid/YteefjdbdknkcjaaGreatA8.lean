/- ClaimsOf, AreFair, TightSites: both packages say the same. -/
import Derived.Test.YteefjdbdknkcjaaGreatA7
namespace Go.Proofs.YteefjdbdknkcjaaGreat
open Go.Vc
set_option maxRecDepth 100000
set_option linter.unusedSimpArgs false
set_option linter.unusedVariables false

def g_claimsOfS : List AV → Prop × AV
  | [.agg [.ints o, .rows d], .ints ps] => ((o.length ≤ 1048576000 ∧ d.length ≤ 1048576000 ∧ ∀ x ∈ d, x.length ≤ 1048576000) ∧ ps.length ≤ 1048576000, .tup [.ints (bif pricesOK o d ps then clms d ps 1 o.length else []), .bool (pricesOK o d ps)])
  | _ => (False, .undef)
theorem g_claimsOfS_eq (o : List Int) (d : List (List Int)) (ps : List Int) : g_claimsOfS [.agg [.ints o, .rows d], .ints ps] = ((o.length ≤ 1048576000 ∧ d.length ≤ 1048576000 ∧ ∀ x ∈ d, x.length ≤ 1048576000) ∧ ps.length ≤ 1048576000, .tup [.ints (bif pricesOK o d ps then clms d ps 1 o.length else []), .bool (pricesOK o d ps)]) := (rfl)
theorem claimsOfS_ok (o : List Int) (d : List (List Int)) (ps : List Int) (hp : (o.length ≤ 1048576000 ∧ d.length ≤ 1048576000 ∧ ∀ x ∈ d, x.length ≤ 1048576000) ∧ ps.length ≤ 1048576000) : SpecOK Tryz.prog 48 [.agg [.ints o, .rows d], .ints ps] (.tup [.ints (bif pricesOK o d ps then clms d ps 1 o.length else []), .bool (pricesOK o d ps)]) [] := by
  refine fun_ok (C := t_pricesS ++ t_claimsS) (hint := hintX [] [] 0 [] [] [] []) ((t_pricesS_ok).append t_claimsS_ok) mixed Tryz.func48 rfl (by kernel_rfl) rfl ?_
  show codeA _ _ _ _ _ _ _ _
  simp only [go_sem, ↓reduceIte, Nat.reduceEqDiff, Nat.reduceBEq, Nat.reduceAdd, Nat.reduceSub, Nat.reduceLeDiff, Nat.reduceMul, Nat.reduceLT, Tryz.results48]
  refine ⟨hp, partB_intro (fun hg => ?_) (fun hg => ?_)⟩
  · rw [hg]; exact ⟨(pricesOK_iff hg).clm, rfl, rfl⟩
  · rw [hg]; first | rfl | exact ⟨rfl, rfl⟩
def t_claimsOfS : Table := [(48, pureC g_claimsOfS)]
theorem t_claimsOfS_ok : TabOK Tryz.prog t_claimsOfS := .cons Tryz.func48 (by kernel_rfl) (.pure (by intro args hp; unfold g_claimsOfS at hp ⊢; split at hp <;> first | exact hp.elim | exact claimsOfS_ok _ _ _ hp)) (.nil _)
attribute [go_sem] g_claimsOfS_eq t_claimsOfS
def g_claimsOfI : List AV → Prop × AV × Heap
  | [.agg [.ints o, .rows d], .ints ps] => ((o.length ≤ 1048576000 ∧ d.length ≤ 1048576000 ∧ ∀ x ∈ d, x.length ≤ 1048576000) ∧ ps.length ≤ 1048576000, .tup [.sl 0, .bool (pricesOK o d ps)], [(0, .arr (.ints (bif pricesOK o d ps then clms d ps 1 o.length else [])))])
  | _ => (False, .undef, [])
theorem g_claimsOfI_eq (o : List Int) (d : List (List Int)) (ps : List Int) : g_claimsOfI [.agg [.ints o, .rows d], .ints ps] = ((o.length ≤ 1048576000 ∧ d.length ≤ 1048576000 ∧ ∀ x ∈ d, x.length ≤ 1048576000) ∧ ps.length ≤ 1048576000, .tup [.sl 0, .bool (pricesOK o d ps)], [(0, .arr (.ints (bif pricesOK o d ps then clms d ps 1 o.length else [])))]) := (rfl)
theorem claimsOfI_ok (o : List Int) (d : List (List Int)) (ps : List Int) (hp : (o.length ≤ 1048576000 ∧ d.length ≤ 1048576000 ∧ ∀ x ∈ d, x.length ≤ 1048576000) ∧ ps.length ≤ 1048576000) : SpecOK Tryz.prog 47 [.agg [.ints o, .rows d], .ints ps] (.tup [.sl 0, .bool (pricesOK o d ps)]) [(0, .arr (.ints (bif pricesOK o d ps then clms d ps 1 o.length else [])))] := by
  refine fun_ok (C := t_pricesI ++ t_claimsI) (hint := hintX [12] [(2, [.post, .up 4 (.arr (.ints []))])] 0 [] [] [] []) ((t_pricesI_ok).append t_claimsI_ok) mixed Tryz.func47 rfl (by kernel_rfl) rfl ?_
  show codeA _ _ _ _ _ _ _ _
  simp only [go_sem, ↓reduceIte, Nat.reduceEqDiff, Nat.reduceBEq, Nat.reduceAdd, Nat.reduceSub, Nat.reduceLeDiff, Nat.reduceMul, Nat.reduceLT, Tryz.results47]
  refine ⟨hp, partB_intro (fun hg => ?_) (fun hg => ?_)⟩
  · rw [hg]; exact ⟨(pricesOK_iff hg).clm, rfl, rfl⟩
  · rw [hg]; first | rfl | exact ⟨rfl, rfl⟩
def t_claimsOfI : Table := [(47, ownC g_claimsOfI)]
theorem t_claimsOfI_ok : TabOK Tryz.prog t_claimsOfI := .cons Tryz.func47 (by kernel_rfl) (.own (by intro args hp; unfold g_claimsOfI at hp ⊢; split at hp <;> first | exact hp.elim | exact ⟨claimsOfI_ok _ _ _ hp, rfl⟩)) (.nil _)
attribute [go_sem] g_claimsOfI_eq t_claimsOfI
def g_areFairS : List AV → Prop × AV
  | [.agg [.ints o, .rows d], .ints ps] => ((o.length ≤ 1048576000 ∧ d.length ≤ 1048576000 ∧ ∀ x ∈ d, x.length ≤ 1048576000) ∧ ps.length ≤ 1048576000, .tup [.bool (pricesOK o d ps && fairB o d ps), .bool (pricesOK o d ps)])
  | _ => (False, .undef)
theorem g_areFairS_eq (o : List Int) (d : List (List Int)) (ps : List Int) : g_areFairS [.agg [.ints o, .rows d], .ints ps] = ((o.length ≤ 1048576000 ∧ d.length ≤ 1048576000 ∧ ∀ x ∈ d, x.length ≤ 1048576000) ∧ ps.length ≤ 1048576000, .tup [.bool (pricesOK o d ps && fairB o d ps), .bool (pricesOK o d ps)]) := (rfl)
theorem areFairS_ok (o : List Int) (d : List (List Int)) (ps : List Int) (hp : (o.length ≤ 1048576000 ∧ d.length ≤ 1048576000 ∧ ∀ x ∈ d, x.length ≤ 1048576000) ∧ ps.length ≤ 1048576000) : SpecOK Tryz.prog 46 [.agg [.ints o, .rows d], .ints ps] (.tup [.bool (pricesOK o d ps && fairB o d ps), .bool (pricesOK o d ps)]) [] := by
  refine fun_ok (C := t_pricesS ++ t_fairS) (hint := hintX [] [] 0 [] [] [] []) ((t_pricesS_ok).append t_fairS_ok) mixed Tryz.func46 rfl (by kernel_rfl) rfl ?_
  show codeA _ _ _ _ _ _ _ _
  simp only [go_sem, ↓reduceIte, Nat.reduceEqDiff, Nat.reduceBEq, Nat.reduceAdd, Nat.reduceSub, Nat.reduceLeDiff, Nat.reduceMul, Nat.reduceLT, Tryz.results46]
  refine ⟨hp, partB_intro (fun hg => ?_) (fun hg => ?_)⟩
  · rw [hg]; exact ⟨hp, by first | rfl | exact ⟨rfl, rfl⟩⟩
  · rw [hg]; first | rfl | exact ⟨rfl, rfl⟩
def t_areFairS : Table := [(46, pureC g_areFairS)]
theorem t_areFairS_ok : TabOK Tryz.prog t_areFairS := .cons Tryz.func46 (by kernel_rfl) (.pure (by intro args hp; unfold g_areFairS at hp ⊢; split at hp <;> first | exact hp.elim | exact areFairS_ok _ _ _ hp)) (.nil _)
attribute [go_sem] g_areFairS_eq t_areFairS
def g_areFairOfI : List AV → Prop × AV
  | [.agg [.ints o, .rows d], .ints ps] => ((o.length ≤ 1048576000 ∧ d.length ≤ 1048576000 ∧ ∀ x ∈ d, x.length ≤ 1048576000) ∧ ps.length ≤ 1048576000, .tup [.bool (pricesOK o d ps && fairB o d ps), .bool (pricesOK o d ps)])
  | _ => (False, .undef)
theorem g_areFairOfI_eq (o : List Int) (d : List (List Int)) (ps : List Int) : g_areFairOfI [.agg [.ints o, .rows d], .ints ps] = ((o.length ≤ 1048576000 ∧ d.length ≤ 1048576000 ∧ ∀ x ∈ d, x.length ≤ 1048576000) ∧ ps.length ≤ 1048576000, .tup [.bool (pricesOK o d ps && fairB o d ps), .bool (pricesOK o d ps)]) := (rfl)
theorem areFairOfI_ok (o : List Int) (d : List (List Int)) (ps : List Int) (hp : (o.length ≤ 1048576000 ∧ d.length ≤ 1048576000 ∧ ∀ x ∈ d, x.length ≤ 1048576000) ∧ ps.length ≤ 1048576000) : SpecOK Tryz.prog 45 [.agg [.ints o, .rows d], .ints ps] (.tup [.bool (pricesOK o d ps && fairB o d ps), .bool (pricesOK o d ps)]) [] := by
  refine fun_ok (C := t_pricesI ++ t_areFairI) (hint := hintX [] [] 0 [] [] [] []) ((t_pricesI_ok).append t_areFairI_ok) mixed Tryz.func45 rfl (by kernel_rfl) rfl ?_
  show codeA _ _ _ _ _ _ _ _
  simp only [go_sem, ↓reduceIte, Nat.reduceEqDiff, Nat.reduceBEq, Nat.reduceAdd, Nat.reduceSub, Nat.reduceLeDiff, Nat.reduceMul, Nat.reduceLT, Tryz.results45]
  refine ⟨hp, partB_intro (fun hg => ?_) (fun hg => ?_)⟩
  · rw [hg]; exact ⟨(pricesOK_iff hg).clm, rfl, rfl⟩
  · rw [hg]; first | rfl | exact ⟨rfl, rfl⟩
def t_areFairOfI : Table := [(45, pureC g_areFairOfI)]
theorem t_areFairOfI_ok : TabOK Tryz.prog t_areFairOfI := .cons Tryz.func45 (by kernel_rfl) (.pure (by intro args hp; unfold g_areFairOfI at hp ⊢; split at hp <;> first | exact hp.elim | exact areFairOfI_ok _ _ _ hp)) (.nil _)
attribute [go_sem] g_areFairOfI_eq t_areFairOfI
def g_tightS : List AV → Prop × AV
  | [.agg [.ints o, .rows d], .ints ps] => ((o.length ≤ 1048576000 ∧ d.length ≤ 1048576000 ∧ ∀ x ∈ d, x.length ≤ 1048576000) ∧ ps.length ≤ 1048576000, .tup [.ints (bif pricesOK o d ps then tightL o d ps else []), .bool (pricesOK o d ps)])
  | _ => (False, .undef)
theorem g_tightS_eq (o : List Int) (d : List (List Int)) (ps : List Int) : g_tightS [.agg [.ints o, .rows d], .ints ps] = ((o.length ≤ 1048576000 ∧ d.length ≤ 1048576000 ∧ ∀ x ∈ d, x.length ≤ 1048576000) ∧ ps.length ≤ 1048576000, .tup [.ints (bif pricesOK o d ps then tightL o d ps else []), .bool (pricesOK o d ps)]) := (rfl)
theorem tightS_ok (o : List Int) (d : List (List Int)) (ps : List Int) (hp : (o.length ≤ 1048576000 ∧ d.length ≤ 1048576000 ∧ ∀ x ∈ d, x.length ≤ 1048576000) ∧ ps.length ≤ 1048576000) : SpecOK Tryz.prog 50 [.agg [.ints o, .rows d], .ints ps] (.tup [.ints (bif pricesOK o d ps then tightL o d ps else []), .bool (pricesOK o d ps)]) [] := by
  refine fun_ok (C := t_pricesS ++ t_claimsS) (hint := hintX [9] [] 0 [] [] [] []) ((t_pricesS_ok).append t_claimsS_ok) mixed Tryz.func50 rfl (by kernel_rfl) rfl ?_
  show codeA _ _ _ _ _ _ _ _
  simp only [go_sem, ↓reduceIte, Nat.reduceEqDiff, Nat.reduceBEq, Nat.reduceAdd, Nat.reduceSub, Nat.reduceLeDiff, Nat.reduceMul, Nat.reduceLT, Tryz.results50]
  refine ⟨hp, partB_intro (fun hg => ?_) (fun hg => ?_)⟩
  · have h := pricesOK_iff hg
    have hn := h.f.n7
    have hlen : (clms d ps 1 o.length).length = o.length := tab_len _ _
    refine ⟨h.clm, ?_⟩
    refine loop_intro (fun a : Nat => [(6, .sl 0), (7, .ints (clms d ps 1 o.length)), (8, .int .i64 a), (2, .iptr [.ints o, .rows d])]) (fun a => [(0, .arr (.ints (sel (fun a => decide (clm d ps 1 (a : Int) = ix o (a : Int))) a)))]) 1 (fun a => a ≤ o.length) (fun a => o.length - a) 0 (Nat.zero_le _) (by omega) ?_ ?_
    · simp only [go_sem, ↓reduceIte, Nat.reduceEqDiff, Nat.reduceBEq, Nat.reduceAdd, Nat.reduceSub, Nat.reduceLeDiff, Nat.reduceMul, Nat.reduceLT]
      repeat' (first | refine fork_intro (fun hb => ?_) (fun hb => ?_) | refine partB_intro (fun hb => ?_) (fun hb => ?_) | refine And.intro ?_ ?_)
      all_goals first | exact True.intro | omega | with_reducible rfl | exact congrArg (AV.int _) (by omega) | (first | rfl)
    · intro a ha
      have hsl := sel_len (fun a => decide (clm d ps 1 (a : Int) = ix o (a : Int))) a
      simp only [go_sem, ↓reduceIte, Nat.reduceEqDiff, Nat.reduceBEq, Nat.reduceAdd, Nat.reduceSub, Nat.reduceLeDiff, Nat.reduceMul, Nat.reduceLT]
      refine fork_intro (fun hb => ?_) (fun hb => ?_)
      · have e : ix (clms d ps 1 o.length) (a : Int) = clm d ps 1 (a : Int) := tab_ix (by omega)
        refine ⟨by omega, by omega, fork_intro (fun hc => ?_) (fun hc => ?_)⟩
        · have hs := sel_t (p := fun a => decide (clm d ps 1 (a : Int) = ix o (a : Int))) (n := a) (decide_eq_true (by omega))
          repeat' (first | refine fork_intro (fun hb => ?_) (fun hb => ?_) | refine partB_intro (fun hb => ?_) (fun hb => ?_) | refine And.intro ?_ ?_)
          all_goals first | exact True.intro | omega | with_reducible rfl | exact congrArg (AV.int _) (by omega) | (refine LoopEnd.intro (a + 1) (by first | omega) (by first | omega | (dsimp only; omega)) (by omega) ?_; simp only [go_sem, ↓reduceIte, Nat.reduceEqDiff, Nat.reduceBEq, Nat.reduceAdd, Nat.reduceSub, Nat.reduceLeDiff, Nat.reduceMul, Nat.reduceLT]; (repeat' (first | refine fork_intro (fun hb => ?_) (fun hb => ?_) | refine partB_intro (fun hb => ?_) (fun hb => ?_) | refine And.intro ?_ ?_)); all_goals first | exact True.intro | omega | with_reducible rfl | exact congrArg (AV.int _) (by omega) | (first | rw [hs])) | (first | rw [hs])
        · have hs := sel_f (p := fun a => decide (clm d ps 1 (a : Int) = ix o (a : Int))) (n := a) (decide_eq_false (by omega))
          repeat' (first | refine fork_intro (fun hb => ?_) (fun hb => ?_) | refine partB_intro (fun hb => ?_) (fun hb => ?_) | refine And.intro ?_ ?_)
          all_goals first | exact True.intro | omega | with_reducible rfl | exact congrArg (AV.int _) (by omega) | (refine LoopEnd.intro (a + 1) (by first | omega) (by first | omega | (dsimp only; omega)) (by omega) ?_; simp only [go_sem, ↓reduceIte, Nat.reduceEqDiff, Nat.reduceBEq, Nat.reduceAdd, Nat.reduceSub, Nat.reduceLeDiff, Nat.reduceMul, Nat.reduceLT]; (repeat' (first | refine fork_intro (fun hb => ?_) (fun hb => ?_) | refine partB_intro (fun hb => ?_) (fun hb => ?_) | refine And.intro ?_ ?_)); all_goals first | exact True.intro | omega | with_reducible rfl | exact congrArg (AV.int _) (by omega) | (first | rw [hs])) | (first | rw [hs])
      · rw [hg, show a = o.length by omega]; exact ⟨rfl, rfl⟩
  · rw [hg]; first | rfl | exact ⟨rfl, rfl⟩
def t_tightS : Table := [(50, pureC g_tightS)]
theorem t_tightS_ok : TabOK Tryz.prog t_tightS := .cons Tryz.func50 (by kernel_rfl) (.pure (by intro args hp; unfold g_tightS at hp ⊢; split at hp <;> first | exact hp.elim | exact tightS_ok _ _ _ hp)) (.nil _)
attribute [go_sem] g_tightS_eq t_tightS
def g_tightI : List AV → Prop × AV × Heap
  | [.agg [.ints o, .rows d], .ints ps] => (ClmOK o d ps 1, .sl 0, [(0, .arr (.ints (tightL o d ps)))])
  | _ => (False, .undef, [])
theorem g_tightI_eq (o : List Int) (d : List (List Int)) (ps : List Int) : g_tightI [.agg [.ints o, .rows d], .ints ps] = (ClmOK o d ps 1, .sl 0, [(0, .arr (.ints (tightL o d ps)))]) := (rfl)
theorem tightI_ok (o : List Int) (d : List (List Int)) (ps : List Int) (hp : ClmOK o d ps 1) : SpecOK Tryz.prog 101 [.agg [.ints o, .rows d], .ints ps] (.sl 0) [(0, .arr (.ints (tightL o d ps)))] := by
  refine fun_ok (C := t_restsI) (hint := hintX [8] [] 0 [] [] [] []) (t_restsI_ok) mixed Tryz.func101 rfl (by kernel_rfl) rfl ?_
  show codeA _ _ _ _ _ _ _ _
  simp only [go_sem, ↓reduceIte, Nat.reduceEqDiff, Nat.reduceBEq, Nat.reduceAdd, Nat.reduceSub, Nat.reduceLeDiff, Nat.reduceMul, Nat.reduceLT, Tryz.results101]
  have hn := hp.f.n7
  have hlen : (restsL o d ps).length = o.length := tab_len _ _
  refine ⟨hp, ?_⟩
  refine loop_intro (fun a : Nat => [(5, .sl 0), (11, .ints (restsL o d ps)), (12, .int .i64 o.length), (13, .int .i64 a)]) (fun a => [(0, .arr (.ints (sel (fun a => decide (clm d ps 1 (a : Int) = ix o (a : Int))) a)))]) 1 (fun a => a ≤ o.length) (fun a => o.length - a) 0 (Nat.zero_le _) (by omega) ?_ ?_
  · simp only [go_sem, ↓reduceIte, Nat.reduceEqDiff, Nat.reduceBEq, Nat.reduceAdd, Nat.reduceSub, Nat.reduceLeDiff, Nat.reduceMul, Nat.reduceLT]
    repeat' (first | refine fork_intro (fun hb => ?_) (fun hb => ?_) | refine partB_intro (fun hb => ?_) (fun hb => ?_) | refine And.intro ?_ ?_)
    all_goals first | exact True.intro | omega | with_reducible rfl | exact congrArg (AV.int _) (by omega) | (first | rfl | rw [hlen])
  · intro a ha
    have hsl := sel_len (fun a => decide (clm d ps 1 (a : Int) = ix o (a : Int))) a
    simp only [go_sem, ↓reduceIte, Nat.reduceEqDiff, Nat.reduceBEq, Nat.reduceAdd, Nat.reduceSub, Nat.reduceLeDiff, Nat.reduceMul, Nat.reduceLT]
    refine fork_intro (fun hb => ?_) (fun hb => ?_)
    · have e : ix (restsL o d ps) (a : Int) = ix o (a : Int) - clm d ps 1 (a : Int) := tab_ix (by omega)
      refine ⟨by omega, fork_intro (fun hc => ?_) (fun hc => ?_)⟩
      · have hs := sel_t (p := fun a => decide (clm d ps 1 (a : Int) = ix o (a : Int))) (n := a) (decide_eq_true (by omega))
        repeat' (first | refine fork_intro (fun hb => ?_) (fun hb => ?_) | refine partB_intro (fun hb => ?_) (fun hb => ?_) | refine And.intro ?_ ?_)
        all_goals first | exact True.intro | omega | with_reducible rfl | exact congrArg (AV.int _) (by omega) | (refine LoopEnd.intro (a + 1) (by first | omega) (by first | omega | (dsimp only; omega)) (by omega) ?_; simp only [go_sem, ↓reduceIte, Nat.reduceEqDiff, Nat.reduceBEq, Nat.reduceAdd, Nat.reduceSub, Nat.reduceLeDiff, Nat.reduceMul, Nat.reduceLT]; (repeat' (first | refine fork_intro (fun hb => ?_) (fun hb => ?_) | refine partB_intro (fun hb => ?_) (fun hb => ?_) | refine And.intro ?_ ?_)); all_goals first | exact True.intro | omega | with_reducible rfl | exact congrArg (AV.int _) (by omega) | (first | rw [hs])) | (first | rw [hs])
      · have hs := sel_f (p := fun a => decide (clm d ps 1 (a : Int) = ix o (a : Int))) (n := a) (decide_eq_false (by omega))
        repeat' (first | refine fork_intro (fun hb => ?_) (fun hb => ?_) | refine partB_intro (fun hb => ?_) (fun hb => ?_) | refine And.intro ?_ ?_)
        all_goals first | exact True.intro | omega | with_reducible rfl | exact congrArg (AV.int _) (by omega) | (refine LoopEnd.intro (a + 1) (by first | omega) (by first | omega | (dsimp only; omega)) (by omega) ?_; simp only [go_sem, ↓reduceIte, Nat.reduceEqDiff, Nat.reduceBEq, Nat.reduceAdd, Nat.reduceSub, Nat.reduceLeDiff, Nat.reduceMul, Nat.reduceLT]; (repeat' (first | refine fork_intro (fun hb => ?_) (fun hb => ?_) | refine partB_intro (fun hb => ?_) (fun hb => ?_) | refine And.intro ?_ ?_)); all_goals first | exact True.intro | omega | with_reducible rfl | exact congrArg (AV.int _) (by omega) | (first | rw [hs])) | (first | rw [hs])
    · rw [show a = o.length by omega]; rfl
def t_tightI : Table := [(101, ownC g_tightI)]
theorem t_tightI_ok : TabOK Tryz.prog t_tightI := .cons Tryz.func101 (by kernel_rfl) (.own (by intro args hp; unfold g_tightI at hp ⊢; split at hp <;> first | exact hp.elim | exact ⟨tightI_ok _ _ _ hp, rfl⟩)) (.nil _)
attribute [go_sem] g_tightI_eq t_tightI
def g_tightOfI : List AV → Prop × AV × Heap
  | [.agg [.ints o, .rows d], .ints ps] => ((o.length ≤ 1048576000 ∧ d.length ≤ 1048576000 ∧ ∀ x ∈ d, x.length ≤ 1048576000) ∧ ps.length ≤ 1048576000, .tup [.sl 0, .bool (pricesOK o d ps)], [(0, .arr (.ints (bif pricesOK o d ps then tightL o d ps else [])))])
  | _ => (False, .undef, [])
theorem g_tightOfI_eq (o : List Int) (d : List (List Int)) (ps : List Int) : g_tightOfI [.agg [.ints o, .rows d], .ints ps] = ((o.length ≤ 1048576000 ∧ d.length ≤ 1048576000 ∧ ∀ x ∈ d, x.length ≤ 1048576000) ∧ ps.length ≤ 1048576000, .tup [.sl 0, .bool (pricesOK o d ps)], [(0, .arr (.ints (bif pricesOK o d ps then tightL o d ps else [])))]) := (rfl)
theorem tightOfI_ok (o : List Int) (d : List (List Int)) (ps : List Int) (hp : (o.length ≤ 1048576000 ∧ d.length ≤ 1048576000 ∧ ∀ x ∈ d, x.length ≤ 1048576000) ∧ ps.length ≤ 1048576000) : SpecOK Tryz.prog 49 [.agg [.ints o, .rows d], .ints ps] (.tup [.sl 0, .bool (pricesOK o d ps)]) [(0, .arr (.ints (bif pricesOK o d ps then tightL o d ps else [])))] := by
  refine fun_ok (C := t_pricesI ++ t_tightI) (hint := hintX [12] [(2, [.post, .up 4 (.arr (.ints []))])] 0 [] [] [] []) ((t_pricesI_ok).append t_tightI_ok) mixed Tryz.func49 rfl (by kernel_rfl) rfl ?_
  show codeA _ _ _ _ _ _ _ _
  simp only [go_sem, ↓reduceIte, Nat.reduceEqDiff, Nat.reduceBEq, Nat.reduceAdd, Nat.reduceSub, Nat.reduceLeDiff, Nat.reduceMul, Nat.reduceLT, Tryz.results49]
  refine ⟨hp, partB_intro (fun hg => ?_) (fun hg => ?_)⟩
  · rw [hg]; exact ⟨(pricesOK_iff hg).clm, rfl, rfl⟩
  · rw [hg]; first | rfl | exact ⟨rfl, rfl⟩
def t_tightOfI : Table := [(49, ownC g_tightOfI)]
theorem t_tightOfI_ok : TabOK Tryz.prog t_tightOfI := .cons Tryz.func49 (by kernel_rfl) (.own (by intro args hp; unfold g_tightOfI at hp ⊢; split at hp <;> first | exact hp.elim | exact ⟨tightOfI_ok _ _ _ hp, rfl⟩)) (.nil _)
attribute [go_sem] g_tightOfI_eq t_tightOfI
end Go.Proofs.YteefjdbdknkcjaaGreat
