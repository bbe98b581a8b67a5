/- RestCosts, ClosedSites: both packages say the same. -/
import Derived.Test.YteefjdbdknkcjaaA7
import Derived.Test.YteefjdbdknkcjaaA9
namespace Go.Proofs.Yteefjdbdknkcjaa
open Go.Vc
set_option maxRecDepth 100000
set_option linter.unusedSimpArgs false
set_option linter.unusedVariables false

def fairOK (o : List Int) (d : List (List Int)) (ps : List Int) : Bool := pricesOK o d ps && fairB o d ps
theorem fairOK_iff {o : List Int} {d : List (List Int)} {ps : List Int} (h : fairOK o d ps = true) : PricesOK o d ps := by
  simp only [fairOK, Bool.and_eq_true] at h
  exact pricesOK_iff h.1
def sumP (o : List Int) (d : List (List Int)) (ps : List Int) : Prop := ps.length ≤ 1000000 ∧ ∀ x ∈ ps, -1000000000 ≤ x ∧ x ≤ 1000000000
theorem prices_sum {o : List Int} {d : List (List Int)} {ps : List Int} (h : PricesOK o d ps) : (ps.length ≤ 1000000 ∧ ∀ x ∈ ps, -1000000000 ≤ x ∧ x ≤ 1000000000) ∧ 0 ≤ ps.sum ∧ ps.sum ≤ 3500 := by
  have hm := h.f.m7
  have hl := h.len
  refine ⟨⟨by omega, fun x hx => ?_⟩, ?_⟩
  · obtain ⟨k, hk, rfl⟩ := mem_ix hx
    have := h.p0 k hk; omega
  · have e : ps.sum = sumN (fun k => ix ps (k : Int)) ps.length := by rw [← sum_tab, tab_of]
    have := sumN_bd (f := fun k => ix ps (k : Int)) (lo := 0) (hi := 500) (n := ps.length) (fun i hi => h.p0 i hi)
    omega
def closedOK (o : List Int) (d : List (List Int)) (ps : List Int) (v : Int) : Bool := fairOK o d ps && decide (0 ≤ v ∧ v ≤ 1400)
def closedL (o : List Int) (d : List (List Int)) (ps : List Int) (v : Int) : List Int := sel (fun a => decide (v < ps.sum + (ix o (a : Int) - clm d ps 1 (a : Int)))) o.length

def g_sumS : List AV → Prop × AV
  | [.ints xs] => (xs.length ≤ 1000000 ∧ ∀ x ∈ xs, -1000000000 ≤ x ∧ x ≤ 1000000000, .int .i64 xs.sum)
  | _ => (False, .undef)
theorem g_sumS_eq (xs : List Int) : g_sumS [.ints xs] = (xs.length ≤ 1000000 ∧ ∀ x ∈ xs, -1000000000 ≤ x ∧ x ≤ 1000000000, .int .i64 xs.sum) := (rfl)
theorem sumS_ok (xs : List Int) (hp : xs.length ≤ 1000000 ∧ ∀ x ∈ xs, -1000000000 ≤ x ∧ x ≤ 1000000000) : SpecOK Try.prog 74 [.ints xs] (.int .i64 xs.sum) [] := by
  refine fun_ok (C := []) (hint := hintX [] [] 0 [] [] [] []) (TabOK.nil _) mixed Try.func74 rfl (by kernel_rfl) rfl ?_
  show codeA _ _ _ _ _ _ _ _
  simp only [go_sem, ↓reduceIte, Nat.reduceEqDiff, Nat.reduceBEq, Nat.reduceAdd, Nat.reduceSub, Nat.reduceLeDiff, Nat.reduceMul, Nat.reduceLT, Try.results74]
  obtain ⟨hl, hx⟩ := hp
  refine loop_intro (fun k : Nat => [(3, .int .i64 (xs.take k).sum), (4, .int .i64 k), (0, .ints xs)]) (fun _ => []) 0 (fun k => k ≤ xs.length ∧ -1000000000 * (k : Int) ≤ (xs.take k).sum ∧ (xs.take k).sum ≤ 1000000000 * (k : Int)) (fun k => xs.length - k) 0 (by simp) (by omega) ?_ ?_
  · simp only [go_sem, ↓reduceIte, Nat.reduceEqDiff, Nat.reduceBEq, Nat.reduceAdd, Nat.reduceSub, Nat.reduceLeDiff, Nat.reduceMul, Nat.reduceLT]
    repeat' (first | refine fork_intro (fun hb => ?_) (fun hb => ?_) | refine partB_intro (fun hb => ?_) (fun hb => ?_) | refine And.intro ?_ ?_)
    all_goals first | exact True.intro | omega | with_reducible rfl | exact congrArg (AV.int _) (by omega) | (first | rfl)
  · rintro k ⟨hk, h1, h2⟩
    simp only [go_sem, ↓reduceIte, Nat.reduceEqDiff, Nat.reduceBEq, Nat.reduceAdd, Nat.reduceSub, Nat.reduceLeDiff, Nat.reduceMul, Nat.reduceLT]
    refine fork_intro (fun hc => ?_) (fun hc => ?_)
    · have e := sum_take xs (k := k) (by omega)
      have hb := hx _ (ix_mem xs (k := k) (by omega))
      repeat' (first | refine fork_intro (fun hb => ?_) (fun hb => ?_) | refine partB_intro (fun hb => ?_) (fun hb => ?_) | refine And.intro ?_ ?_)
      all_goals first | exact True.intro | omega | with_reducible rfl | exact congrArg (AV.int _) (by omega) | (refine LoopEnd.intro (k + 1) (by first | omega) (by first | omega | (dsimp only; omega)) (by omega) ?_; simp only [go_sem, ↓reduceIte, Nat.reduceEqDiff, Nat.reduceBEq, Nat.reduceAdd, Nat.reduceSub, Nat.reduceLeDiff, Nat.reduceMul, Nat.reduceLT]; (repeat' (first | refine fork_intro (fun hb => ?_) (fun hb => ?_) | refine partB_intro (fun hb => ?_) (fun hb => ?_) | refine And.intro ?_ ?_)); all_goals first | exact True.intro | omega | with_reducible rfl | exact congrArg (AV.int _) (by omega))
    · rw [show k = xs.length by omega, List.take_length]
def t_sumS : Table := [(74, pureC g_sumS)]
theorem t_sumS_ok : TabOK Try.prog t_sumS := .cons Try.func74 (by kernel_rfl) (.pure (by intro args hp; unfold g_sumS at hp ⊢; split at hp <;> first | exact hp.elim | exact sumS_ok _ hp)) (.nil _)
attribute [go_sem] g_sumS_eq t_sumS
def g_isFairI : List AV → Prop × AV
  | [.agg [.ints o, .rows d], .ints ps] => ((o.length ≤ 1048576000 ∧ d.length ≤ 1048576000 ∧ ∀ x ∈ d, x.length ≤ 1048576000) ∧ ps.length ≤ 1048576000, .bool (fairOK o d ps))
  | _ => (False, .undef)
theorem g_isFairI_eq (o : List Int) (d : List (List Int)) (ps : List Int) : g_isFairI [.agg [.ints o, .rows d], .ints ps] = ((o.length ≤ 1048576000 ∧ d.length ≤ 1048576000 ∧ ∀ x ∈ d, x.length ≤ 1048576000) ∧ ps.length ≤ 1048576000, .bool (fairOK o d ps)) := (rfl)
theorem isFairI_ok (o : List Int) (d : List (List Int)) (ps : List Int) (hp : (o.length ≤ 1048576000 ∧ d.length ≤ 1048576000 ∧ ∀ x ∈ d, x.length ≤ 1048576000) ∧ ps.length ≤ 1048576000) : SpecOK Try.prog 70 [.agg [.ints o, .rows d], .ints ps] (.bool (fairOK o d ps)) [] := by
  refine fun_ok (C := t_pricesI ++ t_areFairI) (hint := hintX [] [] 0 [] [] [] []) ((t_pricesI_ok).append t_areFairI_ok) mixed Try.func70 rfl (by kernel_rfl) rfl ?_
  show codeA _ _ _ _ _ _ _ _
  simp only [go_sem, ↓reduceIte, Nat.reduceEqDiff, Nat.reduceBEq, Nat.reduceAdd, Nat.reduceSub, Nat.reduceLeDiff, Nat.reduceMul, Nat.reduceLT, Try.results70]
  refine ⟨hp, partB_intro (fun hg => ?_) (fun hg => ?_)⟩
  · rw [fairOK, hg]; exact ⟨(pricesOK_iff hg).clm, rfl⟩
  · rw [fairOK, hg]; rfl
def t_isFairI : Table := [(70, pureC g_isFairI)]
theorem t_isFairI_ok : TabOK Try.prog t_isFairI := .cons Try.func70 (by kernel_rfl) (.pure (by intro args hp; unfold g_isFairI at hp ⊢; split at hp <;> first | exact hp.elim | exact isFairI_ok _ _ _ hp)) (.nil _)
attribute [go_sem] g_isFairI_eq t_isFairI
def g_restCostsS : List AV → Prop × AV
  | [.agg [.ints o, .rows d], .ints ps] => ((o.length ≤ 1048576000 ∧ d.length ≤ 1048576000 ∧ ∀ x ∈ d, x.length ≤ 1048576000) ∧ ps.length ≤ 1048576000, .tup [.ints (bif fairOK o d ps then restsL o d ps else []), .bool (fairOK o d ps)])
  | _ => (False, .undef)
theorem g_restCostsS_eq (o : List Int) (d : List (List Int)) (ps : List Int) : g_restCostsS [.agg [.ints o, .rows d], .ints ps] = ((o.length ≤ 1048576000 ∧ d.length ≤ 1048576000 ∧ ∀ x ∈ d, x.length ≤ 1048576000) ∧ ps.length ≤ 1048576000, .tup [.ints (bif fairOK o d ps then restsL o d ps else []), .bool (fairOK o d ps)]) := (rfl)
theorem restCostsS_ok (o : List Int) (d : List (List Int)) (ps : List Int) (hp : (o.length ≤ 1048576000 ∧ d.length ≤ 1048576000 ∧ ∀ x ∈ d, x.length ≤ 1048576000) ∧ ps.length ≤ 1048576000) : SpecOK Try.prog 34 [.agg [.ints o, .rows d], .ints ps] (.tup [.ints (bif fairOK o d ps then restsL o d ps else []), .bool (fairOK o d ps)]) [] := by
  refine fun_ok (C := t_fairS ++ t_claimS) (hint := hintX [8] [] 0 [] [] [] []) ((t_fairS_ok).append t_claimS_ok) mixed Try.func34 rfl (by kernel_rfl) rfl ?_
  show codeA _ _ _ _ _ _ _ _
  simp only [go_sem, ↓reduceIte, Nat.reduceEqDiff, Nat.reduceBEq, Nat.reduceAdd, Nat.reduceSub, Nat.reduceLeDiff, Nat.reduceMul, Nat.reduceLT, Try.results34]
  have hfo : (pricesOK o d ps && fairB o d ps) = fairOK o d ps := rfl
  rw [hfo]
  refine ⟨hp, partB_intro (fun hg => ?_) (fun hg => ?_)⟩
  · have h := fairOK_iff hg
    have hn := h.f.n7
    refine loop_intro (fun a : Nat => [(6, .sl 0), (7, .int .i64 a), (1, .ints ps), (2, .iptr [.ints o, .rows d])]) (fun a => [(0, .arr (.ints (tab a fun a => ix o (a : Int) - clm d ps 1 (a : Int))))]) 1 (fun a => a ≤ o.length) (fun a => o.length - a) 0 (Nat.zero_le _) (by omega) ?_ ?_
    · simp only [go_sem, ↓reduceIte, Nat.reduceEqDiff, Nat.reduceBEq, Nat.reduceAdd, Nat.reduceSub, Nat.reduceLeDiff, Nat.reduceMul, Nat.reduceLT]
      repeat' (first | refine fork_intro (fun hb => ?_) (fun hb => ?_) | refine partB_intro (fun hb => ?_) (fun hb => ?_) | refine And.intro ?_ ?_)
      all_goals first | exact True.intro | omega | with_reducible rfl | exact congrArg (AV.int _) (by omega) | (first | rfl)
    · intro a ha
      have hlen : (tab a fun a => ix o (a : Int) - clm d ps 1 (a : Int)).length = a := tab_len _ _
      simp only [go_sem, ↓reduceIte, Nat.reduceEqDiff, Nat.reduceBEq, Nat.reduceAdd, Nat.reduceSub, Nat.reduceLeDiff, Nat.reduceMul, Nat.reduceLT]
      refine fork_intro (fun hb => ?_) (fun hb => ?_)
      · have hs := tab_succ a (fun a => ix o (a : Int) - clm d ps 1 (a : Int))
        have ho := h.f.o_ix (a := (a : Int)) (by omega) (by omega)
        have hc := h.clm.bd (a := (a : Int)) (by omega) (by omega)
        have h' := h.clm
        repeat' (first | refine fork_intro (fun hb => ?_) (fun hb => ?_) | refine partB_intro (fun hb => ?_) (fun hb => ?_) | refine And.intro ?_ ?_)
        all_goals first | exact True.intro | omega | with_reducible rfl | exact congrArg (AV.int _) (by omega) | (refine LoopEnd.intro (a + 1) (by first | omega) (by first | omega | (dsimp only; omega)) (by omega) ?_; simp only [go_sem, ↓reduceIte, Nat.reduceEqDiff, Nat.reduceBEq, Nat.reduceAdd, Nat.reduceSub, Nat.reduceLeDiff, Nat.reduceMul, Nat.reduceLT]; (repeat' (first | refine fork_intro (fun hb => ?_) (fun hb => ?_) | refine partB_intro (fun hb => ?_) (fun hb => ?_) | refine And.intro ?_ ?_)); all_goals first | exact True.intro | omega | with_reducible rfl | exact congrArg (AV.int _) (by omega) | (first | exact h' | (rw [hs]))) | (first | exact h' | (rw [hs]))
      · rw [hg, show a = o.length by omega]; exact ⟨rfl, rfl⟩
  · rw [hg]; first | rfl | exact ⟨rfl, rfl⟩
def t_restCostsS : Table := [(34, pureC g_restCostsS)]
theorem t_restCostsS_ok : TabOK Try.prog t_restCostsS := .cons Try.func34 (by kernel_rfl) (.pure (by intro args hp; unfold g_restCostsS at hp ⊢; split at hp <;> first | exact hp.elim | exact restCostsS_ok _ _ _ hp)) (.nil _)
attribute [go_sem] g_restCostsS_eq t_restCostsS
def g_restCostsI : List AV → Prop × AV × Heap
  | [.agg [.ints o, .rows d], .ints ps] => ((o.length ≤ 1048576000 ∧ d.length ≤ 1048576000 ∧ ∀ x ∈ d, x.length ≤ 1048576000) ∧ ps.length ≤ 1048576000, .tup [.sl 0, .bool (fairOK o d ps)], [(0, .arr (.ints (bif fairOK o d ps then restsL o d ps else [])))])
  | _ => (False, .undef, [])
theorem g_restCostsI_eq (o : List Int) (d : List (List Int)) (ps : List Int) : g_restCostsI [.agg [.ints o, .rows d], .ints ps] = ((o.length ≤ 1048576000 ∧ d.length ≤ 1048576000 ∧ ∀ x ∈ d, x.length ≤ 1048576000) ∧ ps.length ≤ 1048576000, .tup [.sl 0, .bool (fairOK o d ps)], [(0, .arr (.ints (bif fairOK o d ps then restsL o d ps else [])))]) := (rfl)
theorem restCostsI_ok (o : List Int) (d : List (List Int)) (ps : List Int) (hp : (o.length ≤ 1048576000 ∧ d.length ≤ 1048576000 ∧ ∀ x ∈ d, x.length ≤ 1048576000) ∧ ps.length ≤ 1048576000) : SpecOK Try.prog 33 [.agg [.ints o, .rows d], .ints ps] (.tup [.sl 0, .bool (fairOK o d ps)]) [(0, .arr (.ints (bif fairOK o d ps then restsL o d ps else [])))] := by
  refine fun_ok (C := t_isFairI ++ t_restsI) (hint := hintX [12] [(2, [.post, .up 4 (.arr (.ints []))])] 0 [] [] [] []) ((t_isFairI_ok).append t_restsI_ok) mixed Try.func33 rfl (by kernel_rfl) rfl ?_
  show codeA _ _ _ _ _ _ _ _
  simp only [go_sem, ↓reduceIte, Nat.reduceEqDiff, Nat.reduceBEq, Nat.reduceAdd, Nat.reduceSub, Nat.reduceLeDiff, Nat.reduceMul, Nat.reduceLT, Try.results33]
  refine ⟨hp, partB_intro (fun hg => ?_) (fun hg => ?_)⟩
  · rw [hg]; exact ⟨(fairOK_iff hg).clm, rfl, rfl⟩
  · rw [hg]; first | rfl | exact ⟨rfl, rfl⟩
def t_restCostsI : Table := [(33, ownC g_restCostsI)]
theorem t_restCostsI_ok : TabOK Try.prog t_restCostsI := .cons Try.func33 (by kernel_rfl) (.own (by intro args hp; unfold g_restCostsI at hp ⊢; split at hp <;> first | exact hp.elim | exact ⟨restCostsI_ok _ _ _ hp, rfl⟩)) (.nil _)
attribute [go_sem] g_restCostsI_eq t_restCostsI
def g_closedS : List AV → Prop × AV
  | [.agg [.ints o, .rows d], .ints ps, .int .i64 v] => ((o.length ≤ 1048576000 ∧ d.length ≤ 1048576000 ∧ ∀ x ∈ d, x.length ≤ 1048576000) ∧ ps.length ≤ 1048576000, .tup [.ints (bif closedOK o d ps v then closedL o d ps v else []), .bool (closedOK o d ps v)])
  | _ => (False, .undef)
theorem g_closedS_eq (o : List Int) (d : List (List Int)) (ps : List Int) (v : Int) : g_closedS [.agg [.ints o, .rows d], .ints ps, .int .i64 v] = ((o.length ≤ 1048576000 ∧ d.length ≤ 1048576000 ∧ ∀ x ∈ d, x.length ≤ 1048576000) ∧ ps.length ≤ 1048576000, .tup [.ints (bif closedOK o d ps v then closedL o d ps v else []), .bool (closedOK o d ps v)]) := (rfl)
theorem closedS_ok (o : List Int) (d : List (List Int)) (ps : List Int) (v : Int) (hp : (o.length ≤ 1048576000 ∧ d.length ≤ 1048576000 ∧ ∀ x ∈ d, x.length ≤ 1048576000) ∧ ps.length ≤ 1048576000) : SpecOK Try.prog 32 [.agg [.ints o, .rows d], .ints ps, .int .i64 v] (.tup [.ints (bif closedOK o d ps v then closedL o d ps v else []), .bool (closedOK o d ps v)]) [] := by
  refine fun_ok (C := t_restCostsS ++ t_l1In ++ t_sumS) (hint := hintX [12] [] 0 [] [] [] []) (((t_restCostsS_ok).append t_l1In_ok).append t_sumS_ok) mixed Try.func32 rfl (by kernel_rfl) rfl ?_
  show codeA _ _ _ _ _ _ _ _
  simp only [go_sem, ↓reduceIte, Nat.reduceEqDiff, Nat.reduceBEq, Nat.reduceAdd, Nat.reduceSub, Nat.reduceLeDiff, Nat.reduceMul, Nat.reduceLT, Try.results32]
  refine ⟨hp, partB_intro (fun hg => fork_intro (fun hv => ?_) (fun hv => ?_)) (fun hg => ?_)⟩
  · have h := fairOK_iff hg
    have hn := h.f.n7
    have hok : closedOK o d ps v = true := by rw [closedOK, hg, decide_eq_true hv]; rfl
    have hlen : (restsL o d ps).length = o.length := tab_len _ _
    obtain ⟨hs1, hs2⟩ := prices_sum h
    rw [hg]
    refine loop_intro (fun a : Nat => [(8, .sl 0), (9, .ints (restsL o d ps)), (11, .int .i64 a), (1, .ints ps), (2, .int .i64 v)]) (fun a => [(0, .arr (.ints (sel (fun a => decide (v < ps.sum + (ix o (a : Int) - clm d ps 1 (a : Int)))) a)))]) 1 (fun a => a ≤ o.length) (fun a => o.length - a) 0 (Nat.zero_le _) (by omega) ?_ ?_
    · simp only [go_sem, ↓reduceIte, Nat.reduceEqDiff, Nat.reduceBEq, Nat.reduceAdd, Nat.reduceSub, Nat.reduceLeDiff, Nat.reduceMul, Nat.reduceLT]
      repeat' (first | refine fork_intro (fun hb => ?_) (fun hb => ?_) | refine partB_intro (fun hb => ?_) (fun hb => ?_) | refine And.intro ?_ ?_)
      all_goals first | exact True.intro | omega | with_reducible rfl | exact congrArg (AV.int _) (by omega) | (first | rfl)
    · intro a ha
      have hsl := sel_len (fun a => decide (v < ps.sum + (ix o (a : Int) - clm d ps 1 (a : Int)))) a
      simp only [go_sem, ↓reduceIte, Nat.reduceEqDiff, Nat.reduceBEq, Nat.reduceAdd, Nat.reduceSub, Nat.reduceLeDiff, Nat.reduceMul, Nat.reduceLT]
      refine fork_intro (fun hb => ?_) (fun hb => ?_)
      · have e : ix (restsL o d ps) (a : Int) = ix o (a : Int) - clm d ps 1 (a : Int) := tab_ix (by omega)
        have ho := h.f.o_ix (a := (a : Int)) (by omega) (by omega)
        have hc := h.clm.bd (a := (a : Int)) (by omega) (by omega)
        refine ⟨hs1, by omega, by omega, fork_intro (fun hd => ?_) (fun hd => ?_)⟩
        · have hs := sel_t (p := fun a => decide (v < ps.sum + (ix o (a : Int) - clm d ps 1 (a : Int)))) (n := a) (decide_eq_true (by omega))
          repeat' (first | refine fork_intro (fun hb => ?_) (fun hb => ?_) | refine partB_intro (fun hb => ?_) (fun hb => ?_) | refine And.intro ?_ ?_)
          all_goals first | exact True.intro | omega | with_reducible rfl | exact congrArg (AV.int _) (by omega) | (refine LoopEnd.intro (a + 1) (by first | omega) (by first | omega | (dsimp only; omega)) (by omega) ?_; simp only [go_sem, ↓reduceIte, Nat.reduceEqDiff, Nat.reduceBEq, Nat.reduceAdd, Nat.reduceSub, Nat.reduceLeDiff, Nat.reduceMul, Nat.reduceLT]; (repeat' (first | refine fork_intro (fun hb => ?_) (fun hb => ?_) | refine partB_intro (fun hb => ?_) (fun hb => ?_) | refine And.intro ?_ ?_)); all_goals first | exact True.intro | omega | with_reducible rfl | exact congrArg (AV.int _) (by omega) | (first | rw [hs])) | (first | rw [hs])
        · have hs := sel_f (p := fun a => decide (v < ps.sum + (ix o (a : Int) - clm d ps 1 (a : Int)))) (n := a) (decide_eq_false (by omega))
          repeat' (first | refine fork_intro (fun hb => ?_) (fun hb => ?_) | refine partB_intro (fun hb => ?_) (fun hb => ?_) | refine And.intro ?_ ?_)
          all_goals first | exact True.intro | omega | with_reducible rfl | exact congrArg (AV.int _) (by omega) | (refine LoopEnd.intro (a + 1) (by first | omega) (by first | omega | (dsimp only; omega)) (by omega) ?_; simp only [go_sem, ↓reduceIte, Nat.reduceEqDiff, Nat.reduceBEq, Nat.reduceAdd, Nat.reduceSub, Nat.reduceLeDiff, Nat.reduceMul, Nat.reduceLT]; (repeat' (first | refine fork_intro (fun hb => ?_) (fun hb => ?_) | refine partB_intro (fun hb => ?_) (fun hb => ?_) | refine And.intro ?_ ?_)); all_goals first | exact True.intro | omega | with_reducible rfl | exact congrArg (AV.int _) (by omega) | (first | rw [hs])) | (first | rw [hs])
      · rw [hok, show a = o.length by omega]; exact ⟨rfl, rfl⟩
  · rw [show closedOK o d ps v = false by rw [closedOK, decide_eq_false hv, Bool.and_false]]; exact ⟨rfl, rfl⟩
  · rw [show closedOK o d ps v = false by rw [closedOK, hg, Bool.false_and]]; exact ⟨rfl, rfl⟩
def t_closedS : Table := [(32, pureC g_closedS)]
theorem t_closedS_ok : TabOK Try.prog t_closedS := .cons Try.func32 (by kernel_rfl) (.pure (by intro args hp; unfold g_closedS at hp ⊢; split at hp <;> first | exact hp.elim | exact closedS_ok _ _ _ _ hp)) (.nil _)
attribute [go_sem] g_closedS_eq t_closedS
def g_closedI : List AV → Prop × AV × Heap
  | [.agg [.ints o, .rows d], .ints ps, .int .i64 v] => ((o.length ≤ 1048576000 ∧ d.length ≤ 1048576000 ∧ ∀ x ∈ d, x.length ≤ 1048576000) ∧ ps.length ≤ 1048576000, .tup [.sl 0, .bool (closedOK o d ps v)], [(0, .arr (.ints (bif closedOK o d ps v then closedL o d ps v else [])))])
  | _ => (False, .undef, [])
theorem g_closedI_eq (o : List Int) (d : List (List Int)) (ps : List Int) (v : Int) : g_closedI [.agg [.ints o, .rows d], .ints ps, .int .i64 v] = ((o.length ≤ 1048576000 ∧ d.length ≤ 1048576000 ∧ ∀ x ∈ d, x.length ≤ 1048576000) ∧ ps.length ≤ 1048576000, .tup [.sl 0, .bool (closedOK o d ps v)], [(0, .arr (.ints (bif closedOK o d ps v then closedL o d ps v else [])))]) := (rfl)
theorem closedI_ok (o : List Int) (d : List (List Int)) (ps : List Int) (v : Int) (hp : (o.length ≤ 1048576000 ∧ d.length ≤ 1048576000 ∧ ∀ x ∈ d, x.length ≤ 1048576000) ∧ ps.length ≤ 1048576000) : SpecOK Try.prog 31 [.agg [.ints o, .rows d], .ints ps, .int .i64 v] (.tup [.sl 0, .bool (closedOK o d ps v)]) [(0, .arr (.ints (bif closedOK o d ps v then closedL o d ps v else [])))] := by
  refine fun_ok (C := t_isFairI ++ t_between ++ t_restsI ++ t_sumI) (hint := hintX [20] [(2, [.post, .up 6 (.arr (.ints []))])] 0 [] [] [] []) ((((t_isFairI_ok).append t_between_ok).append t_restsI_ok).append t_sumI_ok) mixed Try.func31 rfl (by kernel_rfl) rfl ?_
  show codeA _ _ _ _ _ _ _ _
  simp only [go_sem, ↓reduceIte, Nat.reduceEqDiff, Nat.reduceBEq, Nat.reduceAdd, Nat.reduceSub, Nat.reduceLeDiff, Nat.reduceMul, Nat.reduceLT, Try.results31]
  refine ⟨hp, partB_intro (fun hg => fork_intro (fun hv => ?_) (fun hv => ?_)) (fun hg => ?_)⟩
  · have h := fairOK_iff hg
    have hn := h.f.n7
    have hok : closedOK o d ps v = true := by rw [closedOK, hg, decide_eq_true hv]; rfl
    have hlen : (restsL o d ps).length = o.length := tab_len _ _
    obtain ⟨hs1, hs2⟩ := prices_sum h
    refine ⟨h.clm, ?_⟩
    refine loop_intro (fun a : Nat => [(8, .sl 0), (23, .ints (restsL o d ps)), (24, .int .i64 o.length), (25, .int .i64 a), (1, .ints ps), (2, .int .i64 v)]) (fun a => [(0, .arr (.ints (sel (fun a => decide (v < ps.sum + (ix o (a : Int) - clm d ps 1 (a : Int)))) a)))]) 1 (fun a => a ≤ o.length) (fun a => o.length - a) 0 (Nat.zero_le _) (by omega) ?_ ?_
    · simp only [go_sem, ↓reduceIte, Nat.reduceEqDiff, Nat.reduceBEq, Nat.reduceAdd, Nat.reduceSub, Nat.reduceLeDiff, Nat.reduceMul, Nat.reduceLT]
      repeat' (first | refine fork_intro (fun hb => ?_) (fun hb => ?_) | refine partB_intro (fun hb => ?_) (fun hb => ?_) | refine And.intro ?_ ?_)
      all_goals first | exact True.intro | omega | with_reducible rfl | exact congrArg (AV.int _) (by omega) | (first | rfl | rw [hlen])
    · intro a ha
      have hsl := sel_len (fun a => decide (v < ps.sum + (ix o (a : Int) - clm d ps 1 (a : Int)))) a
      simp only [go_sem, ↓reduceIte, Nat.reduceEqDiff, Nat.reduceBEq, Nat.reduceAdd, Nat.reduceSub, Nat.reduceLeDiff, Nat.reduceMul, Nat.reduceLT]
      refine fork_intro (fun hb => ?_) (fun hb => ?_)
      · have e : ix (restsL o d ps) (a : Int) = ix o (a : Int) - clm d ps 1 (a : Int) := tab_ix (by omega)
        have ho := h.f.o_ix (a := (a : Int)) (by omega) (by omega)
        have hc := h.clm.bd (a := (a : Int)) (by omega) (by omega)
        refine ⟨by omega, hs1, by omega, fork_intro (fun hd => ?_) (fun hd => ?_)⟩
        · have hs := sel_t (p := fun a => decide (v < ps.sum + (ix o (a : Int) - clm d ps 1 (a : Int)))) (n := a) (decide_eq_true (by omega))
          repeat' (first | refine fork_intro (fun hb => ?_) (fun hb => ?_) | refine partB_intro (fun hb => ?_) (fun hb => ?_) | refine And.intro ?_ ?_)
          all_goals first | exact True.intro | omega | with_reducible rfl | exact congrArg (AV.int _) (by omega) | (refine LoopEnd.intro (a + 1) (by first | omega) (by first | omega | (dsimp only; omega)) (by omega) ?_; simp only [go_sem, ↓reduceIte, Nat.reduceEqDiff, Nat.reduceBEq, Nat.reduceAdd, Nat.reduceSub, Nat.reduceLeDiff, Nat.reduceMul, Nat.reduceLT]; (repeat' (first | refine fork_intro (fun hb => ?_) (fun hb => ?_) | refine partB_intro (fun hb => ?_) (fun hb => ?_) | refine And.intro ?_ ?_)); all_goals first | exact True.intro | omega | with_reducible rfl | exact congrArg (AV.int _) (by omega) | (first | rw [hs])) | (first | rw [hs])
        · have hs := sel_f (p := fun a => decide (v < ps.sum + (ix o (a : Int) - clm d ps 1 (a : Int)))) (n := a) (decide_eq_false (by omega))
          repeat' (first | refine fork_intro (fun hb => ?_) (fun hb => ?_) | refine partB_intro (fun hb => ?_) (fun hb => ?_) | refine And.intro ?_ ?_)
          all_goals first | exact True.intro | omega | with_reducible rfl | exact congrArg (AV.int _) (by omega) | (refine LoopEnd.intro (a + 1) (by first | omega) (by first | omega | (dsimp only; omega)) (by omega) ?_; simp only [go_sem, ↓reduceIte, Nat.reduceEqDiff, Nat.reduceBEq, Nat.reduceAdd, Nat.reduceSub, Nat.reduceLeDiff, Nat.reduceMul, Nat.reduceLT]; (repeat' (first | refine fork_intro (fun hb => ?_) (fun hb => ?_) | refine partB_intro (fun hb => ?_) (fun hb => ?_) | refine And.intro ?_ ?_)); all_goals first | exact True.intro | omega | with_reducible rfl | exact congrArg (AV.int _) (by omega) | (first | rw [hs])) | (first | rw [hs])
      · rw [hok, show a = o.length by omega]; exact ⟨rfl, rfl⟩
  · rw [show closedOK o d ps v = false by rw [closedOK, decide_eq_false hv, Bool.and_false]]; first | rfl | exact ⟨rfl, rfl⟩
  · rw [show closedOK o d ps v = false by rw [closedOK, hg, Bool.false_and]]; first | rfl | exact ⟨rfl, rfl⟩
def t_closedI : Table := [(31, ownC g_closedI)]
theorem t_closedI_ok : TabOK Try.prog t_closedI := .cons Try.func31 (by kernel_rfl) (.own (by intro args hp; unfold g_closedI at hp ⊢; split at hp <;> first | exact hp.elim | exact ⟨closedI_ok _ _ _ _ hp, rfl⟩)) (.nil _)
attribute [go_sem] g_closedI_eq t_closedI
end Go.Proofs.Yteefjdbdknkcjaa
