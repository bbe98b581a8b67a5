/- Price gaps, medians by swaps and by closing: both packages say the same. -/
import Derived.Test.YteefjdbdknkcjaaGreatA19
import Derived.Test.YteefjdbdknkcjaaGreatPlE
import Derived.Test.YteefjdbdknkcjaaGreatA13
namespace Go.Proofs.YteefjdbdknkcjaaGreat
open Go.Vc
set_option maxRecDepth 100000
set_option linter.unusedSimpArgs false
set_option linter.unusedVariables false

def g_gapS : List AV → Prop × AV
  | [.agg [.ints o, .rows d], .ints ps, .ints set] => ((o.length ≤ 1048576000 ∧ d.length ≤ 1048576000 ∧ ∀ x ∈ d, x.length ≤ 1048576000) ∧ ps.length ≤ 1048576000 ∧ set.length ≤ 1048576000, .tup [.int .i64 (bif fairOK o d ps && opened o d set then total o d set - ps.sum else 0), .bool (fairOK o d ps && opened o d set)])
  | _ => (False, .undef)
theorem g_gapS_eq (o : List Int) (d : List (List Int)) (ps set : List Int) : g_gapS [.agg [.ints o, .rows d], .ints ps, .ints set] = ((o.length ≤ 1048576000 ∧ d.length ≤ 1048576000 ∧ ∀ x ∈ d, x.length ≤ 1048576000) ∧ ps.length ≤ 1048576000 ∧ set.length ≤ 1048576000, .tup [.int .i64 (bif fairOK o d ps && opened o d set then total o d set - ps.sum else 0), .bool (fairOK o d ps && opened o d set)]) := (rfl)
theorem gapS_ok (o : List Int) (d : List (List Int)) (ps set : List Int) (hp : (o.length ≤ 1048576000 ∧ d.length ≤ 1048576000 ∧ ∀ x ∈ d, x.length ≤ 1048576000) ∧ ps.length ≤ 1048576000 ∧ set.length ≤ 1048576000) : SpecOK Tryz.prog 42 [.agg [.ints o, .rows d], .ints ps, .ints set] (.tup [.int .i64 (bif fairOK o d ps && opened o d set then total o d set - ps.sum else 0), .bool (fairOK o d ps && opened o d set)]) [] := by
  refine fun_ok (C := t_bothS ++ t_totalS ++ t_sumS) (hint := hintX [] [] 0 [] [] [] []) (((t_bothS_ok).append t_totalS_ok).append t_sumS_ok) mixed Tryz.func42 rfl (by kernel_rfl) rfl ?_
  show codeA _ _ _ _ _ _ _ _
  simp only [go_sem, ↓reduceIte, Nat.reduceEqDiff, Nat.reduceBEq, Nat.reduceAdd, Nat.reduceSub, Nat.reduceLeDiff, Nat.reduceMul, Nat.reduceLT, Tryz.results42]
  refine ⟨hp, partB_intro (fun hg => ?_) (fun hg => ?_)⟩
  · rw [hg]
    simp only [Bool.and_eq_true] at hg
    have hf := fairOK_iff hg.1
    have h := opened_iff hp.2.2 hg.2
    obtain ⟨hs1, hs2⟩ := prices_sum hf
    have b1 := h.svc_bd
    have b2 := h.pay.bd (Nat.le_refl _)
    rw [List.take_length] at b2
    have e : total o d set = pay o set + svc d set := rfl
    repeat' (first | refine fork_intro (fun hb => ?_) (fun hb => ?_) | refine partB_intro (fun hb => ?_) (fun hb => ?_) | refine And.intro ?_ ?_)
    all_goals first | exact True.intro | omega | with_reducible rfl | exact congrArg (AV.int _) (by omega) | (first | exact h | exact hs1.2 | rfl)
  · rw [hg]
    repeat' (first | refine fork_intro (fun hb => ?_) (fun hb => ?_) | refine partB_intro (fun hb => ?_) (fun hb => ?_) | refine And.intro ?_ ?_)
    all_goals first | exact True.intro | omega | with_reducible rfl | exact congrArg (AV.int _) (by omega) | (first | rfl)
def t_gapS : Table := [(42, pureC g_gapS)]
theorem t_gapS_ok : TabOK Tryz.prog t_gapS := .cons Tryz.func42 (by kernel_rfl) (.pure (by intro args hp; unfold g_gapS at hp ⊢; split at hp <;> first | exact hp.elim | exact gapS_ok _ _ _ _ hp)) (.nil _)
attribute [go_sem] g_gapS_eq t_gapS
def g_gapI : List AV → Prop × AV
  | [.agg [.ints o, .rows d], .ints ps, .ints set] => ((o.length ≤ 1048576000 ∧ d.length ≤ 1048576000 ∧ ∀ x ∈ d, x.length ≤ 1048576000) ∧ ps.length ≤ 1048576000 ∧ set.length ≤ 1048576000, .tup [.int .i64 (bif fairOK o d ps && opened o d set then total o d set - ps.sum else 0), .bool (fairOK o d ps && opened o d set)])
  | _ => (False, .undef)
theorem g_gapI_eq (o : List Int) (d : List (List Int)) (ps set : List Int) : g_gapI [.agg [.ints o, .rows d], .ints ps, .ints set] = ((o.length ≤ 1048576000 ∧ d.length ≤ 1048576000 ∧ ∀ x ∈ d, x.length ≤ 1048576000) ∧ ps.length ≤ 1048576000 ∧ set.length ≤ 1048576000, .tup [.int .i64 (bif fairOK o d ps && opened o d set then total o d set - ps.sum else 0), .bool (fairOK o d ps && opened o d set)]) := (rfl)
theorem gapI_ok (o : List Int) (d : List (List Int)) (ps set : List Int) (hp : (o.length ≤ 1048576000 ∧ d.length ≤ 1048576000 ∧ ∀ x ∈ d, x.length ≤ 1048576000) ∧ ps.length ≤ 1048576000 ∧ set.length ≤ 1048576000) : SpecOK Tryz.prog 41 [.agg [.ints o, .rows d], .ints ps, .ints set] (.tup [.int .i64 (bif fairOK o d ps && opened o d set then total o d set - ps.sum else 0), .bool (fairOK o d ps && opened o d set)]) [] := by
  refine fun_ok (C := t_isFairI ++ t_isSetI ++ t_totalI ++ t_sumI) (hint := hintX [] [] 0 [] [] [] []) ((((t_isFairI_ok).append t_isSetI_ok).append t_totalI_ok).append t_sumI_ok) mixed Tryz.func41 rfl (by kernel_rfl) rfl ?_
  show codeA _ _ _ _ _ _ _ _
  simp only [go_sem, ↓reduceIte, Nat.reduceEqDiff, Nat.reduceBEq, Nat.reduceAdd, Nat.reduceSub, Nat.reduceLeDiff, Nat.reduceMul, Nat.reduceLT, Tryz.results41]
  refine ⟨⟨hp.1, hp.2.1⟩, partB_intro (fun hg => ⟨by omega, partB_intro (fun hr => ?_) (fun hr => ?_)⟩) (fun hg => ?_)⟩
  · have hf := fairOK_iff hg
    have ho : opened o d set = true := by rw [opened, good_iff.2 hf.f, hr]; rfl
    rw [hg, ho]
    have h := opened_iff hp.2.2 ho
    obtain ⟨hs1, hs2⟩ := prices_sum hf
    have b1 := h.svc_bd
    have b2 := h.pay.bd (Nat.le_refl _)
    rw [List.take_length] at b2
    have e : total o d set = pay o set + svc d set := rfl
    have hx : ps.length ≤ 1000000 ∧ ∀ x ∈ ps, -1000000000 ≤ x ∧ x ≤ 1000000000 := hs1
    simp only [Bool.and_true, cond_true]
    repeat' (first | refine fork_intro (fun hb => ?_) (fun hb => ?_) | refine partB_intro (fun hb => ?_) (fun hb => ?_) | refine And.intro ?_ ?_)
    all_goals first | exact True.intro | omega | with_reducible rfl | exact congrArg (AV.int _) (by omega) | (first | exact h | exact hs1 | exact hs1.2 | rfl)
  · have ho : opened o d set = false := by rw [opened, hr, Bool.and_false]
    rw [hg, ho]
    repeat' (first | refine fork_intro (fun hb => ?_) (fun hb => ?_) | refine partB_intro (fun hb => ?_) (fun hb => ?_) | refine And.intro ?_ ?_)
    all_goals first | exact True.intro | omega | with_reducible rfl | exact congrArg (AV.int _) (by omega) | (first | rfl)
  · rw [hg]
    repeat' (first | refine fork_intro (fun hb => ?_) (fun hb => ?_) | refine partB_intro (fun hb => ?_) (fun hb => ?_) | refine And.intro ?_ ?_)
    all_goals first | exact True.intro | omega | with_reducible rfl | exact congrArg (AV.int _) (by omega) | (first | rfl)
def t_gapI : Table := [(41, pureC g_gapI)]
theorem t_gapI_ok : TabOK Tryz.prog t_gapI := .cons Tryz.func41 (by kernel_rfl) (.pure (by intro args hp; unfold g_gapI at hp ⊢; split at hp <;> first | exact hp.elim | exact gapI_ok _ _ _ _ hp)) (.nil _)
attribute [go_sem] g_gapI_eq t_gapI
end Go.Proofs.YteefjdbdknkcjaaGreat
