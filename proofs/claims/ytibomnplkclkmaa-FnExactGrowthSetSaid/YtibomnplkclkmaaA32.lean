/- What growth says: prices, times, witnesses. -/
import Derived.Test.YtibomnplkclkmaaA29
import Derived.Test.YtibomnplkclkmaaA31
import Derived.Test.YtibomnplkclkmaaA3
namespace Go.Proofs.Ytibomnplkclkmaa
open Go.Vc
set_option maxRecDepth 100000
set_option linter.unusedSimpArgs false
set_option linter.unusedVariables false

def g_growthPricesS : List AV → Prop × AV
  | [.agg [.ints o, .rows d]] => (o.length ≤ 1048576000 ∧ d.length ≤ 1048576000 ∧ ∀ x ∈ d, x.length ≤ 1048576000, .tup [.ints (bif good o d then (grown o d).p else []), .bool (good o d)])
  | _ => (False, .undef)
theorem g_growthPricesS_eq (o : List Int) (d : List (List Int)) : g_growthPricesS [.agg [.ints o, .rows d]] = (o.length ≤ 1048576000 ∧ d.length ≤ 1048576000 ∧ ∀ x ∈ d, x.length ≤ 1048576000, .tup [.ints (bif good o d then (grown o d).p else []), .bool (good o d)]) := (rfl)
theorem growthPricesS_ok (o : List Int) (d : List (List Int)) (hp : o.length ≤ 1048576000 ∧ d.length ≤ 1048576000 ∧ ∀ x ∈ d, x.length ≤ 1048576000) : SpecOK Try.prog 29 [.agg [.ints o, .rows d]] (.tup [.ints (bif good o d then (grown o d).p else []), .bool (good o d)]) [] := by
  refine fun_ok (C := t_l2Good ++ t_growS) (hint := hintX [] [] 0 [] [] [] []) ((t_l2Good_ok).append t_growS_ok) mixed Try.func29 rfl (by kernel_rfl) rfl ?_
  show codeA _ _ _ _ _ _ _ _
  simp only [go_sem, ↓reduceIte, Nat.reduceEqDiff, Nat.reduceBEq, Nat.reduceAdd, Nat.reduceSub, Nat.reduceLeDiff, Nat.reduceMul, Nat.reduceLT, Try.results29]
  refine ⟨hp, partB_intro (fun hg => ?_) (fun hg => ?_)⟩
  · rw [hg]
    have hf := good_iff.1 hg
    have e := grown_stW hf
    repeat' (first | refine fork_intro (fun hb => ?_) (fun hb => ?_) | refine partB_intro (fun hb => ?_) (fun hb => ?_) | refine And.intro ?_ ?_)
    all_goals first | exact True.intro | omega | with_reducible rfl | exact congrArg (AV.int _) (by omega) | (first | exact hf | rfl | (rw [e]; rfl))
  · rw [hg]
    repeat' (first | refine fork_intro (fun hb => ?_) (fun hb => ?_) | refine partB_intro (fun hb => ?_) (fun hb => ?_) | refine And.intro ?_ ?_)
    all_goals first | exact True.intro | omega | with_reducible rfl | exact congrArg (AV.int _) (by omega) | (first | rfl)
def t_growthPricesS : Table := [(29, pureC g_growthPricesS)]
theorem t_growthPricesS_ok : TabOK Try.prog t_growthPricesS := .cons Try.func29 (by kernel_rfl) (.pure (by intro args hp; unfold g_growthPricesS at hp ⊢; split at hp <;> first | exact hp.elim | exact growthPricesS_ok _ _ hp)) (.nil _)
attribute [go_sem] g_growthPricesS_eq t_growthPricesS
def g_growthPricesI : List AV → Prop × AV × Heap
  | [.agg [.ints o, .rows d]] => (o.length ≤ 1048576000 ∧ d.length ≤ 1048576000 ∧ ∀ x ∈ d, x.length ≤ 1048576000, .tup [.sl 0, .bool (good o d)], [(0, .arr (.ints (bif good o d then (grown o d).p else [])))])
  | _ => (False, .undef, [])
theorem g_growthPricesI_eq (o : List Int) (d : List (List Int)) : g_growthPricesI [.agg [.ints o, .rows d]] = (o.length ≤ 1048576000 ∧ d.length ≤ 1048576000 ∧ ∀ x ∈ d, x.length ≤ 1048576000, .tup [.sl 0, .bool (good o d)], [(0, .arr (.ints (bif good o d then (grown o d).p else [])))]) := (rfl)
theorem growthPricesI_ok (o : List Int) (d : List (List Int)) (hp : o.length ≤ 1048576000 ∧ d.length ≤ 1048576000 ∧ ∀ x ∈ d, x.length ≤ 1048576000) : SpecOK Try.prog 30 [.agg [.ints o, .rows d]] (.tup [.sl 0, .bool (good o d)]) [(0, .arr (.ints (bif good o d then (grown o d).p else [])))] := by
  refine fun_ok (C := t_isF ++ t_growI) (hint := hintX [8] [(2, [.post, .up 2 (.arr (.ints []))]), (3, [.post, .ren 2 0])] 0 [] [] [] []) ((t_isF_ok).append t_growI_ok) mixed Try.func30 rfl (by kernel_rfl) rfl ?_
  show codeA _ _ _ _ _ _ _ _
  simp only [go_sem, ↓reduceIte, Nat.reduceEqDiff, Nat.reduceBEq, Nat.reduceAdd, Nat.reduceSub, Nat.reduceLeDiff, Nat.reduceMul, Nat.reduceLT, Try.results30]
  refine ⟨hp, partB_intro (fun hg => ?_) (fun hg => ?_)⟩
  · rw [hg]
    have hf := good_iff.1 hg
    repeat' (first | refine fork_intro (fun hb => ?_) (fun hb => ?_) | refine partB_intro (fun hb => ?_) (fun hb => ?_) | refine And.intro ?_ ?_)
    all_goals first | exact True.intro | omega | with_reducible rfl | exact congrArg (AV.int _) (by omega) | (first | exact hf | rfl)
  · rw [hg]
    repeat' (first | refine fork_intro (fun hb => ?_) (fun hb => ?_) | refine partB_intro (fun hb => ?_) (fun hb => ?_) | refine And.intro ?_ ?_)
    all_goals first | exact True.intro | omega | with_reducible rfl | exact congrArg (AV.int _) (by omega) | (first | rfl)
def t_growthPricesI : Table := [(30, ownC g_growthPricesI)]
theorem t_growthPricesI_ok : TabOK Try.prog t_growthPricesI := .cons Try.func30 (by kernel_rfl) (.own (by intro args hp; unfold g_growthPricesI at hp ⊢; split at hp <;> first | exact hp.elim | exact ⟨growthPricesI_ok _ _ hp, rfl⟩)) (.nil _)
attribute [go_sem] g_growthPricesI_eq t_growthPricesI
def g_tightTimesS : List AV → Prop × AV
  | [.agg [.ints o, .rows d]] => (o.length ≤ 1048576000 ∧ d.length ≤ 1048576000 ∧ ∀ x ∈ d, x.length ≤ 1048576000, .tup [.ints (bif good o d then (grown o d).t else []), .bool (good o d)])
  | _ => (False, .undef)
theorem g_tightTimesS_eq (o : List Int) (d : List (List Int)) : g_tightTimesS [.agg [.ints o, .rows d]] = (o.length ≤ 1048576000 ∧ d.length ≤ 1048576000 ∧ ∀ x ∈ d, x.length ≤ 1048576000, .tup [.ints (bif good o d then (grown o d).t else []), .bool (good o d)]) := (rfl)
theorem tightTimesS_ok (o : List Int) (d : List (List Int)) (hp : o.length ≤ 1048576000 ∧ d.length ≤ 1048576000 ∧ ∀ x ∈ d, x.length ≤ 1048576000) : SpecOK Try.prog 31 [.agg [.ints o, .rows d]] (.tup [.ints (bif good o d then (grown o d).t else []), .bool (good o d)]) [] := by
  refine fun_ok (C := t_l2Good ++ t_growS) (hint := hintX [] [] 0 [] [] [] []) ((t_l2Good_ok).append t_growS_ok) mixed Try.func31 rfl (by kernel_rfl) rfl ?_
  show codeA _ _ _ _ _ _ _ _
  simp only [go_sem, ↓reduceIte, Nat.reduceEqDiff, Nat.reduceBEq, Nat.reduceAdd, Nat.reduceSub, Nat.reduceLeDiff, Nat.reduceMul, Nat.reduceLT, Try.results31]
  refine ⟨hp, partB_intro (fun hg => ?_) (fun hg => ?_)⟩
  · rw [hg]
    have hf := good_iff.1 hg
    have e := grown_stW hf
    repeat' (first | refine fork_intro (fun hb => ?_) (fun hb => ?_) | refine partB_intro (fun hb => ?_) (fun hb => ?_) | refine And.intro ?_ ?_)
    all_goals first | exact True.intro | omega | with_reducible rfl | exact congrArg (AV.int _) (by omega) | (first | exact hf | rfl | (rw [e]; rfl))
  · rw [hg]
    repeat' (first | refine fork_intro (fun hb => ?_) (fun hb => ?_) | refine partB_intro (fun hb => ?_) (fun hb => ?_) | refine And.intro ?_ ?_)
    all_goals first | exact True.intro | omega | with_reducible rfl | exact congrArg (AV.int _) (by omega) | (first | rfl)
def t_tightTimesS : Table := [(31, pureC g_tightTimesS)]
theorem t_tightTimesS_ok : TabOK Try.prog t_tightTimesS := .cons Try.func31 (by kernel_rfl) (.pure (by intro args hp; unfold g_tightTimesS at hp ⊢; split at hp <;> first | exact hp.elim | exact tightTimesS_ok _ _ hp)) (.nil _)
attribute [go_sem] g_tightTimesS_eq t_tightTimesS
def g_tightTimesI : List AV → Prop × AV × Heap
  | [.agg [.ints o, .rows d]] => (o.length ≤ 1048576000 ∧ d.length ≤ 1048576000 ∧ ∀ x ∈ d, x.length ≤ 1048576000, .tup [.sl 0, .bool (good o d)], [(0, .arr (.ints (bif good o d then (grown o d).t else [])))])
  | _ => (False, .undef, [])
theorem g_tightTimesI_eq (o : List Int) (d : List (List Int)) : g_tightTimesI [.agg [.ints o, .rows d]] = (o.length ≤ 1048576000 ∧ d.length ≤ 1048576000 ∧ ∀ x ∈ d, x.length ≤ 1048576000, .tup [.sl 0, .bool (good o d)], [(0, .arr (.ints (bif good o d then (grown o d).t else [])))]) := (rfl)
theorem tightTimesI_ok (o : List Int) (d : List (List Int)) (hp : o.length ≤ 1048576000 ∧ d.length ≤ 1048576000 ∧ ∀ x ∈ d, x.length ≤ 1048576000) : SpecOK Try.prog 32 [.agg [.ints o, .rows d]] (.tup [.sl 0, .bool (good o d)]) [(0, .arr (.ints (bif good o d then (grown o d).t else [])))] := by
  refine fun_ok (C := t_isF ++ t_growI) (hint := hintX [8] [(2, [.post, .up 2 (.arr (.ints []))]), (3, [.post, .ren 2 0])] 0 [] [] [] []) ((t_isF_ok).append t_growI_ok) mixed Try.func32 rfl (by kernel_rfl) rfl ?_
  show codeA _ _ _ _ _ _ _ _
  simp only [go_sem, ↓reduceIte, Nat.reduceEqDiff, Nat.reduceBEq, Nat.reduceAdd, Nat.reduceSub, Nat.reduceLeDiff, Nat.reduceMul, Nat.reduceLT, Try.results32]
  refine ⟨hp, partB_intro (fun hg => ?_) (fun hg => ?_)⟩
  · rw [hg]
    have hf := good_iff.1 hg
    repeat' (first | refine fork_intro (fun hb => ?_) (fun hb => ?_) | refine partB_intro (fun hb => ?_) (fun hb => ?_) | refine And.intro ?_ ?_)
    all_goals first | exact True.intro | omega | with_reducible rfl | exact congrArg (AV.int _) (by omega) | (first | exact hf | rfl)
  · rw [hg]
    repeat' (first | refine fork_intro (fun hb => ?_) (fun hb => ?_) | refine partB_intro (fun hb => ?_) (fun hb => ?_) | refine And.intro ?_ ?_)
    all_goals first | exact True.intro | omega | with_reducible rfl | exact congrArg (AV.int _) (by omega) | (first | rfl)
def t_tightTimesI : Table := [(32, ownC g_tightTimesI)]
theorem t_tightTimesI_ok : TabOK Try.prog t_tightTimesI := .cons Try.func32 (by kernel_rfl) (.own (by intro args hp; unfold g_tightTimesI at hp ⊢; split at hp <;> first | exact hp.elim | exact ⟨tightTimesI_ok _ _ hp, rfl⟩)) (.nil _)
attribute [go_sem] g_tightTimesI_eq t_tightTimesI
def g_witnessesOfS : List AV → Prop × AV
  | [.agg [.ints o, .rows d]] => (o.length ≤ 1048576000 ∧ d.length ≤ 1048576000 ∧ ∀ x ∈ d, x.length ≤ 1048576000, .tup [.ints (bif good o d then (grown o d).w else []), .bool (good o d)])
  | _ => (False, .undef)
theorem g_witnessesOfS_eq (o : List Int) (d : List (List Int)) : g_witnessesOfS [.agg [.ints o, .rows d]] = (o.length ≤ 1048576000 ∧ d.length ≤ 1048576000 ∧ ∀ x ∈ d, x.length ≤ 1048576000, .tup [.ints (bif good o d then (grown o d).w else []), .bool (good o d)]) := (rfl)
theorem witnessesOfS_ok (o : List Int) (d : List (List Int)) (hp : o.length ≤ 1048576000 ∧ d.length ≤ 1048576000 ∧ ∀ x ∈ d, x.length ≤ 1048576000) : SpecOK Try.prog 33 [.agg [.ints o, .rows d]] (.tup [.ints (bif good o d then (grown o d).w else []), .bool (good o d)]) [] := by
  refine fun_ok (C := t_l2Good ++ t_growS) (hint := hintX [] [] 0 [] [] [] []) ((t_l2Good_ok).append t_growS_ok) mixed Try.func33 rfl (by kernel_rfl) rfl ?_
  show codeA _ _ _ _ _ _ _ _
  simp only [go_sem, ↓reduceIte, Nat.reduceEqDiff, Nat.reduceBEq, Nat.reduceAdd, Nat.reduceSub, Nat.reduceLeDiff, Nat.reduceMul, Nat.reduceLT, Try.results33]
  refine ⟨hp, partB_intro (fun hg => ?_) (fun hg => ?_)⟩
  · rw [hg]
    have hf := good_iff.1 hg
    have e := grown_stW hf
    repeat' (first | refine fork_intro (fun hb => ?_) (fun hb => ?_) | refine partB_intro (fun hb => ?_) (fun hb => ?_) | refine And.intro ?_ ?_)
    all_goals first | exact True.intro | omega | with_reducible rfl | exact congrArg (AV.int _) (by omega) | (first | exact hf | rfl | (rw [e]; rfl))
  · rw [hg]
    repeat' (first | refine fork_intro (fun hb => ?_) (fun hb => ?_) | refine partB_intro (fun hb => ?_) (fun hb => ?_) | refine And.intro ?_ ?_)
    all_goals first | exact True.intro | omega | with_reducible rfl | exact congrArg (AV.int _) (by omega) | (first | rfl)
def t_witnessesOfS : Table := [(33, pureC g_witnessesOfS)]
theorem t_witnessesOfS_ok : TabOK Try.prog t_witnessesOfS := .cons Try.func33 (by kernel_rfl) (.pure (by intro args hp; unfold g_witnessesOfS at hp ⊢; split at hp <;> first | exact hp.elim | exact witnessesOfS_ok _ _ hp)) (.nil _)
attribute [go_sem] g_witnessesOfS_eq t_witnessesOfS
def g_witnessesOfI : List AV → Prop × AV × Heap
  | [.agg [.ints o, .rows d]] => (o.length ≤ 1048576000 ∧ d.length ≤ 1048576000 ∧ ∀ x ∈ d, x.length ≤ 1048576000, .tup [.sl 0, .bool (good o d)], [(0, .arr (.ints (bif good o d then (grown o d).w else [])))])
  | _ => (False, .undef, [])
theorem g_witnessesOfI_eq (o : List Int) (d : List (List Int)) : g_witnessesOfI [.agg [.ints o, .rows d]] = (o.length ≤ 1048576000 ∧ d.length ≤ 1048576000 ∧ ∀ x ∈ d, x.length ≤ 1048576000, .tup [.sl 0, .bool (good o d)], [(0, .arr (.ints (bif good o d then (grown o d).w else [])))]) := (rfl)
theorem witnessesOfI_ok (o : List Int) (d : List (List Int)) (hp : o.length ≤ 1048576000 ∧ d.length ≤ 1048576000 ∧ ∀ x ∈ d, x.length ≤ 1048576000) : SpecOK Try.prog 34 [.agg [.ints o, .rows d]] (.tup [.sl 0, .bool (good o d)]) [(0, .arr (.ints (bif good o d then (grown o d).w else [])))] := by
  refine fun_ok (C := t_isF ++ t_growI) (hint := hintX [8] [(2, [.post, .up 2 (.arr (.ints []))]), (3, [.post, .ren 2 0])] 0 [] [] [] []) ((t_isF_ok).append t_growI_ok) mixed Try.func34 rfl (by kernel_rfl) rfl ?_
  show codeA _ _ _ _ _ _ _ _
  simp only [go_sem, ↓reduceIte, Nat.reduceEqDiff, Nat.reduceBEq, Nat.reduceAdd, Nat.reduceSub, Nat.reduceLeDiff, Nat.reduceMul, Nat.reduceLT, Try.results34]
  refine ⟨hp, partB_intro (fun hg => ?_) (fun hg => ?_)⟩
  · rw [hg]
    have hf := good_iff.1 hg
    repeat' (first | refine fork_intro (fun hb => ?_) (fun hb => ?_) | refine partB_intro (fun hb => ?_) (fun hb => ?_) | refine And.intro ?_ ?_)
    all_goals first | exact True.intro | omega | with_reducible rfl | exact congrArg (AV.int _) (by omega) | (first | exact hf | rfl)
  · rw [hg]
    repeat' (first | refine fork_intro (fun hb => ?_) (fun hb => ?_) | refine partB_intro (fun hb => ?_) (fun hb => ?_) | refine And.intro ?_ ?_)
    all_goals first | exact True.intro | omega | with_reducible rfl | exact congrArg (AV.int _) (by omega) | (first | rfl)
def t_witnessesOfI : Table := [(34, ownC g_witnessesOfI)]
theorem t_witnessesOfI_ok : TabOK Try.prog t_witnessesOfI := .cons Try.func34 (by kernel_rfl) (.own (by intro args hp; unfold g_witnessesOfI at hp ⊢; split at hp <;> first | exact hp.elim | exact ⟨witnessesOfI_ok _ _ hp, rfl⟩)) (.nil _)
attribute [go_sem] g_witnessesOfI_eq t_witnessesOfI
end Go.Proofs.Ytibomnplkclkmaa
