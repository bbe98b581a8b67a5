/- The library's sorts of numbers, where there are few. -/
import Derived.Test.YtibomnplkclkmaaXT
namespace Go.Proofs.Ytibomnplkclkmaa
open Go.Vc
set_option maxRecDepth 100000
set_option maxHeartbeats 1600000
set_option linter.unusedSimpArgs false
set_option linter.unusedVariables false

def g_stabC : List AV → Heap → Prop × AV × Heap
  | [.sl 0, .int .i64 n, .fn 106 [.iptr [.ints p, .ints t, .ints z]]], [(0, .arr (.ints xs))] => ((xs.length ≤ 7 ∧ n = xs.length) ∧ t.length ≤ 1000 ∧ ∀ x ∈ xs, 0 ≤ x ∧ x < t.length, .tup [], [(0, .arr (.ints (insF (ltT t) xs)))])
  | _, _ => (False, .undef, [])
theorem g_stabC_eq (xs : List Int) (n : Int) (p t z : List Int) : g_stabC [.sl 0, .int .i64 n, .fn 106 [.iptr [.ints p, .ints t, .ints z]]] [(0, .arr (.ints xs))] = ((xs.length ≤ 7 ∧ n = xs.length) ∧ t.length ≤ 1000 ∧ ∀ x ∈ xs, 0 ≤ x ∧ x < t.length, .tup [], [(0, .arr (.ints (insF (ltT t) xs)))]) := (rfl)
theorem stabC_ok (xs : List Int) (n : Int) (p t z : List Int) (hp : (xs.length ≤ 7 ∧ n = xs.length) ∧ t.length ≤ 1000 ∧ ∀ x ∈ xs, 0 ≤ x ∧ x < t.length) : SpecM Try.prog 148 [.sl 0, .int .i64 n, .fn 106 [.iptr [.ints p, .ints t, .ints z]]] [(0, .arr (.ints xs))] 1 (.tup []) [(0, .arr (.ints (insF (ltT t) xs)))] := by
  refine fun_okM (C := t_insC) (hint := hintX [] [] 1 [173] [] [] []) (t_insC_ok) mixed Try.func148 rfl (by kernel_rfl) rfl (Nat.le_refl _) (upTo_look rfl) (shapes ?_) ?_
  · exact ⟨fun k' h => by cases h; exact ss_ints (insF_len _ _).symm, trivial⟩
  show codeA _ _ _ _ _ _ _ _
  simp only [go_sem, ↓reduceIte, Nat.reduceEqDiff, Nat.reduceBEq, Nat.reduceAdd, Nat.reduceSub, Nat.reduceLeDiff, Nat.reduceMul, Nat.reduceLT, Try.results148]
  obtain ⟨⟨h7, rfl⟩, ht, hx⟩ := hp
  refine loop_intro (fun _ : Unit => [(6, .int .i64 20), (7, .int .i64 0), (8, .int .i64 20), (0, .sl 0), (1, .int .i64 xs.length), (2, .fn 106 [.iptr [.ints p, .ints t, .ints z]])]) (fun _ => [(0, .arr (.ints xs))]) 1 (fun _ => True) (fun _ => 0) () trivial (by omega) ?_ ?_
  · simp only [go_sem, ↓reduceIte, Nat.reduceEqDiff, Nat.reduceBEq, Nat.reduceAdd, Nat.reduceSub, Nat.reduceLeDiff, Nat.reduceMul, Nat.reduceLT]
    repeat' (first | refine fork_intro (fun hb => ?_) (fun hb => ?_) | refine partB_intro (fun hb => ?_) (fun hb => ?_) | refine And.intro ?_ ?_)
    all_goals first | exact True.intro | omega | with_reducible rfl | exact congrArg (AV.int _) (by omega) | (first | rfl)
  · intro _ _
    simp only [go_sem, ↓reduceIte, Nat.reduceEqDiff, Nat.reduceBEq, Nat.reduceAdd, Nat.reduceSub, Nat.reduceLeDiff, Nat.reduceMul, Nat.reduceLT]
    refine fork_intro (fun h => by omega) (fun _ => ?_)
    refine ⟨⟨h7, ht, hx⟩, ?_⟩
    refine loop_intro (fun _ : Unit => [(6, .int .i64 20), (0, .sl 0), (1, .int .i64 xs.length), (2, .fn 106 [.iptr [.ints p, .ints t, .ints z]])]) (fun _ => [(0, .arr (.ints (insF (ltT t) xs)))]) 1 (fun _ => True) (fun _ => 0) () trivial (by omega) ?_ ?_
    · simp only [go_sem, ↓reduceIte, Nat.reduceEqDiff, Nat.reduceBEq, Nat.reduceAdd, Nat.reduceSub, Nat.reduceLeDiff, Nat.reduceMul, Nat.reduceLT]
      repeat' (first | refine fork_intro (fun hb => ?_) (fun hb => ?_) | refine partB_intro (fun hb => ?_) (fun hb => ?_) | refine And.intro ?_ ?_)
      all_goals first | exact True.intro | omega | with_reducible rfl | exact congrArg (AV.int _) (by omega) | (first | rfl)
    · intro _ _
      simp only [go_sem, ↓reduceIte, Nat.reduceEqDiff, Nat.reduceBEq, Nat.reduceAdd, Nat.reduceSub, Nat.reduceLeDiff, Nat.reduceMul, Nat.reduceLT]
      refine fork_intro (fun h => by omega) (fun _ => ?_)
      repeat' (first | refine fork_intro (fun hb => ?_) (fun hb => ?_) | refine partB_intro (fun hb => ?_) (fun hb => ?_) | refine And.intro ?_ ?_)
      all_goals first | exact True.intro | omega | with_reducible rfl | exact congrArg (AV.int _) (by omega) | (first | rfl)
def t_stabC : Table := [(148, mutC 1 g_stabC)]
theorem t_stabC_ok : TabOK Try.prog t_stabC := .cons Try.func148 (by kernel_rfl) (.mut (by intro args pre _ hp; unfold g_stabC at hp ⊢; split at hp <;> first | exact hp.elim | exact stabC_ok _ _ _ _ _ hp)) (.nil _)
attribute [go_sem] g_stabC_eq t_stabC
def g_stabI : List AV → Heap → Prop × AV × Heap
  | [.sl 0, .fn 106 [.iptr [.ints p, .ints t, .ints z]]], [(0, .arr (.ints xs))] => (xs.length ≤ 7 ∧ t.length ≤ 1000 ∧ ∀ x ∈ xs, 0 ≤ x ∧ x < t.length, .tup [], [(0, .arr (.ints (insF (ltT t) xs)))])
  | _, _ => (False, .undef, [])
theorem g_stabI_eq (xs : List Int) (p t z : List Int) : g_stabI [.sl 0, .fn 106 [.iptr [.ints p, .ints t, .ints z]]] [(0, .arr (.ints xs))] = (xs.length ≤ 7 ∧ t.length ≤ 1000 ∧ ∀ x ∈ xs, 0 ≤ x ∧ x < t.length, .tup [], [(0, .arr (.ints (insF (ltT t) xs)))]) := (rfl)
theorem stabI_ok (xs : List Int) (p t z : List Int) (hp : xs.length ≤ 7 ∧ t.length ≤ 1000 ∧ ∀ x ∈ xs, 0 ≤ x ∧ x < t.length) : SpecM Try.prog 105 [.sl 0, .fn 106 [.iptr [.ints p, .ints t, .ints z]]] [(0, .arr (.ints xs))] 1 (.tup []) [(0, .arr (.ints (insF (ltT t) xs)))] := by
  refine fun_okM (C := t_stabC) (hint := hintX [] [] 1 [148] [] [] []) (t_stabC_ok) mixed Try.func105 rfl (by kernel_rfl) rfl (Nat.le_refl _) (upTo_look rfl) (shapes ?_) ?_
  · exact ⟨fun k' h => by cases h; exact ss_ints (insF_len _ _).symm, trivial⟩
  show codeA _ _ _ _ _ _ _ _
  simp only [go_sem, ↓reduceIte, Nat.reduceEqDiff, Nat.reduceBEq, Nat.reduceAdd, Nat.reduceSub, Nat.reduceLeDiff, Nat.reduceMul, Nat.reduceLT, Try.results105]
  obtain ⟨h7, ht, hx⟩ := hp
  repeat' (first | refine fork_intro (fun hb => ?_) (fun hb => ?_) | refine partB_intro (fun hb => ?_) (fun hb => ?_) | refine And.intro ?_ ?_)
  all_goals first | exact True.intro | omega | with_reducible rfl | exact congrArg (AV.int _) (by omega) | (first | exact ⟨h7, ht, hx⟩ | exact hx | rfl)
def t_stabI : Table := [(105, mutC 1 g_stabI)]
theorem t_stabI_ok : TabOK Try.prog t_stabI := .cons Try.func105 (by kernel_rfl) (.mut (by intro args pre _ hp; unfold g_stabI at hp ⊢; split at hp <;> first | exact hp.elim | exact stabI_ok _ _ _ _ hp)) (.nil _)
attribute [go_sem] g_stabI_eq t_stabI
def g_pdqO : List AV → Heap → Prop × AV × Heap
  | [.sl 0, .int .i64 a, .int .i64 n, .int .i64 l], [(0, .arr (.ints xs))] => (xs.length ≤ 7 ∧ a = 0 ∧ n = xs.length, .tup [], [(0, .arr (.ints (insF ltI xs)))])
  | _, _ => (False, .undef, [])
theorem g_pdqO_eq (xs : List Int) (a n l : Int) : g_pdqO [.sl 0, .int .i64 a, .int .i64 n, .int .i64 l] [(0, .arr (.ints xs))] = (xs.length ≤ 7 ∧ a = 0 ∧ n = xs.length, .tup [], [(0, .arr (.ints (insF ltI xs)))]) := (rfl)
theorem pdqO_ok (xs : List Int) (a n l : Int) (hp : xs.length ≤ 7 ∧ a = 0 ∧ n = xs.length) : SpecM Try.prog 150 [.sl 0, .int .i64 a, .int .i64 n, .int .i64 l] [(0, .arr (.ints xs))] 1 (.tup []) [(0, .arr (.ints (insF ltI xs)))] := by
  refine fun_okM (C := t_insO) (hint := hintX [] [] 1 [175] [] [] []) (t_insO_ok) mixed Try.func150 rfl (by kernel_rfl) rfl (Nat.le_refl _) (upTo_look rfl) (shapes ?_) ?_
  · exact ⟨fun k' h => by cases h; exact ss_ints (insF_len _ _).symm, trivial⟩
  show codeA _ _ _ _ _ _ _ _
  simp only [go_sem, ↓reduceIte, Nat.reduceEqDiff, Nat.reduceBEq, Nat.reduceAdd, Nat.reduceSub, Nat.reduceLeDiff, Nat.reduceMul, Nat.reduceLT, Try.results150]
  obtain ⟨h7, rfl, rfl⟩ := hp
  refine loop_intro (fun _ : Unit => [(8, .bool true), (9, .bool true), (0, .sl 0), (1, .int .i64 0), (2, .int .i64 xs.length), (3, .int .i64 l)]) (fun _ => [(0, .arr (.ints xs))]) 1 (fun _ => True) (fun _ => 0) () trivial (by omega) ?_ ?_
  · simp only [go_sem, ↓reduceIte, Nat.reduceEqDiff, Nat.reduceBEq, Nat.reduceAdd, Nat.reduceSub, Nat.reduceLeDiff, Nat.reduceMul, Nat.reduceLT]
    repeat' (first | refine fork_intro (fun hb => ?_) (fun hb => ?_) | refine partB_intro (fun hb => ?_) (fun hb => ?_) | refine And.intro ?_ ?_)
    all_goals first | exact True.intro | omega | with_reducible rfl | exact congrArg (AV.int _) (by omega) | (first | rfl)
  · intro _ _
    have hd : decide ((xs.length : Int) - 0 ≤ 12) = true := decide_eq_true (by omega)
    simp only [go_sem, ↓reduceIte, Nat.reduceEqDiff, Nat.reduceBEq, Nat.reduceAdd, Nat.reduceSub, Nat.reduceLeDiff, Nat.reduceMul, Nat.reduceLT, hd, ↓partB_true]
    exact ⟨by omega, h7⟩
def t_pdqO : Table := [(150, mutC 1 g_pdqO)]
theorem t_pdqO_ok : TabOK Try.prog t_pdqO := .cons Try.func150 (by kernel_rfl) (.mut (by intro args pre _ hp; unfold g_pdqO at hp ⊢; split at hp <;> first | exact hp.elim | exact pdqO_ok _ _ _ _ hp)) (.nil _)
attribute [go_sem] g_pdqO_eq t_pdqO
def g_sortI : List AV → Heap → Prop × AV × Heap
  | [.sl 0], [(0, .arr (.ints xs))] => (xs.length ≤ 7, .tup [], [(0, .arr (.ints (insF ltI xs)))])
  | _, _ => (False, .undef, [])
theorem g_sortI_eq (xs : List Int) : g_sortI [.sl 0] [(0, .arr (.ints xs))] = (xs.length ≤ 7, .tup [], [(0, .arr (.ints (insF ltI xs)))]) := (rfl)
theorem sortI_ok (xs : List Int) (hp : xs.length ≤ 7) : SpecM Try.prog 110 [.sl 0] [(0, .arr (.ints xs))] 1 (.tup []) [(0, .arr (.ints (insF ltI xs)))] := by
  refine fun_okM (C := t_pdqO ++ t_lenB) (hint := hintX [] [] 1 [150] [] [] []) ((t_pdqO_ok).append t_lenB_ok) mixed Try.func110 rfl (by kernel_rfl) rfl (Nat.le_refl _) (upTo_look rfl) (shapes ?_) ?_
  · exact ⟨fun k' h => by cases h; exact ss_ints (insF_len _ _).symm, trivial⟩
  show codeA _ _ _ _ _ _ _ _
  simp only [go_sem, ↓reduceIte, Nat.reduceEqDiff, Nat.reduceBEq, Nat.reduceAdd, Nat.reduceSub, Nat.reduceLeDiff, Nat.reduceMul, Nat.reduceLT, Try.results110]
  repeat' (first | refine fork_intro (fun hb => ?_) (fun hb => ?_) | refine partB_intro (fun hb => ?_) (fun hb => ?_) | refine And.intro ?_ ?_)
  all_goals first | exact True.intro | omega | with_reducible rfl | exact congrArg (AV.int _) (by omega) | (first | exact hp | rfl)
def t_sortI : Table := [(110, mutC 1 g_sortI)]
theorem t_sortI_ok : TabOK Try.prog t_sortI := .cons Try.func110 (by kernel_rfl) (.mut (by intro args pre _ hp; unfold g_sortI at hp ⊢; split at hp <;> first | exact hp.elim | exact sortI_ok _ hp)) (.nil _)
attribute [go_sem] g_sortI_eq t_sortI
end Go.Proofs.Ytibomnplkclkmaa
