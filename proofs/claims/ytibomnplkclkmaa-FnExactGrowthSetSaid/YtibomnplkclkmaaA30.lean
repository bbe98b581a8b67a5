/- Growth in the package: what the loop calls. -/
import Derived.Test.YtibomnplkclkmaaA7
import Derived.Test.YtibomnplkclkmaaPlP
namespace Go.Proofs.Ytibomnplkclkmaa
open Go.Vc
set_option maxRecDepth 100000
set_option linter.unusedSimpArgs false
set_option linter.unusedVariables false

def g_lenC : List AV → Prop × AV
  | [.int .i64 i, .int .i64 a, .iptr [.ints o, .rows d]] => (FieldOK o d ∧ (0 ≤ i ∧ i < d.length) ∧ 0 ≤ a ∧ a < o.length, .int .i64 (2520 * ix (ix d i) a))
  | _ => (False, .undef)
theorem g_lenC_eq (i a : Int) (o : List Int) (d : List (List Int)) : g_lenC [.int .i64 i, .int .i64 a, .iptr [.ints o, .rows d]] = (FieldOK o d ∧ (0 ≤ i ∧ i < d.length) ∧ 0 ≤ a ∧ a < o.length, .int .i64 (2520 * ix (ix d i) a)) := (rfl)
theorem lenC_ok (i a : Int) (o : List Int) (d : List (List Int)) (hp : FieldOK o d ∧ (0 ≤ i ∧ i < d.length) ∧ 0 ≤ a ∧ a < o.length) : SpecOK Try.prog 132 [.int .i64 i, .int .i64 a, .iptr [.ints o, .rows d]] (.int .i64 (2520 * ix (ix d i) a)) [] := by
  refine fun_ok (C := []) (hint := hintX [] [] 0 [] [] [] []) (TabOK.nil _) mixed Try.func132 rfl (by kernel_rfl) rfl ?_
  show codeA _ _ _ _ _ _ _ _
  simp only [go_sem, ↓reduceIte, Nat.reduceEqDiff, Nat.reduceBEq, Nat.reduceAdd, Nat.reduceSub, Nat.reduceLeDiff, Nat.reduceMul, Nat.reduceLT, Try.results132]
  obtain ⟨hf, ⟨h0, h1⟩, h2, h3⟩ := hp
  have hr := ix_memI d h0 h1
  have hl := hf.len _ hr
  have hd := hf.d99 _ hr _ (ix_memI (ix d i) h2 (by omega))
  repeat' (first | refine fork_intro (fun hb => ?_) (fun hb => ?_) | refine partB_intro (fun hb => ?_) (fun hb => ?_) | refine And.intro ?_ ?_)
  all_goals first | exact True.intro | omega | with_reducible rfl | exact congrArg (AV.int _) (by omega) | (first | rfl)
def t_lenC : Table := [(132, pureC g_lenC)]
theorem t_lenC_ok : TabOK Try.prog t_lenC := .cons Try.func132 (by kernel_rfl) (.pure (by intro args hp; unfold g_lenC at hp ⊢; split at hp <;> first | exact hp.elim | exact lenC_ok _ _ _ _ hp)) (.nil _)
attribute [go_sem] g_lenC_eq t_lenC
def g_atC : List AV → Heap → Prop × AV × Heap
  | [.int .i64 c, .bx 0 0, .bx 1 0], [(0, .box [.int .i64 now]), (1, .box [.int .i64 x])] => (True, .tup [], [(0, .box [.int .i64 now]), (1, .box [.int .i64 (if now < c then mnU x c else x)])])
  | _, _ => (False, .undef, [])
theorem g_atC_eq (c now x : Int) : g_atC [.int .i64 c, .bx 0 0, .bx 1 0] [(0, .box [.int .i64 now]), (1, .box [.int .i64 x])] = (True, .tup [], [(0, .box [.int .i64 now]), (1, .box [.int .i64 (if now < c then mnU x c else x)])]) := (rfl)
theorem atC_ok (c now x : Int) (hp : True) : SpecM Try.prog 134 [.int .i64 c, .bx 0 0, .bx 1 0] [(0, .box [.int .i64 now]), (1, .box [.int .i64 x])] 2 (.tup []) [(0, .box [.int .i64 now]), (1, .box [.int .i64 (if now < c then mnU x c else x)])] := by
  refine fun_okM (C := []) (hint := hintX [] [] 2 [] [] [] []) (TabOK.nil _) mixed Try.func134 rfl (by kernel_rfl) rfl (Nat.le_refl _) (upTo_look rfl) (shapes ?_) ?_
  · exact ⟨fun k' h => by cases h; exact ss_box rfl, fun k' h => by cases h; exact ss_box rfl, trivial⟩
  show codeA _ _ _ _ _ _ _ _
  simp only [go_sem, ↓reduceIte, Nat.reduceEqDiff, Nat.reduceBEq, Nat.reduceAdd, Nat.reduceSub, Nat.reduceLeDiff, Nat.reduceMul, Nat.reduceLT, Try.results134]
  unfold mnU
  refine fork_intro (fun h1 => fork_intro (fun h2 => ?_) (fun h2 => fork_intro (fun h3 => ?_) (fun h3 => ?_))) (fun h1 => ?_)
  · rw [if_pos h1, if_pos (.inl h2)]
  · rw [if_pos h1, if_pos (.inr h3)]
  · rw [if_pos h1, if_neg (fun h => by rcases h with h | h; exact h2 h; exact h3 h)]
  · rw [if_neg h1]
def t_atC : Table := [(134, mutC 2 g_atC)]
theorem t_atC_ok : TabOK Try.prog t_atC := .cons Try.func134 (by kernel_rfl) (.mut (by intro args pre _ hp; unfold g_atC at hp ⊢; split at hp <;> first | exact hp.elim | exact atC_ok _ _ _ hp)) (.nil _)
attribute [go_sem] g_atC_eq t_atC
end Go.Proofs.Ytibomnplkclkmaa
