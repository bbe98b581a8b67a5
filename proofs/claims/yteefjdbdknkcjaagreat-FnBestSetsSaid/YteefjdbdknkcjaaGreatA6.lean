/- Trees: both packages say the same. -/
import Derived.Test.YteefjdbdknkcjaaGreatA3
import Derived.Test.YteefjdbdknkcjaaGreatPlT
namespace Go.Proofs.YteefjdbdknkcjaaGreat
open Go.Vc
set_option maxRecDepth 100000
set_option linter.unusedSimpArgs false
set_option linter.unusedVariables false

def treeP (ps : List Int) (k : Nat) : Prop := (k = 0 -> ix ps 0 = -1) /\ (0 < k -> 0 <= ix ps (k : Int) /\ ix ps (k : Int) < k)
theorem treeP_no {ps : List Int} {k : Nat} (hk : k < ps.length) (h : ¬ treeP ps k) : tree ps = false := by
  cases ht : tree ps with
  | false => rfl
  | true =>
    have := tree_iff.1 ht
    exact (h ⟨fun _ => this.root, fun h0 => this.par k hk h0⟩).elim
theorem treeP_all {ps : List Int} (h : ∀ k, k < ps.length -> treeP ps k) : tree ps = decide (1 <= (ps.length : Int) /\ (ps.length : Int) <= 7) := by
  unfold tree
  apply decide_eq_decide.2
  refine ⟨fun h1 => by omega, fun h1 => ⟨by omega, (h 0 (by omega)).1 rfl, fun k hk h0 => (h k hk).2 h0⟩⟩
theorem treeP_next {ps : List Int} {k : Nat} (h : ∀ j, j < k -> treeP ps j) (hk : treeP ps k) : ∀ j, j < k + 1 -> treeP ps j := by
  intro j hj
  rcases Nat.lt_succ_iff_lt_or_eq.1 hj with h1 | h1
  · exact h j h1
  · subst h1; exact hk
def g_most2 : List AV -> Prop × AV
  | [.int .i64 a, .int .i64 b] => (True, .int .i64 (max a b))
  | _ => (False, .undef)
theorem g_most2_eq (a b : Int) : g_most2 [.int .i64 a, .int .i64 b] = (True, .int .i64 (max a b)) := (rfl)
theorem most2_ok (a b : Int) (hp : True) : SpecOK Tryz.prog 147 [.int .i64 a, .int .i64 b] (.int .i64 (max a b)) [] := by
  refine fun_ok (C := []) (hint := hintX [] [] 0 [] [] [] []) (TabOK.nil _) mixed Tryz.func147 rfl (by kernel_rfl) rfl ?_
  show codeA _ _ _ _ _ _ _ _
  simp only [go_sem, Tryz.results147]
  repeat' (first | refine fork_intro (fun hb => ?_) (fun hb => ?_) | refine partB_intro (fun hb => ?_) (fun hb => ?_) | refine And.intro ?_ ?_)
  all_goals first | exact True.intro | omega | with_reducible rfl | exact congrArg (AV.int _) (by omega) | (first | congr 1; omega)
def t_most2 : Table := [(147, pureC g_most2)]
theorem t_most2_ok : TabOK Tryz.prog t_most2 := .cons Tryz.func147 (by kernel_rfl) (.pure (by intro args hp; unfold g_most2 at hp ⊢; split at hp <;> first | exact hp.elim | exact most2_ok _ _ hp)) (.nil _)
attribute [go_sem] g_most2_eq t_most2

def wtF (ps ws : List Int) (x y : Nat) : Int := if up ps x y = x then ix ws (y : Int) else 0
theorem wtF_bd {ps ws : List Int} (hw : ∀ k : Nat, k < ps.length -> 0 <= ix ws (k : Int) /\ ix ws (k : Int) <= 99) (x : Nat) {y : Nat} (hy : y <= ps.length) : 0 <= sumN (wtF ps ws x) y /\ sumN (wtF ps ws x) y <= 99 * y := by
  have := sumN_bd (f := wtF ps ws x) (lo := 0) (hi := 99) (n := y) (fun i hi => by
    have := hw i (by omega)
    unfold wtF
    split <;> omega)
  omega
end Go.Proofs.YteefjdbdknkcjaaGreat
