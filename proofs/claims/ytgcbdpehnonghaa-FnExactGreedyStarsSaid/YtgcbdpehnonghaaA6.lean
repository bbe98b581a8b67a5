/- Trees: both packages say the same. -/
import Derived.Test.YtgcbdpehnonghaaA3
import Derived.Test.YtgcbdpehnonghaaPlT
namespace Go.Proofs.Ytgcbdpehnonghaa
open Go.Vc
set_option maxRecDepth 100000
set_option linter.unusedSimpArgs false
set_option linter.unusedVariables false

def treeP (ps : List Int) (k : Nat) : Prop := (k = 0 -> ix ps 0 = -1) /\ (0 < k -> 0 <= ix ps (k : Int) /\ ix ps (k : Int) < k)
theorem treeP_no {ps : List Int} {k : Nat} (hk : k < ps.length) (h : ¬ treeP ps k) : tree ps = false := by
  cases ht : tree ps with
  | false => rfl
  | true =>
    have := tree_iff.1 ht
    exact (h ⟨fun _ => this.root, fun h0 => this.par k hk h0⟩).elim
theorem treeP_all {ps : List Int} (h : ∀ k, k < ps.length -> treeP ps k) : tree ps = decide (1 <= (ps.length : Int) /\ (ps.length : Int) <= 7) := by
  unfold tree
  apply decide_eq_decide.2
  refine ⟨fun h1 => by omega, fun h1 => ⟨by omega, (h 0 (by omega)).1 rfl, fun k hk h0 => (h k hk).2 h0⟩⟩
theorem treeP_next {ps : List Int} {k : Nat} (h : ∀ j, j < k -> treeP ps j) (hk : treeP ps k) : ∀ j, j < k + 1 -> treeP ps j := by
  intro j hj
  rcases Nat.lt_succ_iff_lt_or_eq.1 hj with h1 | h1
  · exact h j h1
  · subst h1; exact hk
def g_cloneI : List AV -> Prop × AV × Heap
  | [.ints xs] => (xs.length <= 1048576000, .sl 0, [(0, .arr (.ints xs))])
  | _ => (False, .undef, [])
theorem g_cloneI_eq (xs : List Int) : g_cloneI [.ints xs] = (xs.length <= 1048576000, .sl 0, [(0, .arr (.ints xs))]) := (rfl)
theorem cloneI_ok (xs : List Int) (hp : xs.length <= 1048576000) : SpecOK Try.prog 45 [.ints xs] (.sl 0) [(0, .arr (.ints xs))] := by
  refine fun_ok (C := []) (hint := hintX [5, 7] [(2, [.post, .up 2 (.arr (.ints []))])] 0 [] [] [] []) (TabOK.nil _) mixed Try.func45 rfl (by kernel_rfl) rfl ?_
  show codeA _ _ _ _ _ _ _ _
  simp only [go_sem, Try.results45]
  intro b hb
  exact partB_intro (fun h => by rw [hb h]) (fun h => by omega)
def t_cloneI : Table := [(45, ownC g_cloneI)]
theorem t_cloneI_ok : TabOK Try.prog t_cloneI := .cons Try.func45 (by kernel_rfl) (.own (by intro args hp; unfold g_cloneI at hp ⊢; split at hp <;> first | exact hp.elim | exact ⟨cloneI_ok _ hp, rfl⟩)) (.nil _)
attribute [go_sem] g_cloneI_eq t_cloneI

def wtF (ps ws : List Int) (x y : Nat) : Int := if up ps x y = x then ix ws (y : Int) else 0
theorem wtF_bd {ps ws : List Int} (hw : ∀ k : Nat, k < ps.length -> 0 <= ix ws (k : Int) /\ ix ws (k : Int) <= 99) (x : Nat) {y : Nat} (hy : y <= ps.length) : 0 <= sumN (wtF ps ws x) y /\ sumN (wtF ps ws x) y <= 99 * y := by
  have := sumN_bd (f := wtF ps ws x) (lo := 0) (hi := 99) (n := y) (fun i hi => by
    have := hw i (by omega)
    unfold wtF
    split <;> omega)
  omega
end Go.Proofs.Ytgcbdpehnonghaa
