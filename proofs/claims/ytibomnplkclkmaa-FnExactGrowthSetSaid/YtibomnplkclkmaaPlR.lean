/- Pairs of sites in conflict, in plain lists. -/
import Derived.Test.YtibomnplkclkmaaPlP
namespace Go.Vc
set_option linter.unusedSimpArgs false
set_option linter.unusedVariables false
def confR (q : Nat → Nat → Bool) (a : Nat) : Nat → List (Int × Int)
  | 0 => []
  | k + 1 => confR q a k ++ (if a < k ∧ q a k = true then [((a : Int), (k : Int))] else [])
def confA (q : Nat → Nat → Bool) (n : Nat) : Nat → List (Int × Int)
  | 0 => []
  | a + 1 => confA q n a ++ confR q a n
theorem confR_none (q : Nat → Nat → Bool) (a : Nat) : ∀ k, k ≤ a + 1 → confR q a k = []
  | 0, _ => rfl
  | k + 1, h => by unfold confR; rw [confR_none q a k (by omega), if_neg (by omega)]; rfl
theorem confR_len (q : Nat → Nat → Bool) (a : Nat) : ∀ k, (confR q a k).length ≤ k
  | 0 => Nat.le_refl _
  | k + 1 => by
    have := confR_len q a k
    unfold confR
    rw [List.length_append]
    split <;> simp <;> omega
theorem confA_len (q : Nat → Nat → Bool) (n : Nat) : ∀ a, (confA q n a).length ≤ a * n
  | 0 => by simp [confA]
  | a + 1 => by
    have h1 := confA_len q n a
    have h2 := confR_len q a n
    unfold confA
    rw [List.length_append, Nat.succ_mul]; omega
theorem confR_t {q : Nat → Nat → Bool} {a k : Nat} (h : a < k) (hq : q a k = true) : confR q a k ++ [((a : Int), (k : Int))] = confR q a (k + 1) := by
  show _ = confR q a k ++ _
  rw [if_pos ⟨h, hq⟩]
theorem confR_f {q : Nat → Nat → Bool} {a k : Nat} (hq : q a k = false) : confR q a (k + 1) = confR q a k := by
  show confR q a k ++ _ = _
  rw [if_neg (fun h => by rw [hq] at h; cases h.2)]; simp
/-- Sites that a client pays both. -/
def cnfX (d : List (List Int)) (p : List Int) (a b : Int) : Bool := decide (∃ j : Nat, j < d.length ∧ 2520 * ix (ix d (j : Int)) a < ix p (j : Int) ∧ 2520 * ix (ix d (j : Int)) b < ix p (j : Int))
def cnfB (d : List (List Int)) (p t : List Int) (a b : Int) : Bool := decide (0 ≤ ix t a) && decide (0 ≤ ix t b) && cnfX d p a b
def cnfQ (d : List (List Int)) (s : St) (a b : Nat) : Bool := cnfB d s.p s.t (a : Int) (b : Int)
def confL (o : List Int) (d : List (List Int)) : List (Int × Int) := confA (cnfQ d (grown o d)) o.length o.length
theorem conf7 {o : List Int} (h : o.length ≤ 7) (q : Nat → Nat → Bool) {a : Nat} (ha : a ≤ o.length) : (confA q o.length a).length ≤ 49 :=
  Nat.le_trans (confA_len q o.length a) (Nat.mul_le_mul (show a ≤ 7 by omega) h)
end Go.Vc
