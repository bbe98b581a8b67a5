/- Lists in order: by length, then as in a dictionary: plain facts. -/
import Derived.Test.YtgcbdpehnonghaaPlE
import Derived.Sort.Statements
namespace Go.Proofs.Ytgcbdpehnonghaa
open Go.Vc
set_option maxRecDepth 100000
set_option linter.unusedSimpArgs false
set_option linter.unusedVariables false

def cmpZ (x y : Int) : Int := if x < y then -1 else if y < x then 1 else 0
def cmpL : List Int -> List Int -> Int
  | [], [] => 0
  | [], _ :: _ => -1
  | _ :: _, [] => 1
  | x :: r, y :: s => if cmpZ x y ≠ 0 then cmpZ x y else cmpL r s
def cmpS (a b : List Int) : Int := if cmpZ a.length b.length ≠ 0 then cmpZ a.length b.length else cmpL a b
theorem cmpZ_anti (x y : Int) : cmpZ y x = - cmpZ x y := by unfold cmpZ; split <;> split <;> omega
theorem cmpZ_zero {x y : Int} (h : cmpZ x y = 0) : x = y := by unfold cmpZ at h; split at h <;> (try split at h) <;> omega
theorem cmpZ_trans {x y z : Int} (h : cmpZ x y < 0) (k : cmpZ y z < 0) : cmpZ x z < 0 := by
  unfold cmpZ at *; split at h <;> (try split at h) <;> split at k <;> (try split at k) <;> (try omega)
theorem cmpZ_self (x : Int) : cmpZ x x = 0 := by unfold cmpZ; rw [if_neg (by omega), if_neg (by omega)]
theorem cmpL_anti : ∀ a b : List Int, cmpL b a = - cmpL a b
  | [], [] => rfl
  | [], _ :: _ => rfl
  | _ :: _, [] => rfl
  | x :: r, y :: s => by
    unfold cmpL
    have := cmpZ_anti x y
    by_cases h : cmpZ x y = 0
    · rw [if_neg (by omega), if_neg (by omega), cmpL_anti r s]
    · rw [if_pos (by omega), if_pos (by omega), this]
theorem cmpL_zero : ∀ {a b : List Int}, cmpL a b = 0 -> a = b
  | [], [], _ => rfl
  | [], _ :: _, h => by simp [cmpL] at h
  | _ :: _, [], h => by simp [cmpL] at h
  | x :: r, y :: s, h => by
    unfold cmpL at h
    split at h
    · omega
    · rename_i h1
      rw [cmpZ_zero (x := x) (y := y) (by omega), cmpL_zero h]
theorem cmpL_trans : ∀ {a b c : List Int}, cmpL a b < 0 -> cmpL b c < 0 -> cmpL a c < 0
  | [], [], _, h, _ => by simp [cmpL] at h
  | [], _ :: _, [], _, k => by simp [cmpL] at k
  | [], _ :: _, _ :: _, _, _ => by simp [cmpL]
  | _ :: _, [], _, h, _ => by simp [cmpL] at h
  | _ :: _, _ :: _, [], _, k => by simp [cmpL] at k
  | x :: r, y :: s, z :: t, h, k => by
    unfold cmpL at h k ⊢
    by_cases h1 : cmpZ x y = 0
    · have e := cmpZ_zero h1
      subst e
      rw [if_neg (by omega)] at h
      by_cases h2 : cmpZ x z = 0
      · rw [if_neg (by omega)] at k ⊢
        exact cmpL_trans h k
      · rw [if_pos h2] at k ⊢
        exact k
    · rw [if_pos h1] at h
      by_cases h2 : cmpZ y z = 0
      · have e := cmpZ_zero h2
        subst e
        rw [if_pos h1]; exact h
      · rw [if_pos h2] at k
        have := cmpZ_trans h k
        rw [if_pos (by omega)]; exact this
theorem cmpS_anti (a b : List Int) : cmpS b a = - cmpS a b := by
  unfold cmpS
  have := cmpZ_anti a.length b.length
  by_cases h : cmpZ (a.length : Int) b.length = 0
  · rw [if_neg (by omega), if_neg (by omega), cmpL_anti a b]
  · rw [if_pos (by omega), if_pos (by omega), this]
theorem cmpS_zero {a b : List Int} (h : cmpS a b = 0) : a = b := by
  unfold cmpS at h
  split at h
  · omega
  · exact cmpL_zero h
theorem cmpL_self : ∀ a : List Int, cmpL a a = 0
  | [] => rfl
  | x :: r => by unfold cmpL; rw [if_neg (by rw [cmpZ_self]; simp), cmpL_self r]
theorem cmpS_self (a : List Int) : cmpS a a = 0 := by unfold cmpS; rw [if_neg (by rw [cmpZ_self]; simp), cmpL_self]
theorem cmpS_trans {a b c : List Int} (h : cmpS a b < 0) (k : cmpS b c < 0) : cmpS a c < 0 := by
  unfold cmpS at *
  by_cases h1 : cmpZ (a.length : Int) b.length = 0
  · have e := cmpZ_zero h1
    rw [if_neg (by omega)] at h
    by_cases h2 : cmpZ (b.length : Int) c.length = 0
    · have h3 : cmpZ (a.length : Int) c.length = 0 := by rw [e]; exact h2
      rw [if_neg (by omega)] at k ⊢
      exact cmpL_trans h k
    · have h3 : cmpZ (a.length : Int) c.length = cmpZ (b.length : Int) c.length := by rw [e]
      rw [if_pos h2] at k
      rw [if_pos (by omega), h3]; exact k
  · rw [if_pos h1] at h
    by_cases h2 : cmpZ (b.length : Int) c.length = 0
    · have e := cmpZ_zero h2
      have h3 : cmpZ (a.length : Int) c.length = cmpZ (a.length : Int) b.length := by rw [<- e]
      rw [if_pos (by omega), h3]; exact h
    · rw [if_pos h2] at k
      have := cmpZ_trans h k
      rw [if_pos (by omega)]; exact this
/-- Lists of lists, sorted. -/
def leS (x y : List Int) : Bool := !decide (cmpS y x < 0)
def sortS (xss : List (List Int)) : List (List Int) := xss.mergeSort leS
theorem leS_trans (a b c : List Int) (h : leS a b = true) (k : leS b c = true) : leS a c = true := by
  unfold leS at *
  simp only [Bool.not_eq_true', decide_eq_false_iff_not] at *
  intro h1
  have e1 := cmpS_anti a b
  have e2 := cmpS_anti b c
  by_cases z1 : cmpS a b = 0
  · have := cmpS_zero z1; subst this; exact k h1
  · by_cases z2 : cmpS b c = 0
    · have := cmpS_zero z2; subst this; exact h h1
    · have := cmpS_trans (a := a) (b := b) (c := c) (by omega) (by omega)
      have e3 := cmpS_anti a c
      omega
theorem leS_total (a b : List Int) : (leS a b || leS b a) = true := by
  unfold leS
  have := cmpS_anti a b
  by_cases h : cmpS a b < 0
  · rw [decide_eq_false (show ¬ cmpS b a < 0 by omega)]; simp
  · rw [decide_eq_false h]; simp
theorem leS_antisymm {a b : List Int} (h : leS a b = true) (k : leS b a = true) : a = b := by
  unfold leS at *
  simp only [Bool.not_eq_true', decide_eq_false_iff_not] at *
  have := cmpS_anti a b
  exact cmpS_zero (by omega)
theorem sortS_perm (xss : List (List Int)) : (sortS xss).Perm xss := List.mergeSort_perm _ _
theorem sortS_sorted (xss : List (List Int)) : (sortS xss).Pairwise fun a b => leS a b = true := List.pairwise_mergeSort leS_trans leS_total xss
theorem sortS_unique {xss ys : List (List Int)} (hp : ys.Perm xss) (hs : ys.Pairwise fun a b => leS a b = true) : sortS xss = ys :=
  List.Perm.eq_of_pairwise (fun a b _ _ h k => leS_antisymm h k) (sortS_sorted xss) hs ((sortS_perm xss).trans hp.symm)
/-- Where a list is put into a sorted row, from behind. -/
def posS (x : List Int) (out : List (List Int)) : Nat -> Nat
  | 0 => 0
  | k + 1 => if cmpS x (ix out (k : Int)) < 0 then posS x out k else k + 1
theorem posS_le (x : List Int) (out : List (List Int)) : ∀ k, posS x out k <= k
  | 0 => Nat.le_refl _
  | k + 1 => by unfold posS; split; (have := posS_le x out k; omega); exact Nat.le_refl _
theorem posS_behind (x : List Int) (out : List (List Int)) : ∀ k j, posS x out k <= j -> j < k -> cmpS x (ix out (j : Int)) < 0
  | 0, j, _, h => absurd h (Nat.not_lt_zero _)
  | k + 1, j, h1, h2 => by
    unfold posS at h1
    split at h1
    · rename_i h
      by_cases e : j = k
      · rw [e]; exact h
      · exact posS_behind x out k j h1 (by omega)
    · omega
theorem posS_ahead (x : List Int) (out : List (List Int)) : ∀ k, 0 < posS x out k -> ¬ cmpS x (ix out ((posS x out k - 1 : Nat) : Int)) < 0
  | 0, h => absurd h (by simp [posS])
  | k + 1, h => by
    unfold posS at h ⊢
    split
    · rename_i h1; rw [if_pos h1] at h; exact posS_ahead x out k h
    · rename_i h1; simpa using h1
def insS (x : List Int) (out : List (List Int)) : List (List Int) := out.take (posS x out out.length) ++ [x] ++ out.drop (posS x out out.length)
theorem insS_perm (x : List Int) (out : List (List Int)) : (insS x out).Perm (x :: out) := by
  unfold insS
  have h := List.take_append_drop (posS x out out.length) out
  have : (out.take (posS x out out.length) ++ [x] ++ out.drop (posS x out out.length)).Perm (x :: (out.take (posS x out out.length) ++ out.drop (posS x out out.length))) := by
    rw [List.append_assoc]
    exact List.perm_middle
  rw [h] at this
  exact this
theorem insS_sorted {x : List Int} {out : List (List Int)} (hs : out.Pairwise fun a b => leS a b = true) : (insS x out).Pairwise fun a b => leS a b = true := by
  have hle := posS_le x out out.length
  have hb := posS_behind x out out.length
  have ha := posS_ahead x out out.length
  unfold insS
  generalize posS x out out.length = p at *
  have h := hs
  rw [<- List.take_append_drop p out] at h
  obtain ⟨h1, h2, h3⟩ := List.pairwise_append.1 h
  have key1 : ∀ a ∈ out.take p, leS a x = true := by
    intro a hm
    rcases Nat.eq_zero_or_pos p with e | e
    · subst e; simp at hm
    · have hx := ha e
      have hl : leS (ix out ((p - 1 : Nat) : Int)) x = true := by unfold leS; simp only [Bool.not_eq_true', decide_eq_false_iff_not]; exact hx
      obtain ⟨j, hj, rfl⟩ := List.getElem_of_mem hm
      rw [List.length_take] at hj
      have e1 : (out.take p)[j] = ix out (j : Int) := by
        have := ix_some out (show j < out.length by omega)
        rw [List.getElem_take, <- Option.some.injEq, <- this, List.getElem?_eq_getElem]
      rw [e1]
      by_cases ej : j = p - 1
      · rw [ej]; exact hl
      · have hp := List.pairwise_iff_getElem.1 hs j (p - 1) (by omega) (by omega) (by omega)
        have q1 := ix_some out (show j < out.length by omega)
        have q2 := ix_some out (show p - 1 < out.length by omega)
        rw [List.getElem?_eq_getElem (by omega)] at q1 q2
        rw [Option.some.inj q1, Option.some.inj q2] at hp
        exact leS_trans _ _ _ hp hl
  have key2 : ∀ b ∈ out.drop p, leS x b = true := by
    intro b hm
    obtain ⟨j, hj, rfl⟩ := List.getElem_of_mem hm
    rw [List.length_drop] at hj
    have q := ix_some out (show p + j < out.length by omega)
    rw [List.getElem?_eq_getElem (by omega)] at q
    rw [List.getElem_drop, Option.some.inj q]
    have := hb (p + j) (by omega) (by omega)
    unfold leS
    have e := cmpS_anti x (ix out ((p + j : Nat) : Int))
    simp only [Bool.not_eq_true', decide_eq_false_iff_not]
    omega
  rw [List.append_assoc, List.pairwise_append]
  refine ⟨h1, ?_, ?_⟩
  · rw [List.singleton_append, List.pairwise_cons]
    exact ⟨key2, h2⟩
  · intro a hm b hm2
    rcases List.mem_append.1 hm2 with h | h
    · rw [List.mem_singleton.1 h]; exact key1 a hm
    · exact h3 a hm b h
def foldS (xss : List (List Int)) : Nat -> List (List Int)
  | 0 => []
  | k + 1 => insS (ix xss (k : Int)) (foldS xss k)
theorem foldS_ok (xss : List (List Int)) : ∀ k, k <= xss.length -> (foldS xss k).Perm (xss.take k) /\ (foldS xss k).Pairwise fun a b => leS a b = true
  | 0, _ => ⟨.refl _, List.Pairwise.nil⟩
  | k + 1, h => by
    obtain ⟨h1, h2⟩ := foldS_ok xss k (by omega)
    refine ⟨?_, insS_sorted h2⟩
    rw [take_ix xss (by omega)]
    exact (insS_perm _ _).trans ((List.Perm.cons _ h1).trans (List.perm_append_comm (l₁ := [ix xss (k : Int)])))
theorem foldS_all (xss : List (List Int)) : foldS xss xss.length = sortS xss := by
  obtain ⟨h1, h2⟩ := foldS_ok xss xss.length (Nat.le_refl _)
  rw [List.take_length] at h1
  exact (sortS_unique h1 h2).symm
theorem foldS_len (xss : List (List Int)) {k : Nat} (h : k <= xss.length) : (foldS xss k).length = k := by
  have := (foldS_ok xss k h).1.length_eq
  rw [this, List.length_take, Nat.min_eq_left h]
end Go.Proofs.Ytgcbdpehnonghaa
