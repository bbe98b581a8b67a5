/- What is read of a list of texts is seen. -/
import Derived.Test.YtjnongegddnobaaVc
import Derived.Deep.Strs
namespace Go.Vc
open Go.RowKit Go.ChangeShapes Go.WideShapes Go.Deep Go.Joins
set_option linter.unusedSimpArgs false
set_option linter.unusedVariables false
section
variable {H : Type} {enc : TypeId × Value → H} {P : Program} {w : World} {base : Nat} {held : Bool}
theorem strs_seen {a : Option Addr} {len cap : Nat} (Sx : Nat → ByteArray) (hl : len ≤ cap) (hc : ∀ x, a = some x → ∀ c, c < len → w.cell? (x.add c) = some (.string (Sx c))) (hn : a = none → len = 0) : Sees (allS w) (.strs ((List.range len).map Sx)) (.slice a len cap) := by
  by_cases h0 : len = 0
  · subst h0
    have := Sees.lst (S := allS w) (.strs []) [] 1 a cap rfl (Nat.zero_le _) 0 0 #[] (fun _ _ => Go.undef) (fun h => (h rfl).elim) (fun x hx => by cases hx) (fun i x j y hx => by simp at hx) (fun i x j y hx => by simp at hx)
    simpa using this
  · cases a with
    | none => exact (h0 (hn rfl)).elim
    | some x =>
      obtain ⟨b, o, c, rfl, hS, _⟩ := cell_here (hc x rfl 0 (by omega))
      have hcell : ∀ i, i < len → c[o + i]? = some (.string (Sx i)) := fun i hi => by
        obtain ⟨c', hS', hc'⟩ := cell_at (hc _ rfl i hi)
        rw [hS] at hS'; cases hS'
        exact hc'
      have key : ∀ i x, (((List.range len).map Sx).map AV.str)[i]? = some x → i < len ∧ x = .str (Sx i) := fun i x hx => by
        have hi := (List.getElem?_eq_some_iff.1 hx).1
        simp at hi
        refine ⟨hi, ?_⟩
        simp [hi] at hx
        exact hx.symm
      have := Sees.lst (S := allS w) (.strs ((List.range len).map Sx)) (((List.range len).map Sx).map .str) 1 (some ⟨b, o, none⟩) cap rfl (by simp; omega) b o c (fun i _ => .string (Sx i)) (fun _ => ⟨rfl, hS⟩) (fun x hx => by obtain ⟨n, _, rfl⟩ := List.mem_map.1 hx; rfl)
        (fun i x j y hx hy => by
          obtain ⟨hi, rfl⟩ := key i x hx
          cases j with
          | zero => rw [Nat.mul_one, Nat.add_zero]; exact hcell i hi
          | succ j => simp [AV.cells] at hy)
        (fun i x j y hx hy => by
          obtain ⟨hi, rfl⟩ := key i x hx
          cases j with
          | zero => simp [AV.cells] at hy; subst hy; exact .str _
          | succ j => simp [AV.cells] at hy)
      have e0 : (((List.range len).map Sx).map AV.str).length = len := by simp
      rw [e0] at this
      exact this
theorem sees_Strs {t e : TypeId} {v : Value} {d : DataW H} {p : List MemPlace} (ht : P.underlying t = some (.slice e)) (he : P.underlying e = some .string) (hc : P.cellsOf e = 1) (hv : ∃ a n c, v = .slice a n c)
    (h : DataW.Trod enc P w base (fun _ => true) held t v d p) : ∃ xs : List ByteArray, (xs.length ≤ 9223372036854775807 ∧ ∀ x ∈ xs, x.size ≤ 9223372036854775807) ∧ Sees (allS w) (.strs xs) v := by
  obtain ⟨a, n, c, rfl⟩ := hv
  obtain ⟨fuel, hf⟩ := h
  have hmx : maxLen = 9223372036854775807 := by decide
  rcases open_strs ht he hc (show DataW.trod enc P w base (fun _ => true) held fuel t [.slice a n c] = some (d, p) by simpa [Value.cells] using hf) with ⟨hcs, _⟩ | ⟨a', len, cap, m, Sx, hcs, _, hl, hm, hmm, _, hcell⟩
  · simp at hcs; obtain ⟨rfl, rfl, rfl⟩ := hcs
    exact ⟨[], ⟨by simp, fun x hx => by cases hx⟩, sees_nil rfl _⟩
  · simp at hcs; obtain ⟨rfl, rfl, rfl⟩ := hcs
    simp only [if_true] at hmm
    refine ⟨(List.range n).map Sx, ⟨by simp; omega, fun x hx => ?_⟩, strs_seen Sx hl (fun x hx c hc' => ?_) (fun h => by cases h)⟩
    · obtain ⟨i, hi, rfl⟩ := List.mem_map.1 hx
      have := (hcell i (by have := List.mem_range.1 hi; omega)).2
      omega
    · cases hx
      exact (hcell c (by omega)).1
end
end Go.Vc
