/- Texts split and joined again: plain facts. -/
import Derived.Test.YtjnongegddnobaaDoorPlV
import Derived.Test.YtjnongegddnobaaDoorPlJ
namespace Go.Proofs.YtjnongegddnobaaDoor
open Go.Vc
set_option maxRecDepth 100000
set_option linter.unusedSimpArgs false
set_option linter.unusedVariables false
theorem cut_has {s : ByteArray} {c : UInt8} {a b : Nat} (hb : b <= s.size) (h : ∀ j : Nat, a <= j -> j < b -> byteAt s (j : Int) ≠ c) : hasB (s.extract a b) c = false := by
  refine hasB_no (fun k hk => ?_)
  rw [ByteArray.size_extract] at hk
  rw [byteAt_cut s hb (by omega)]
  exact h _ (by omega) (by omega)
theorem splP_clean (s : ByteArray) (c : UInt8) : ∀ i, i <= s.size -> (∀ j : Nat, (splP s c i).2 <= j -> j < i -> byteAt s (j : Int) ≠ c) /\ ∀ x ∈ (splP s c i).1, hasB x c = false
  | 0, _ => ⟨fun j _ h => absurd h (Nat.not_lt_zero _), fun x hx => by cases hx⟩
  | i + 1, hi => by
    obtain ⟨h1, h2⟩ := splP_clean s c i (by omega)
    have hle := splP_le s c i
    unfold splP
    split
    · refine ⟨fun j h h' => absurd h' (by have h : i + 1 <= j := h; omega), fun x hx => ?_⟩
      rcases List.mem_append.1 hx with hx | hx
      · exact h2 x hx
      · rw [List.mem_singleton.1 hx]
        exact cut_has (by omega) h1
    · rename_i e
      refine ⟨fun j h h' => ?_, h2⟩
      by_cases ej : j = i
      · rw [ej]; exact e
      · exact h1 j h (by omega)
theorem splL_clean (s : ByteArray) (c : UInt8) : ∀ x ∈ splL s c, hasB x c = false := fun x hx => by
  obtain ⟨h1, h2⟩ := splP_clean s c s.size (Nat.le_refl _)
  unfold splL at hx
  rcases List.mem_append.1 hx with hx | hx
  · exact h2 x hx
  · rw [List.mem_singleton.1 hx]
    exact cut_has (Nat.le_refl _) h1
theorem cut_app (s : ByteArray) {a b e : Nat} (h1 : a <= b) (h2 : b <= e) (h3 : e <= s.size) : s.extract a b ++ s.extract b e = s.extract a e := by
  rw [ByteArray.extract_append_extract]
  congr 1 <;> omega
theorem cut_one {s : ByteArray} {c : UInt8} {k : Nat} (hk : k < s.size) (h : byteAt s (k : Int) = c) : s.extract k (k + 1) = oneB c := by
  apply ByteArray.ext
  apply Array.ext'
  have e1 := byteAt_some s hk
  rw [ByteArray.data_extract, Array.toList_extract, List.extract_eq_take_drop, show k + 1 - k = 1 by omega]
  apply List.ext_getElem?
  intro j
  rw [List.getElem?_take, List.getElem?_drop]
  rcases j with _ | j
  · rw [if_pos (by omega), Nat.add_zero, e1, h]; rfl
  · rw [if_neg (by omega)]; rfl
theorem join_splP (s : ByteArray) (c : UInt8) : ∀ i, i <= s.size -> joinB ((splP s c i).1 ++ [s.extract (splP s c i).2 i]) (oneB c) = s.extract 0 i /\ ((splP s c i).1 = [] -> (splP s c i).2 = 0)
  | 0, _ => ⟨joinB_one _ _, fun _ => rfl⟩
  | i + 1, hi => by
    obtain ⟨h1, h2⟩ := join_splP s c i (by omega)
    have hle := splP_le s c i
    unfold splP
    split
    · rename_i e
      refine ⟨?_, fun h => absurd h (by simp)⟩
      show joinB (((splP s c i).1 ++ [s.extract (splP s c i).2 i]) ++ [s.extract (i + 1) (i + 1)]) (oneB c) = _
      rw [joinB_snoc (by simp), h1, <- cut_one (by omega) e, cut_app s (by omega) (by omega) (by omega), cut_app s (by omega) (by omega) (by omega)]
    · rename_i e
      refine ⟨?_, h2⟩
      by_cases hn : (splP s c i).1 = []
      · rw [h2 hn, hn, List.nil_append, joinB_one]
      · rw [joinB_snoc hn] at h1 ⊢
        rw [<- cut_app s (b := i) hle.1 (by omega) (by omega), <- ByteArray.append_assoc, h1, cut_app s (by omega) (by omega) (by omega)]
theorem join_splL (s : ByteArray) (c : UInt8) : joinB (splL s c) (oneB c) = s := by
  unfold splL
  rw [(join_splP s c s.size (Nat.le_refl _)).1, extract_all]
end Go.Proofs.YtjnongegddnobaaDoor
