/- The parts of a text are those that strings.Split makes: plain facts. -/
import Derived.Test.YtjnongegddnobaaDoorPlG
import Derived.Lib.SplitLaws
namespace Go.Proofs.YtjnongegddnobaaDoor
open Go.Vc
set_option maxRecDepth 100000
set_option linter.unusedSimpArgs false
set_option linter.unusedVariables false
def oneB (c : UInt8) : ByteArray := ⟨#[c]⟩
theorem indexB_hit {s : ByteArray} {c : UInt8} {k : Nat} (hk : k < s.size) (h : byteAt s (k : Int) = c) (hb : ∀ j : Nat, j < k -> byteAt s (j : Int) ≠ c) : Lib.indexB s (oneB c) = k := by
  show Lib.index s.data.toList [c] = _
  rw [Lib.index_one]
  have h1 := hasB_yes hk h
  unfold hasB at h1
  have h1 := of_decide_eq_true h1
  obtain ⟨o, ho⟩ : ∃ o : Nat, Lib.indexByte s.data.toList c = o := ⟨(Lib.indexByte s.data.toList c).toNat, by omega⟩
  obtain ⟨h2, h3⟩ := Lib.indexByte_some ho
  have hlt : o < s.data.toList.length := (List.getElem?_eq_some_iff.1 h2).1
  have hlt' : o < s.size := by simpa using hlt
  rw [byteAt_some s hlt'] at h2
  have h2 := Option.some.inj h2
  have eo : o = k := by
    rcases Nat.lt_trichotomy o k with g | g | g
    · exact (hb o g h2).elim
    · exact g
    · exact (h3 k g (by rw [byteAt_some s hk, h])).elim
  rw [ho, eo]
theorem indexB_miss {s : ByteArray} {c : UInt8} (hb : ∀ j : Nat, j < s.size -> byteAt s (j : Int) ≠ c) : Lib.indexB s (oneB c) = -1 := by
  show Lib.index s.data.toList [c] = _
  rw [Lib.index_one]
  have h := hasB_no hb
  unfold hasB at h
  have h := of_decide_eq_false h
  have g := Lib.indexByte_ge s.data.toList c
  omega
theorem byteAt_cut (s : ByteArray) {a b k : Nat} (hb : b <= s.size) (h : a + k < b) : byteAt (s.extract a b) (k : Int) = byteAt s ((a + k : Nat) : Int) := by
  have hz : k < (s.extract a b).size := by rw [ByteArray.size_extract]; omega
  have e1 := byteAt_some (s.extract a b) hz
  have e2 := byteAt_some s (show a + k < s.size by omega)
  have e3 : (s.extract a b).data.toList[k]? = s.data.toList[a + k]? := by
    rw [ByteArray.data_extract, Array.toList_extract, List.extract_eq_take_drop, List.getElem?_take, List.getElem?_drop, if_pos (by omega)]
  rw [e1, e2] at e3
  exact Option.some.inj e3
theorem cut_cut (s : ByteArray) {a b k l : Nat} (hl : a + l <= b) (hb : b <= s.size) : (s.extract a b).extract k l = s.extract (a + k) (a + l) := by
  apply ByteArray.ext
  rw [ByteArray.data_extract, ByteArray.data_extract, ByteArray.data_extract, Array.extract_extract, Nat.min_eq_left hl]
def splB (s : ByteArray) (c : UInt8) : List ByteArray := Lib.splitB (oneB c) 0 (Lib.countB s (oneB c)) s
theorem splB_hit {s : ByteArray} {c : UInt8} {k : Nat} (hk : k < s.size) (h : byteAt s (k : Int) = c) (hb : ∀ j : Nat, j < k -> byteAt s (j : Int) ≠ c) : splB s c = s.extract 0 k :: splB (s.extract (k + 1) s.size) c := by
  have e := indexB_hit hk h hb
  have h1 : 1 <= (oneB c).size := Nat.le_refl _
  unfold splB
  rw [Lib.countB_hit s (oneB c) k h1 e, Nat.add_comm 1, Lib.splitB_hit _ _ _ _ _ e]
  rfl
theorem splB_miss {s : ByteArray} {c : UInt8} (hb : ∀ j : Nat, j < s.size -> byteAt s (j : Int) ≠ c) : splB s c = [s] := Lib.splitB_miss _ _ _ _ (indexB_miss hb)
theorem splP_splB (s : ByteArray) (c : UInt8) : ∀ i, i <= s.size -> (∀ j : Nat, (splP s c i).2 <= j -> j < i -> byteAt s (j : Int) ≠ c) /\ (splP s c i).1 ++ splB (s.extract (splP s c i).2 s.size) c = splB s c
  | 0, _ => ⟨fun j _ h => absurd h (Nat.not_lt_zero _), by show [] ++ splB (s.extract 0 s.size) c = _; rw [extract_all]; rfl⟩
  | i + 1, hi => by
    obtain ⟨h1, h2⟩ := splP_splB s c i (by omega)
    have hle := splP_le s c i
    unfold splP
    split
    · rename_i e
      refine ⟨fun j h h' => absurd h' (by have h : i + 1 <= j := h; omega), ?_⟩
      show ((splP s c i).1 ++ [s.extract (splP s c i).2 i]) ++ splB (s.extract (i + 1) s.size) c = _
      rw [List.append_assoc, <- h2]
      congr 1
      generalize (splP s c i).2 = a at *
      have hz : (s.extract a s.size).size = s.size - a := by rw [ByteArray.size_extract, Nat.min_self]
      rw [splB_hit (s := s.extract a s.size) (k := i - a) (by omega) (by rw [byteAt_cut s (Nat.le_refl _) (by omega), show a + (i - a) = i by omega]; exact e) (fun j hj => by
        rw [byteAt_cut s (Nat.le_refl _) (by omega)]; exact h1 _ (by omega) (by omega))]
      rw [hz, cut_cut s (by omega) (Nat.le_refl _), cut_cut s (by omega) (Nat.le_refl _), show a + (i - a) = i by omega, show a + (i - a + 1) = i + 1 by omega, show a + (s.size - a) = s.size by omega]
      rfl
    · rename_i e
      refine ⟨fun j h h' => ?_, h2⟩
      by_cases ej : j = i
      · rw [ej]; exact e
      · exact h1 j h (by omega)
theorem splB_splL (s : ByteArray) (c : UInt8) : splB s c = splL s c := by
  obtain ⟨h1, h2⟩ := splP_splB s c s.size (Nat.le_refl _)
  have hle := splP_le s c s.size
  unfold splL
  rw [<- h2]
  congr 1
  generalize (splP s c s.size).2 = a at *
  have hz : (s.extract a s.size).size = s.size - a := by rw [ByteArray.size_extract, Nat.min_self]
  exact splB_miss (fun j hj => by rw [byteAt_cut s (Nat.le_refl _) (by omega)]; exact h1 _ (by omega) (by omega))
end Go.Proofs.YtjnongegddnobaaDoor
