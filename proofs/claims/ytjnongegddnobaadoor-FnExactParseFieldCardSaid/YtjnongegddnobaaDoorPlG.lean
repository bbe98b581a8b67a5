/- Numerals, bytes in texts, parts of texts: plain facts. -/
import Derived.Test.YtjnongegddnobaaDoorPl
import Derived.Lib.ItoaMem
import Derived.Lib.ItoaLen
import Derived.Lib.IndexLaws
import Derived.Lib.IndexBytes
import Derived.Lib.IndexMore
namespace Go.Proofs.YtjnongegddnobaaDoor
open Go.Vc
set_option maxRecDepth 100000
set_option linter.unusedSimpArgs false
set_option linter.unusedVariables false

def numB (n : Int) : ByteArray := ⟨(Lib.itoa n).toArray⟩
def digB : ByteArray := ⟨#[48, 49, 50, 51, 52, 53, 54, 55, 56, 57]⟩
theorem numB_neg {n : Int} (h : n < 0) : (⟨#[45]⟩ : ByteArray) ++ numB (-n) = numB n := by
  apply ByteArray.ext
  rw [ByteArray.data_append]
  unfold numB Lib.itoa
  rw [if_pos h, if_neg (by omega)]
  have e : (-n).toNat = n.natAbs := by omega
  rw [e]; simp
theorem digB_ex (k : Nat) (h : k < 10) : digB.extract k (k + 1) = ⟨#[UInt8.ofNat (48 + k)]⟩ := by
  rcases k with _ | _ | _ | _ | _ | _ | _ | _ | _ | _ | k <;> first | rfl | omega
theorem numB_low {n : Int} (h0 : 0 <= n) (h : n < 10) : digB.extract n.toNat (n + 1).toNat = numB n := by
  rw [show (n + 1).toNat = n.toNat + 1 by omega, digB_ex _ (by omega)]
  apply ByteArray.ext
  unfold numB Lib.itoa
  rw [if_neg (by omega), Lib.decDigits_one (by omega)]
theorem numB_high {n : Int} (h : 10 <= n) : numB (n / 10) ++ digB.extract (n % 10).toNat (n % 10 + 1).toNat = numB n := by
  rw [show (n % 10 + 1).toNat = (n % 10).toNat + 1 by omega, digB_ex _ (by omega)]
  apply ByteArray.ext
  rw [ByteArray.data_append]
  unfold numB Lib.itoa
  rw [if_neg (by omega), if_neg (by omega)]
  have e : Lib.decDigits n.toNat = Lib.decDigits (n.toNat / 10) ++ [UInt8.ofNat (48 + n.toNat % 10)] := by
    rw [Lib.decDigits, dif_neg (by omega)]
  rw [e, show (n / 10).toNat = n.toNat / 10 by omega, show (n % 10).toNat = n.toNat % 10 by omega]
  simp
theorem numB_size (n : Int) (h0 : -9223372036854775808 <= n) (h1 : n <= 9223372036854775807) : (numB n).size <= 21 := by
  have := Lib.itoa_length_le n h0 h1
  show (Lib.itoa n).toArray.size <= 21
  simpa using this
theorem digB_size (a b : Nat) : (digB.extract a b).size <= 10 := by
  rw [ByteArray.size_extract]
  have : digB.size = 10 := rfl
  omega
/-- Numbers that a text of k digits, or of a sign and fewer, spells. -/
def numIn (k : Nat) (n : Int) : Prop := k <= 9 /\ ((0 <= n /\ n < 10 ^ k) \/ (n < 0 /\ -n * 10 < 10 ^ k))
theorem numIn_bd {k : Nat} {n : Int} (h : numIn k n) : -1000000000 < n /\ n < 1000000000 := by
  obtain ⟨hk, h⟩ := h
  have : (10 : Int) ^ k <= 1000000000 := by
    rcases k with _ | _ | _ | _ | _ | _ | _ | _ | _ | _ | k <;> first | omega | decide
  omega
theorem numIn_neg {k : Nat} {n : Int} (h : numIn (k + 1) n) (hn : n < 0) : numIn k (-n) := by
  obtain ⟨hk, h⟩ := h
  rw [Int.pow_succ] at h
  exact ⟨by omega, .inl (by omega)⟩
theorem numIn_div {k : Nat} {n : Int} (h : numIn (k + 1) n) (hn : 10 <= n) : numIn k (n / 10) := by
  obtain ⟨hk, h⟩ := h
  rw [Int.pow_succ] at h
  exact ⟨by omega, .inl (by omega)⟩
theorem numIn_zero {n : Int} (h : numIn 0 n) : n = 0 := by
  obtain ⟨hk, h⟩ := h
  simp at h; omega
theorem numIn_of {n : Int} (h0 : -10000000 < n) (h1 : n < 10000000) : numIn 8 n := ⟨by omega, by simp only [Int.reducePow]; omega⟩

theorem extract_upto (s : ByteArray) (k : Nat) : s.extract 0 k = ⟨(s.data.toList.take k).toArray⟩ := by
  apply ByteArray.ext
  apply Array.ext'
  rw [ByteArray.data_extract]
  simp
/-- Whether a byte stands in a text. -/
def hasB (s : ByteArray) (c : UInt8) : Bool := decide (0 <= Lib.indexByte s.data.toList c)
theorem byteAt_some (s : ByteArray) {k : Nat} (h : k < s.size) : s.data.toList[k]? = some (byteAt s (k : Int)) := by
  unfold byteAt
  exact ix_some s.data.toList (k := k) (by simpa using h)
theorem hasB_yes {s : ByteArray} {c : UInt8} {k : Nat} (hk : k < s.size) (h : byteAt s (k : Int) = c) : hasB s c = true := by
  unfold hasB
  refine decide_eq_true ?_
  have g := Lib.indexByte_ge s.data.toList c
  rcases Int.lt_or_le (Lib.indexByte s.data.toList c) 0 with h1 | h1
  · have e1 : Lib.indexByte s.data.toList c = -1 := by omega
    exact (Lib.indexByte_none e1 k (by rw [byteAt_some s hk, h])).elim
  · exact h1
theorem hasB_no {s : ByteArray} {c : UInt8} (h : ∀ k : Nat, k < s.size -> byteAt s (k : Int) ≠ c) : hasB s c = false := by
  unfold hasB
  refine decide_eq_false (fun h0 => ?_)
  obtain ⟨o, ho⟩ : ∃ o : Nat, Lib.indexByte s.data.toList c = o := ⟨(Lib.indexByte s.data.toList c).toNat, by omega⟩
  obtain ⟨h1, _⟩ := Lib.indexByte_some ho
  have hlt : o < s.data.toList.length := (List.getElem?_eq_some_iff.1 h1).1
  have hlt' : o < s.size := by simpa using hlt
  rw [byteAt_some s hlt'] at h1
  exact h o hlt' (Option.some.inj h1)
/-- The part of a text ahead of a byte. -/
def frontB (s : ByteArray) (c : UInt8) : ByteArray := ⟨(if 0 <= Lib.indexByte s.data.toList c then s.data.toList.take (Lib.indexByte s.data.toList c).toNat else s.data.toList).toArray⟩
theorem frontB_at {s : ByteArray} {c : UInt8} {k : Nat} (hk : k < s.size) (h : byteAt s (k : Int) = c) (hb : ∀ j : Nat, j < k -> byteAt s (j : Int) ≠ c) : frontB s c = s.extract 0 k := by
  have h1 := hasB_yes hk h
  unfold hasB at h1
  have h1 := of_decide_eq_true h1
  obtain ⟨o, ho⟩ : ∃ o : Nat, Lib.indexByte s.data.toList c = o := ⟨(Lib.indexByte s.data.toList c).toNat, by omega⟩
  obtain ⟨h2, h3⟩ := Lib.indexByte_some ho
  have hlt : o < s.data.toList.length := (List.getElem?_eq_some_iff.1 h2).1
  have hlt' : o < s.size := by simpa using hlt
  rw [byteAt_some s hlt'] at h2
  have h2 := Option.some.inj h2
  have eo : o = k := by
    rcases Nat.lt_trichotomy o k with g | g | g
    · exact (hb o g h2).elim
    · exact g
    · exact (h3 k g (by rw [byteAt_some s hk, h])).elim
  unfold frontB
  rw [if_pos (by omega), ho, eo, Int.toNat_natCast, extract_upto]
theorem frontB_none {s : ByteArray} {c : UInt8} (hb : ∀ j : Nat, j < s.size -> byteAt s (j : Int) ≠ c) : frontB s c = s := by
  have h := hasB_no hb
  unfold hasB at h
  have h := of_decide_eq_false h
  unfold frontB
  rw [if_neg h]
theorem extract_all (s : ByteArray) : s.extract 0 s.size = s := by
  apply ByteArray.ext
  rw [ByteArray.data_extract]
  simp
/-- The parts of a text, as far as i. -/
def splP (s : ByteArray) (c : UInt8) : Nat -> List ByteArray × Nat
  | 0 => ([], 0)
  | i + 1 => if byteAt s (i : Int) = c then ((splP s c i).1 ++ [s.extract (splP s c i).2 i], i + 1) else splP s c i
def splL (s : ByteArray) (c : UInt8) : List ByteArray := (splP s c s.size).1 ++ [s.extract (splP s c s.size).2 s.size]
theorem splP_le (s : ByteArray) (c : UInt8) : ∀ i, (splP s c i).2 <= i /\ (splP s c i).1.length <= i
  | 0 => ⟨Nat.le_refl _, Nat.le_refl _⟩
  | i + 1 => by
    have h := splP_le s c i
    unfold splP
    split
    · refine ⟨Nat.le_refl _, ?_⟩
      simp; omega
    · exact ⟨by omega, by omega⟩
theorem splP_front (s : ByteArray) (c : UInt8) : ∀ i, i <= s.size -> (splP s c i = ([], 0) /\ ∀ j : Nat, j < i -> byteAt s (j : Int) ≠ c) \/ ∃ r, (splP s c i).1 = frontB s c :: r
  | 0, _ => .inl ⟨rfl, fun j hj => absurd hj (Nat.not_lt_zero _)⟩
  | i + 1, hi => by
    unfold splP
    rcases splP_front s c i (by omega) with ⟨h1, h2⟩ | ⟨r, h1⟩
    · by_cases e : byteAt s (i : Int) = c
      · right
        rw [if_pos e, h1]
        exact ⟨[], by rw [frontB_at (by omega) e h2]; rfl⟩
      · left
        rw [if_neg e, h1]
        refine ⟨rfl, fun j hj => ?_⟩
        by_cases ej : j = i
        · rw [ej]; exact e
        · exact h2 j (by omega)
    · right
      split
      · exact ⟨r ++ [s.extract (splP s c i).2 i], by rw [h1]; rfl⟩
      · exact ⟨r, h1⟩
theorem splL_front (s : ByteArray) (c : UInt8) : ix (splL s c) 0 = frontB s c := by
  unfold splL
  rcases splP_front s c s.size (Nat.le_refl _) with ⟨h1, h2⟩ | ⟨r, h1⟩
  · rw [h1, frontB_none h2]; exact extract_all s
  · rw [h1]; rfl
theorem splL_len (s : ByteArray) (c : UInt8) : 1 <= (splL s c).length /\ (splL s c).length <= s.size + 1 := by
  have := (splP_le s c s.size).2
  unfold splL
  rw [List.length_append]
  exact ⟨by simp, by simp; omega⟩
theorem frontB_size (s : ByteArray) (c : UInt8) : (frontB s c).size <= s.size := by
  show (List.toArray _).size <= _
  simp only [List.size_toArray]
  split
  · rw [List.length_take]
    have : s.data.toList.length = s.size := by simp
    omega
  · simp
theorem frontB_has (s : ByteArray) (c : UInt8) : hasB (frontB s c) c = false := by
  refine hasB_no (fun k hk e => ?_)
  have h1 := byteAt_some (frontB s c) hk
  rw [e] at h1
  have g := Lib.indexByte_ge s.data.toList c
  by_cases h0 : 0 <= Lib.indexByte s.data.toList c
  · obtain ⟨o, ho⟩ : ∃ o : Nat, Lib.indexByte s.data.toList c = o := ⟨(Lib.indexByte s.data.toList c).toNat, by omega⟩
    obtain ⟨h2, h3⟩ := Lib.indexByte_some ho
    have ef : (frontB s c).data.toList = s.data.toList.take o := by
      unfold frontB
      rw [if_pos h0, ho, Int.toNat_natCast]
    rw [ef] at h1
    have hk' : k < o := by
      have hh := (List.getElem?_eq_some_iff.1 h1).1
      rw [List.length_take] at hh
      omega
    rw [List.getElem?_take_of_lt hk'] at h1
    exact h3 k hk' h1
  · have ef : (frontB s c).data.toList = s.data.toList := by
      unfold frontB
      rw [if_neg h0]
    rw [ef] at h1
    have e1 : Lib.indexByte s.data.toList c = -1 := by omega
    exact Lib.indexByte_none e1 k h1
end Go.Proofs.YtjnongegddnobaaDoor
