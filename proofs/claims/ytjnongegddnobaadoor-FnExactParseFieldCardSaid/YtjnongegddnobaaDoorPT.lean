/- Fields read from their texts: plain facts. -/
import Derived.Test.YtjnongegddnobaaDoorPlV2
import Derived.Test.YtjnongegddnobaaDoorPlH
import Derived.Test.YtjnongegddnobaaDoorPlJ
namespace Go.Proofs.YtjnongegddnobaaDoor
open Go.Vc
set_option maxRecDepth 100000
set_option linter.unusedSimpArgs false
set_option linter.unusedVariables false
def partsB (s sep : ByteArray) : List ByteArray := Lib.splitB sep 0 (Lib.countB s sep) s
theorem partsB_one (s : ByteArray) (c : UInt8) : partsB s ⟨#[c]⟩ = splL s c := splB_splL s c
theorem partsB_len (s sep : ByteArray) (h : 1 <= sep.size) : (partsB s sep).length = Lib.countB s sep + 1 := Lib.splitB_all sep h 0 _ s rfl
theorem partsB_le (s sep : ByteArray) (h : 1 <= sep.size) : 1 <= (partsB s sep).length /\ (partsB s sep).length <= s.size + 1 := by
  rw [partsB_len s sep h]
  have := Lib.countB_le sep h s.size s (Nat.le_refl _)
  omega
theorem splitB_mem (sep : ByteArray) : ∀ (k : Nat) (s x : ByteArray), x ∈ Lib.splitB sep 0 k s -> x.size <= s.size
  | 0, s, x, h => by
    rw [List.mem_singleton.1 h]; exact Nat.le_refl _
  | k + 1, s, x, h => by
    unfold Lib.splitB at h
    split at h
    · rw [List.mem_singleton.1 h]; exact Nat.le_refl _
    · rcases List.mem_cons.1 h with rfl | h
      · rw [ByteArray.size_extract]; omega
      · have := splitB_mem sep k _ x h
        rw [ByteArray.size_extract] at this
        omega
theorem partsB_mem {s sep x : ByteArray} (h : x ∈ partsB s sep) : x.size <= s.size := splitB_mem sep _ s x h
theorem extract_from (s : ByteArray) (k : Nat) : s.extract k s.size = ⟨(s.data.toList.drop k).toArray⟩ := by
  apply ByteArray.ext
  apply Array.ext'
  rw [ByteArray.data_extract, Array.toList_extract, List.extract_eq_take_drop]
  have : s.size = s.data.toList.length := by simp
  rw [this, List.take_of_length_le (by simp)]
theorem joinB_list (xs : List ByteArray) (sep : ByteArray) : (joinB xs sep).data.toList = Lib.join (xs.map (·.data.toList)) sep.data.toList := by simp [joinB]
theorem join_cons2 (x y : List UInt8) (r : List (List UInt8)) (sep : List UInt8) : Lib.join (x :: y :: r) sep = x ++ (sep ++ Lib.join (y :: r) sep) := by
  rw [Lib.join_cons, Lib.join_cons]
  simp [Lib.joinTail, List.append_assoc]
theorem joinB_cons2 (x y : ByteArray) (r : List ByteArray) (sep : ByteArray) : joinB (x :: y :: r) sep = x ++ (sep ++ joinB (y :: r) sep) := by
  apply ByteArray.ext
  apply Array.ext'
  have e := join_cons2 x.data.toList y.data.toList (r.map (·.data.toList)) sep.data.toList
  have h1 := joinB_list (x :: y :: r) sep
  have h2 := joinB_list (y :: r) sep
  simp only [List.map_cons] at h1 h2
  rw [h1, e, <- h2]
  simp [ByteArray.data_append]
theorem joinB_app (sep : ByteArray) {B : List ByteArray} (hB : B ≠ []) : ∀ (A : List ByteArray), A ≠ [] -> joinB (A ++ B) sep = joinB A sep ++ (sep ++ joinB B sep)
  | [], h => (h rfl).elim
  | [a], _ => by
    obtain ⟨b, r, rfl⟩ : ∃ b r, B = b :: r := by cases B with | nil => exact (hB rfl).elim | cons b r => exact ⟨b, r, rfl⟩
    rw [List.singleton_append, joinB_cons2, joinB_one]
  | a :: a' :: A, _ => by
    have ih := joinB_app sep hB (a' :: A) (by simp)
    rw [List.cons_append, List.cons_append, joinB_cons2, joinB_cons2, <- List.cons_append, ih]
    simp only [ByteArray.append_assoc]
section
variable {sep : ByteArray} {c : UInt8} {p : Nat}
theorem occ_at {s : List UInt8} {j : Nat} (hp : sep.data.toList[p]? = some c) (h : Lib.occAt s sep.data.toList j = true) : ∀ q : Nat, q < sep.data.toList.length -> s[j + q]? = sep.data.toList[q]? := fun q hq => by
  unfold Lib.occAt at h
  obtain ⟨t, ht⟩ := List.isPrefixOf_iff_prefix.1 h
  rw [<- List.getElem?_drop, <- ht, List.getElem?_append_left hq]
theorem index_none_of (hp : sep.data.toList[p]? = some c) {x : ByteArray} (hx : c ∉ x.data.toList) : Lib.indexB x sep = -1 := by
  refine Lib.index_none (fun j _ => ?_)
  cases h : Lib.occAt x.data.toList sep.data.toList j with
  | false => rfl
  | true =>
    have := occ_at hp h p (List.getElem?_eq_some_iff.1 hp).1
    rw [hp] at this
    exact (hx (List.mem_of_getElem? this)).elim
theorem index_at (hp : sep.data.toList[p]? = some c) (hf : ∀ q : Nat, q < p -> sep.data.toList[q]? ≠ some c) {x t : ByteArray} (hx : c ∉ x.data.toList) : Lib.indexB (x ++ (sep ++ t)) sep = (x.size : Nat) := by
  have hl : (x ++ (sep ++ t)).data.toList = x.data.toList ++ (sep.data.toList ++ t.data.toList) := by simp [ByteArray.data_append]
  have hxs : x.size = x.data.toList.length := by simp
  have hpl := (List.getElem?_eq_some_iff.1 hp).1
  show Lib.index (x ++ (sep ++ t)).data.toList sep.data.toList = _
  rw [hl, hxs]
  refine Lib.index_first (by simp) ?_ (fun j hj => ?_)
  · unfold Lib.occAt
    rw [List.drop_left]
    exact List.isPrefixOf_iff_prefix.2 (List.prefix_append _ _)
  · cases h : Lib.occAt (x.data.toList ++ (sep.data.toList ++ t.data.toList)) sep.data.toList j with
    | false => rfl
    | true =>
      have := occ_at hp h p hpl
      rw [hp] at this
      by_cases hjp : j + p < x.data.toList.length
      · rw [List.getElem?_append_left hjp] at this
        exact (hx (List.mem_of_getElem? this)).elim
      · rw [List.getElem?_append_right (by omega), List.getElem?_append_left (by omega)] at this
        exact (hf _ (by omega) this).elim
theorem parts_join (hp : sep.data.toList[p]? = some c) (hf : ∀ q : Nat, q < p -> sep.data.toList[q]? ≠ some c) : ∀ xs : List ByteArray, xs ≠ [] -> (∀ x ∈ xs, c ∉ x.data.toList) -> partsB (joinB xs sep) sep = xs
  | [], h, _ => (h rfl).elim
  | [x], _, h => by
    rw [joinB_one]
    exact Lib.splitB_miss _ _ _ _ (index_none_of hp (h x (by simp)))
  | x :: y :: r, _, h => by
    have ih := parts_join hp hf (y :: r) (by simp) (fun z hz => h z (List.mem_cons_of_mem _ hz))
    rw [joinB_cons2]
    have hi := index_at (t := joinB (y :: r) sep) hp hf (h x (by simp))
    have h1 : 1 <= sep.size := by
      have := (List.getElem?_eq_some_iff.1 hp).1
      have e : sep.size = sep.data.toList.length := by simp
      omega
    have hl : (x ++ (sep ++ joinB (y :: r) sep)).data.toList = x.data.toList ++ (sep.data.toList ++ (joinB (y :: r) sep).data.toList) := by simp [ByteArray.data_append]
    have hxs : x.size = x.data.toList.length := by simp
    have hss : sep.size = sep.data.toList.length := by simp
    have e1 : (x ++ (sep ++ joinB (y :: r) sep)).extract 0 x.size = x := by
      rw [extract_upto, hl, hxs, List.take_left]
    have e2 : (x ++ (sep ++ joinB (y :: r) sep)).extract (x.size + sep.size) (x ++ (sep ++ joinB (y :: r) sep)).size = joinB (y :: r) sep := by
      rw [extract_from, hl, <- List.append_assoc, hxs, hss, <- List.length_append, List.drop_left]
    unfold partsB at ih ⊢
    rw [Lib.countB_hit _ sep x.size h1 hi, Nat.add_comm 1, Lib.splitB_hit _ _ _ _ _ hi, Nat.add_zero, e1, e2, ih]
end
/-! ### Numerals -/
theorem num_digits {n : Int} (h : 0 <= n) : ∀ b ∈ (numB n).data.toList, 48 <= b.toNat /\ b.toNat <= 57 := by
  unfold numB
  rw [List.toList_toArray]
  unfold Lib.itoa
  rw [if_neg (by omega)]
  exact dec_digit _
theorem num_ne {n : Int} (h : 0 <= n) : (numB n).data.toList ≠ [] := by
  unfold numB
  rw [List.toList_toArray]
  unfold Lib.itoa
  rw [if_neg (by omega)]
  intro e
  have := dec_pos n.toNat
  rw [e] at this
  simp at this
theorem mem_joinTail {b : UInt8} {sep : List UInt8} : ∀ {r : List (List UInt8)}, b ∈ Lib.joinTail sep r -> b ∈ sep \/ ∃ x ∈ r, b ∈ x
  | [], h => by simp [Lib.joinTail] at h
  | y :: r, h => by
    have e : Lib.joinTail sep (y :: r) = (sep ++ y) ++ Lib.joinTail sep r := by simp [Lib.joinTail]
    rw [e, List.mem_append, List.mem_append] at h
    rcases h with (h | h) | h
    · exact .inl h
    · exact .inr ⟨y, by simp, h⟩
    · rcases mem_joinTail h with h | ⟨x, hx, h⟩
      · exact .inl h
      · exact .inr ⟨x, List.mem_cons_of_mem _ hx, h⟩
theorem mem_words {xs : List Int} (h : ∀ x ∈ xs, 0 <= x) {b : UInt8} (hb : b ∈ (wordsB xs).data.toList) : b = 32 \/ (48 <= b.toNat /\ b.toNat <= 57) := by
  unfold wordsB at hb
  rw [joinB_list] at hb
  cases xs with
  | nil => simp [Lib.join_nil] at hb
  | cons x xs =>
    rw [List.map_cons, List.map_cons, Lib.join_cons, List.mem_append] at hb
    rcases hb with hb | hb
    · exact .inr (num_digits (h x (by simp)) b hb)
    · rcases mem_joinTail hb with hb | ⟨y, hy, hb⟩
      · exact .inl (by simpa using hb)
      · obtain ⟨z, hz, rfl⟩ := List.mem_map.1 hy
        obtain ⟨n, hn, rfl⟩ := List.mem_map.1 hz
        exact .inr (num_digits (h n (List.mem_cons_of_mem _ hn)) b hb)
theorem words_ne {xs : List Int} (h : ∀ x ∈ xs, 0 <= x) (hne : xs ≠ []) : wordsB xs ≠ ⟨#[]⟩ := by
  intro e
  have e2 := congrArg (fun s : ByteArray => s.data.toList) e
  cases xs with
  | nil => exact hne rfl
  | cons x xs =>
    simp only [wordsB] at e2
    rw [joinB_list, List.map_cons, List.map_cons, Lib.join_cons] at e2
    exact num_ne (h x (by simp)) (List.append_eq_nil_iff.1 e2).1
end Go.Proofs.YtjnongegddnobaaDoor
