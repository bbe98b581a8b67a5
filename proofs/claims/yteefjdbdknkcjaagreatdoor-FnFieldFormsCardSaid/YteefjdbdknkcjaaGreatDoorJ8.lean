/- Texts joined: PT X7 X8 A10 PlY PZ. -/
import Derived.Test.YteefjdbdknkcjaaGreatDoorJ7
namespace Go.Proofs.YteefjdbdknkcjaaGreatDoor
open Go.Vc
set_option maxRecDepth 100000
set_option linter.unusedSimpArgs false
set_option linter.unusedVariables false
def partsB (s sep : ByteArray) : List ByteArray := Lib.splitB sep 0 (Lib.countB s sep) s
theorem partsB_one (s : ByteArray) (c : UInt8) : partsB s ⟨#[c]⟩ = splL s c := splB_splL s c
theorem partsB_len (s sep : ByteArray) (h : 1 <= sep.size) : (partsB s sep).length = Lib.countB s sep + 1 := Lib.splitB_all sep h 0 _ s rfl
theorem partsB_le (s sep : ByteArray) (h : 1 <= sep.size) : 1 <= (partsB s sep).length /\ (partsB s sep).length <= s.size + 1 := by
  rw [partsB_len s sep h]
  have := Lib.countB_le sep h s.size s (Nat.le_refl _)
  omega
theorem splitB_mem (sep : ByteArray) : ∀ (k : Nat) (s x : ByteArray), x ∈ Lib.splitB sep 0 k s -> x.size <= s.size
  | 0, s, x, h => by
    rw [List.mem_singleton.1 h]; exact Nat.le_refl _
  | k + 1, s, x, h => by
    unfold Lib.splitB at h
    split at h
    · rw [List.mem_singleton.1 h]; exact Nat.le_refl _
    · rcases List.mem_cons.1 h with rfl | h
      · rw [ByteArray.size_extract]; omega
      · have := splitB_mem sep k _ x h
        rw [ByteArray.size_extract] at this
        omega
theorem partsB_mem {s sep x : ByteArray} (h : x ∈ partsB s sep) : x.size <= s.size := splitB_mem sep _ s x h
theorem extract_from (s : ByteArray) (k : Nat) : s.extract k s.size = ⟨(s.data.toList.drop k).toArray⟩ := by
  apply ByteArray.ext
  apply Array.ext'
  rw [ByteArray.data_extract, Array.toList_extract, List.extract_eq_take_drop]
  have : s.size = s.data.toList.length := by simp
  rw [this, List.take_of_length_le (by simp)]
theorem joinB_list (xs : List ByteArray) (sep : ByteArray) : (joinB xs sep).data.toList = Lib.join (xs.map (·.data.toList)) sep.data.toList := by simp [joinB]
theorem join_cons2 (x y : List UInt8) (r : List (List UInt8)) (sep : List UInt8) : Lib.join (x :: y :: r) sep = x ++ (sep ++ Lib.join (y :: r) sep) := by
  rw [Lib.join_cons, Lib.join_cons]
  simp [Lib.joinTail, List.append_assoc]
theorem joinB_cons2 (x y : ByteArray) (r : List ByteArray) (sep : ByteArray) : joinB (x :: y :: r) sep = x ++ (sep ++ joinB (y :: r) sep) := by
  apply ByteArray.ext
  apply Array.ext'
  have e := join_cons2 x.data.toList y.data.toList (r.map (·.data.toList)) sep.data.toList
  have h1 := joinB_list (x :: y :: r) sep
  have h2 := joinB_list (y :: r) sep
  simp only [List.map_cons] at h1 h2
  rw [h1, e, <- h2]
  simp [ByteArray.data_append]
theorem joinB_app (sep : ByteArray) {B : List ByteArray} (hB : B ≠ []) : ∀ (A : List ByteArray), A ≠ [] -> joinB (A ++ B) sep = joinB A sep ++ (sep ++ joinB B sep)
  | [], h => (h rfl).elim
  | [a], _ => by
    obtain ⟨b, r, rfl⟩ : ∃ b r, B = b :: r := by cases B with | nil => exact (hB rfl).elim | cons b r => exact ⟨b, r, rfl⟩
    rw [List.singleton_append, joinB_cons2, joinB_one]
  | a :: a' :: A, _ => by
    have ih := joinB_app sep hB (a' :: A) (by simp)
    rw [List.cons_append, List.cons_append, joinB_cons2, joinB_cons2, <- List.cons_append, ih]
    simp only [ByteArray.append_assoc]
section
variable {sep : ByteArray} {c : UInt8} {p : Nat}
theorem occ_at {s : List UInt8} {j : Nat} (hp : sep.data.toList[p]? = some c) (h : Lib.occAt s sep.data.toList j = true) : ∀ q : Nat, q < sep.data.toList.length -> s[j + q]? = sep.data.toList[q]? := fun q hq => by
  unfold Lib.occAt at h
  obtain ⟨t, ht⟩ := List.isPrefixOf_iff_prefix.1 h
  rw [<- List.getElem?_drop, <- ht, List.getElem?_append_left hq]
theorem index_none_of (hp : sep.data.toList[p]? = some c) {x : ByteArray} (hx : c ∉ x.data.toList) : Lib.indexB x sep = -1 := by
  refine Lib.index_none (fun j _ => ?_)
  cases h : Lib.occAt x.data.toList sep.data.toList j with
  | false => rfl
  | true =>
    have := occ_at hp h p (List.getElem?_eq_some_iff.1 hp).1
    rw [hp] at this
    exact (hx (List.mem_of_getElem? this)).elim
theorem index_at (hp : sep.data.toList[p]? = some c) (hf : ∀ q : Nat, q < p -> sep.data.toList[q]? ≠ some c) {x t : ByteArray} (hx : c ∉ x.data.toList) : Lib.indexB (x ++ (sep ++ t)) sep = (x.size : Nat) := by
  have hl : (x ++ (sep ++ t)).data.toList = x.data.toList ++ (sep.data.toList ++ t.data.toList) := by simp [ByteArray.data_append]
  have hxs : x.size = x.data.toList.length := by simp
  have hpl := (List.getElem?_eq_some_iff.1 hp).1
  show Lib.index (x ++ (sep ++ t)).data.toList sep.data.toList = _
  rw [hl, hxs]
  refine Lib.index_first (by simp) ?_ (fun j hj => ?_)
  · unfold Lib.occAt
    rw [List.drop_left]
    exact List.isPrefixOf_iff_prefix.2 (List.prefix_append _ _)
  · cases h : Lib.occAt (x.data.toList ++ (sep.data.toList ++ t.data.toList)) sep.data.toList j with
    | false => rfl
    | true =>
      have := occ_at hp h p hpl
      rw [hp] at this
      by_cases hjp : j + p < x.data.toList.length
      · rw [List.getElem?_append_left hjp] at this
        exact (hx (List.mem_of_getElem? this)).elim
      · rw [List.getElem?_append_right (by omega), List.getElem?_append_left (by omega)] at this
        exact (hf _ (by omega) this).elim
theorem parts_join (hp : sep.data.toList[p]? = some c) (hf : ∀ q : Nat, q < p -> sep.data.toList[q]? ≠ some c) : ∀ xs : List ByteArray, xs ≠ [] -> (∀ x ∈ xs, c ∉ x.data.toList) -> partsB (joinB xs sep) sep = xs
  | [], h, _ => (h rfl).elim
  | [x], _, h => by
    rw [joinB_one]
    exact Lib.splitB_miss _ _ _ _ (index_none_of hp (h x (by simp)))
  | x :: y :: r, _, h => by
    have ih := parts_join hp hf (y :: r) (by simp) (fun z hz => h z (List.mem_cons_of_mem _ hz))
    rw [joinB_cons2]
    have hi := index_at (t := joinB (y :: r) sep) hp hf (h x (by simp))
    have h1 : 1 <= sep.size := by
      have := (List.getElem?_eq_some_iff.1 hp).1
      have e : sep.size = sep.data.toList.length := by simp
      omega
    have hl : (x ++ (sep ++ joinB (y :: r) sep)).data.toList = x.data.toList ++ (sep.data.toList ++ (joinB (y :: r) sep).data.toList) := by simp [ByteArray.data_append]
    have hxs : x.size = x.data.toList.length := by simp
    have hss : sep.size = sep.data.toList.length := by simp
    have e1 : (x ++ (sep ++ joinB (y :: r) sep)).extract 0 x.size = x := by
      rw [extract_upto, hl, hxs, List.take_left]
    have e2 : (x ++ (sep ++ joinB (y :: r) sep)).extract (x.size + sep.size) (x ++ (sep ++ joinB (y :: r) sep)).size = joinB (y :: r) sep := by
      rw [extract_from, hl, <- List.append_assoc, hxs, hss, <- List.length_append, List.drop_left]
    unfold partsB at ih ⊢
    rw [Lib.countB_hit _ sep x.size h1 hi, Nat.add_comm 1, Lib.splitB_hit _ _ _ _ _ hi, Nat.add_zero, e1, e2, ih]
end
/-! ### Numerals -/
theorem num_digits {n : Int} (h : 0 <= n) : ∀ b ∈ (numB n).data.toList, 48 <= b.toNat /\ b.toNat <= 57 := by
  unfold numB
  rw [List.toList_toArray]
  unfold Lib.itoa
  rw [if_neg (by omega)]
  exact dec_digit _
theorem num_ne {n : Int} (h : 0 <= n) : (numB n).data.toList ≠ [] := by
  unfold numB
  rw [List.toList_toArray]
  unfold Lib.itoa
  rw [if_neg (by omega)]
  intro e
  have := dec_pos n.toNat
  rw [e] at this
  simp at this
theorem mem_joinTail {b : UInt8} {sep : List UInt8} : ∀ {r : List (List UInt8)}, b ∈ Lib.joinTail sep r -> b ∈ sep \/ ∃ x ∈ r, b ∈ x
  | [], h => by simp [Lib.joinTail] at h
  | y :: r, h => by
    have e : Lib.joinTail sep (y :: r) = (sep ++ y) ++ Lib.joinTail sep r := by simp [Lib.joinTail]
    rw [e, List.mem_append, List.mem_append] at h
    rcases h with (h | h) | h
    · exact .inl h
    · exact .inr ⟨y, by simp, h⟩
    · rcases mem_joinTail h with h | ⟨x, hx, h⟩
      · exact .inl h
      · exact .inr ⟨x, List.mem_cons_of_mem _ hx, h⟩
theorem mem_words {xs : List Int} (h : ∀ x ∈ xs, 0 <= x) {b : UInt8} (hb : b ∈ (wordsB xs).data.toList) : b = 32 \/ (48 <= b.toNat /\ b.toNat <= 57) := by
  unfold wordsB at hb
  rw [joinB_list] at hb
  cases xs with
  | nil => simp [Lib.join_nil] at hb
  | cons x xs =>
    rw [List.map_cons, List.map_cons, Lib.join_cons, List.mem_append] at hb
    rcases hb with hb | hb
    · exact .inr (num_digits (h x (by simp)) b hb)
    · rcases mem_joinTail hb with hb | ⟨y, hy, hb⟩
      · exact .inl (by simpa using hb)
      · obtain ⟨z, hz, rfl⟩ := List.mem_map.1 hy
        obtain ⟨n, hn, rfl⟩ := List.mem_map.1 hz
        exact .inr (num_digits (h n (List.mem_cons_of_mem _ hn)) b hb)
theorem words_ne {xs : List Int} (h : ∀ x ∈ xs, 0 <= x) (hne : xs ≠ []) : wordsB xs ≠ ⟨#[]⟩ := by
  intro e
  have e2 := congrArg (fun s : ByteArray => s.data.toList) e
  cases xs with
  | nil => exact hne rfl
  | cons x xs =>
    simp only [wordsB] at e2
    rw [joinB_list, List.map_cons, List.map_cons, Lib.join_cons] at e2
    exact num_ne (h x (by simp)) (List.append_eq_nil_iff.1 e2).1
end Go.Proofs.YteefjdbdknkcjaaGreatDoor
namespace Go.Proofs.YteefjdbdknkcjaaGreatDoor
open Go.Vc Go.RowKit
set_option maxRecDepth 100000
set_option maxHeartbeats 1600000
set_option linter.unusedSimpArgs false
set_option linter.unusedVariables false
theorem atN_num {n : Int} (h0 : 0 <= n) (h1 : n <= 99) : atN (numB n) = n := by
  have h : Lib.atoiAll (numB n).data.toList = .ok n := atoiAll_itoa (by omega) (by omega)
  unfold atN
  rw [h]
def rdN (s : ByteArray) : List Int := if s = ⟨#[]⟩ then [] else (partsB s ⟨#[32]⟩).map atN
theorem rdN_words {xs : List Int} (h : ∀ x ∈ xs, 0 <= x /\ x <= 99) (hne : xs ≠ []) : rdN (wordsB xs) = xs := by
  unfold rdN
  rw [if_neg (words_ne (fun x hx => (h x hx).1) hne)]
  have e : partsB (wordsB xs) ⟨#[32]⟩ = xs.map numB := by
    unfold wordsB
    refine parts_join (sep := ⟨#[32]⟩) (c := 32) (p := 0) rfl (fun q hq => absurd hq (Nat.not_lt_zero _)) _ (by simpa using hne) (fun x hx => ?_)
    obtain ⟨n, hn, rfl⟩ := List.mem_map.1 hx
    intro hm
    have := (num_digits (h n hn).1 32 hm).1
    revert this; decide
  rw [e, List.map_map]
  have e2 : xs.map (atN ∘ numB) = xs.map id := List.map_congr_left (fun x hx => atN_num (h x hx).1 (h x hx).2)
  rw [e2, List.map_id]
def slash3 : ByteArray := ⟨#[32, 47, 32]⟩
def pfO (s : ByteArray) : List Int := rdN (ix (partsB s slash3) 0)
def pfD (s : ByteArray) : List (List Int) := ((partsB s slash3).drop 1).map rdN
def pfB (s : ByteArray) : Bool := good (pfO s) (pfD s) && decide (textB (pfO s) (pfD s) (pfD s).length = s)
theorem field_ne {o : List Int} {d : List (List Int)} (h : FieldOK o d) : o ≠ [] /\ ∀ r ∈ d, r ≠ [] := by
  have h1 := h.n1
  refine ⟨fun e => by rw [e] at h1; simp at h1, fun r hr e => ?_⟩
  have := h.len r hr
  rw [e] at this
  simp at this
  omega
theorem parts_text {o : List Int} {d : List (List Int)} (h : FieldOK o d) : partsB (textB o d d.length) slash3 = wordsB o :: d.map wordsB := by
  have e : textL o d d.length = wordsB o :: d.map wordsB := by unfold textL; rw [List.take_length]
  unfold textB
  rw [e]
  refine parts_join (sep := slash3) (c := 47) (p := 1) rfl (fun q hq => ?_) _ (by simp) (fun x hx => ?_)
  · obtain rfl : q = 0 := by omega
    decide
  · have key : ∀ xs : List Int, (∀ x ∈ xs, 0 <= x) -> (47 : UInt8) ∉ (wordsB xs).data.toList := fun xs hxs hm => by
      rcases mem_words hxs hm with e | e
      · exact absurd e (by decide)
      · exact absurd e.1 (by decide)
    rcases List.mem_cons.1 hx with rfl | hx
    · exact key o (fun x hx => (h.o99 x hx).1)
    · obtain ⟨r, hr, rfl⟩ := List.mem_map.1 hx
      exact key r (fun x hx => (h.d99 r hr x hx).1)
theorem pf_text {o : List Int} {d : List (List Int)} (h : FieldOK o d) : pfO (textB o d d.length) = o /\ pfD (textB o d d.length) = d := by
  obtain ⟨h1, h2⟩ := field_ne h
  unfold pfO pfD
  rw [parts_text h]
  refine ⟨rdN_words h.o99 h1, ?_⟩
  rw [List.drop_succ_cons, List.drop_zero, List.map_map]
  have e2 : d.map (rdN ∘ wordsB) = d.map id := List.map_congr_left (fun r hr => rdN_words (h.d99 r hr) (h2 r hr))
  rw [e2, List.map_id]
/-! ### The reference -/
def slash1 : ByteArray := ⟨#[47]⟩
def rdStep (rows : List (List Int)) (w : ByteArray) : Option (List (List Int)) :=
  if w = slash1 then some (rows ++ [[]]) else if okN w = true then some (rows.set (rows.length - 1) (ix rows ((rows.length - 1 : Nat) : Int) ++ [valN w])) else none
def rdL : List (List Int) -> List ByteArray -> Option (List (List Int))
  | rows, [] => some rows
  | rows, w :: ws => match rdStep rows w with | none => none | some r => rdL r ws
theorem rdL_app : ∀ (A B : List ByteArray) (rows : List (List Int)), rdL rows (A ++ B) = match rdL rows A with | none => none | some r => rdL r B
  | [], B, rows => rfl
  | w :: A, B, rows => by
    rw [List.cons_append, rdL, rdL]
    cases rdStep rows w with
    | none => rfl
    | some r => exact rdL_app A B r
def wordsOf (s : ByteArray) : List ByteArray := (splL s 32).take 80
def rdA (s : ByteArray) : Option (List (List Int)) := rdL [[]] (wordsOf s)
def rdO (s : ByteArray) : List Int := ix ((rdA s).getD []) 0
def rdD (s : ByteArray) : List (List Int) := ((rdA s).getD []).drop 1
def psB (s : ByteArray) : Bool := (rdA s).isSome && (good (rdO s) (rdD s) && decide (textB (rdO s) (rdD s) (rdD s).length = s))
theorem rd_num {P : List (List Int)} {r : List Int} {x : Int} (h0 : 0 <= x) (h1 : x <= 99) : rdStep (P ++ [r]) (numB x) = some (P ++ [r ++ [x]]) := by
  obtain ⟨e1, e2⟩ := okN_of (n := x) (s := numB x) (by omega) (by omega) rfl
  have hne : numB x ≠ slash1 := fun e => by
    have hm : (47 : UInt8) ∈ (numB x).data.toList := by rw [e]; decide
    have := (num_digits h0 47 hm).1
    revert this; decide
  unfold rdStep
  rw [if_neg hne, if_pos e1, e2]
  have hl : (P ++ [r]).length - 1 = P.length := by simp
  rw [hl]
  have e3 : ix (P ++ [r]) ((P.length : Nat) : Int) = r := by
    have := ix_some (P ++ [r]) (k := P.length) (by simp)
    rw [List.getElem?_append_right (Nat.le_refl _), Nat.sub_self] at this
    exact (Option.some.inj this).symm
  rw [e3]
  congr 1
  rw [List.set_append_right _ _ (Nat.le_refl _), Nat.sub_self]
  rfl
theorem rd_nums : ∀ (xs : List Int) (P : List (List Int)) (r : List Int), (∀ x ∈ xs, 0 <= x /\ x <= 99) -> rdL (P ++ [r]) (xs.map numB) = some (P ++ [r ++ xs])
  | [], P, r, _ => by rw [List.map_nil, List.append_nil]; rfl
  | x :: xs, P, r, h => by
    obtain ⟨h0, h1⟩ := h x (by simp)
    rw [List.map_cons, rdL, rd_num h0 h1]
    simp only
    rw [rd_nums xs P (r ++ [x]) (fun y hy => h y (List.mem_cons_of_mem _ hy)), List.append_assoc, List.singleton_append]
def flatW (o : List Int) (d : List (List Int)) (i : Nat) : List ByteArray := o.map numB ++ ((d.take i).map fun r => slash1 :: r.map numB).flatten
theorem flatW_succ (o : List Int) (d : List (List Int)) {i : Nat} (h : i < d.length) : flatW o d (i + 1) = flatW o d i ++ slash1 :: (ix d (i : Int)).map numB := by
  unfold flatW
  rw [take_ix d h]
  simp [List.append_assoc]
theorem flat_len {o : List Int} {d : List (List Int)} (h : FieldOK o d) : ∀ i, i <= d.length -> (flatW o d i).length <= 7 + 8 * i
  | 0, _ => by have := h.n7; simp [flatW]; omega
  | i + 1, hi => by
    have := flat_len h i (by omega)
    have hr := field_row_len h (show i < d.length by omega)
    rw [flatW_succ o d (by omega), List.length_append, List.length_cons, List.length_map]
    omega
theorem flat_clean {o : List Int} {d : List (List Int)} (h : FieldOK o d) : ∀ i, i <= d.length -> ∀ x ∈ flatW o d i, (32 : UInt8) ∉ x.data.toList
  | 0, _, x, hx => by
    simp only [flatW, List.take_zero, List.map_nil, List.flatten_nil, List.append_nil] at hx
    obtain ⟨n, hn, rfl⟩ := List.mem_map.1 hx
    intro hm
    exact absurd (num_digits (h.o99 n hn).1 32 hm).1 (by decide)
  | i + 1, hi, x, hx => by
    rw [flatW_succ o d (by omega), List.mem_append, List.mem_cons] at hx
    rcases hx with hx | rfl | hx
    · exact flat_clean h i (by omega) x hx
    · decide
    · obtain ⟨n, hn, rfl⟩ := List.mem_map.1 hx
      intro hm
      exact absurd (num_digits (field_row h (show i < d.length by omega) n hn).1 32 hm).1 (by decide)
theorem flat_ne {o : List Int} {d : List (List Int)} (h : FieldOK o d) (i : Nat) : flatW o d i ≠ [] := by
  have := (field_ne h).1
  unfold flatW
  intro e
  exact this (List.map_eq_nil_iff.1 (List.append_eq_nil_iff.1 e).1)
theorem text_flat {o : List Int} {d : List (List Int)} (h : FieldOK o d) : ∀ i, i <= d.length -> textB o d i = joinB (flatW o d i) ⟨#[32]⟩
  | 0, _ => by
    rw [textB_zero]
    simp [flatW, wordsB]
  | i + 1, hi => by
    have hr : ix d (i : Int) ≠ [] := (field_ne h).2 _ (ix_mem d (by omega))
    obtain ⟨y, r, e⟩ : ∃ y r, (ix d (i : Int)).map numB = y :: r := by
      cases hh : (ix d (i : Int)).map numB with
      | nil => exact (hr (List.map_eq_nil_iff.1 hh)).elim
      | cons y r => exact ⟨y, r, rfl⟩
    rw [textB_succ o d (by omega), flatW_succ o d (by omega), text_flat h i (by omega), joinB_app _ (by simp) _ (flat_ne h i)]
    unfold wordsB
    rw [e, joinB_cons2]
    have e3 : (⟨#[32, 47, 32]⟩ : ByteArray) = ⟨#[32]⟩ ++ (slash1 ++ ⟨#[32]⟩) := by decide
    rw [e3]
    simp only [ByteArray.append_assoc]
theorem rd_flat {o : List Int} {d : List (List Int)} (h : FieldOK o d) : ∀ i, i <= d.length -> rdL [[]] (flatW o d i) = some (o :: d.take i)
  | 0, _ => by
    have := rd_nums o [] [] h.o99
    simp only [flatW, List.take_zero, List.map_nil, List.flatten_nil, List.append_nil]
    exact this
  | i + 1, hi => by
    rw [flatW_succ o d (by omega), rdL_app, rd_flat h i (by omega)]
    simp only
    rw [rdL]
    have e : rdStep (o :: d.take i) slash1 = some ((o :: d.take i) ++ [[]]) := by unfold rdStep; rw [if_pos rfl]
    rw [e]
    simp only
    rw [rd_nums _ (o :: d.take i) [] (field_row h (by omega)), take_ix d (by omega)]
    rfl
theorem rd_text {o : List Int} {d : List (List Int)} (h : FieldOK o d) : rdA (textB o d d.length) = some (o :: d) := by
  have e1 : splL (textB o d d.length) 32 = flatW o d d.length := by
    rw [<- partsB_one, text_flat h _ (Nat.le_refl _)]
    exact parts_join (sep := ⟨#[32]⟩) (c := 32) (p := 0) rfl (fun q hq => absurd hq (Nat.not_lt_zero _)) _ (flat_ne h _) (flat_clean h _ (Nat.le_refl _))
  unfold rdA wordsOf
  have hl := flat_len h d.length (Nat.le_refl _)
  have hm := h.m7
  rw [e1, List.take_of_length_le (by omega), rd_flat h _ (Nat.le_refl _), List.take_length]
theorem ps_pf (s : ByteArray) : psB s = pfB s /\ (pfB s = true -> rdO s = pfO s /\ rdD s = pfD s) := by
  have key : pfB s = true -> psB s = true /\ rdO s = pfO s /\ rdD s = pfD s := fun h => by
    simp only [pfB, Bool.and_eq_true, decide_eq_true_eq] at h
    have hf := good_iff.1 h.1
    have e := rd_text hf
    rw [h.2] at e
    have eO : rdO s = pfO s := by unfold rdO; rw [e]; rfl
    have eD : rdD s = pfD s := by unfold rdD; rw [e]; rfl
    refine ⟨?_, eO, eD⟩
    unfold psB
    rw [eO, eD, e, h.1, decide_eq_true h.2]
    rfl
  refine ⟨?_, fun h => (key h).2⟩
  cases hp : pfB s with
  | true => exact (key hp).1
  | false =>
    cases hs : psB s with
    | false => rfl
    | true =>
      simp only [psB, Bool.and_eq_true, decide_eq_true_eq] at hs
      have hf := good_iff.1 hs.2.1
      obtain ⟨e1, e2⟩ := pf_text hf
      rw [hs.2.2] at e1 e2
      unfold pfB at hp
      rw [e1, e2, hs.2.1, decide_eq_true hs.2.2] at hp
      cases hp
end Go.Proofs.YteefjdbdknkcjaaGreatDoor
namespace Go.Proofs.YteefjdbdknkcjaaGreatDoor
open Go.Vc Go.RowKit
set_option maxRecDepth 100000
set_option maxHeartbeats 1600000
set_option linter.unusedSimpArgs false
set_option linter.unusedVariables false
def g_partsC : List AV -> Prop × AV × Heap
  | [.str s, .str t] => (1 <= t.size /\ s.size <= 1048576, .sl 0, [(0, .arr (.strs (partsB s t)))])
  | _ => (False, .undef, [])
theorem g_partsC_eq (s t : ByteArray) : g_partsC [.str s, .str t] = (1 <= t.size /\ s.size <= 1048576, .sl 0, [(0, .arr (.strs (partsB s t)))]) := (rfl)
theorem partsC_ok (s t : ByteArray) (hp : 1 <= t.size /\ s.size <= 1048576) : SpecOK Tryz.prog 50 [.str s, .str t] (.sl 0) [(0, .arr (.strs (partsB s t)))] := by
  intro S w cargs hS hsz hargs
  obtain ⟨v, u, rfl, h1, h2⟩ := args2 hsz hargs
  obtain rfl := sees_strv h1
  obtain rfl := sees_strv h2
  obtain ⟨hp1, hp2⟩ := hp
  obtain ⟨m, hm⟩ := maxLen0 hS
  refine (Tryz.strings_Split s t m w (by omega) hm hp1).mono ?_
  rintro e w' ⟨rfl, rfl⟩
  exact new_strs hS _ _ (partsB_len s t hp1) (Nat.succ_pos _) _
def t_partsC : Table := [(50, ownC g_partsC)]
theorem t_partsC_ok : TabOK Tryz.prog t_partsC := .cons Tryz.func50 (by kernel_rfl) (.own (by intro args hp; unfold g_partsC at hp ⊢; split at hp <;> first | exact hp.elim | exact ⟨partsC_ok _ _ hp, rfl⟩)) (.nil _)
attribute [go_sem] g_partsC_eq t_partsC
def g_rdNI : List AV -> Prop × AV × Heap
  | [.str s] => (s.size <= 1048576, .sl 0, [(0, .arr (.ints (rdN s)))])
  | _ => (False, .undef, [])
theorem g_rdNI_eq (s : ByteArray) : g_rdNI [.str s] = (s.size <= 1048576, .sl 0, [(0, .arr (.ints (rdN s)))]) := (rfl)
theorem rdNI_ok (s : ByteArray) (hp : s.size <= 1048576) : SpecOK Tryz.prog 51 [.str s] (.sl 0) [(0, .arr (.ints (rdN s)))] := by
  refine fun_ok (C := t_partsC ++ t_atoiC) (hint := hintX [8] [] 0 [] [] [] []) ((t_partsC_ok).append t_atoiC_ok) mixed Tryz.func51 rfl (by kernel_rfl) rfl ?_
  show codeA _ _ _ _ _ _ _ _
  simp only [go_sem, Tryz.results51]
  rw [beqL]
  refine partB_intro (fun h => ?_) (fun h => ?_)
  · unfold rdN; rw [if_pos (of_decide_eq_true h)]
  · have hz : (⟨#[32]⟩ : ByteArray).size = 1 := rfl
    obtain ⟨hl1, hl2⟩ := partsB_le s ⟨#[32]⟩ (by rw [hz]; omega)
    have hR : rdN s = (partsB s ⟨#[32]⟩).map atN := by unfold rdN; rw [if_neg (of_decide_eq_false h)]
    have hmem : ∀ i : Nat, i < (partsB s ⟨#[32]⟩).length -> (ix (partsB s ⟨#[32]⟩) (i : Int)).size <= 1048576 := fun i hi => by
      have := partsB_mem (ix_mem _ hi)
      omega
    rw [hR]
    generalize hp0 : partsB s ⟨#[32]⟩ = parts at *
    refine ⟨⟨by first | (rw [hz]; done) | omega | exact Nat.le_refl _, hp⟩, ?_⟩
    refine loop_intro (fun i : Nat => [(15, .int .i64 i), (14, .int .i64 parts.length), (13, .strs parts), (3, .sl 0)]) (fun i => [(0, .arr (.ints ((parts.take i).map atN)))]) 2 (fun i => i <= parts.length) (fun i => parts.length - i) 0 (Nat.zero_le _) (Nat.zero_le _) ?_ ?_
    · simp only [go_sem]
      repeat' (first | refine fork_intro (fun hb => ?_) (fun hb => ?_) | refine partB_intro (fun hb => ?_) (fun hb => ?_) | refine And.intro ?_ ?_)
      all_goals first | exact True.intro | omega | with_reducible rfl | exact congrArg (AV.int _) (by omega) | (first | rfl)
    · intro i hi
      have htl : ((parts.take i).map atN).length = i := by rw [List.length_map, List.length_take]; omega
      simp only [go_sem]
      refine fork_intro (fun hc => ?_) (fun hc => ?_)
      · have hm := hmem i (by omega)
        have e := take_succ_map atN parts (k := i) (by omega)
        refine ⟨by omega, hm, ?_⟩
        repeat' (first | refine fork_intro (fun hb => ?_) (fun hb => ?_) | refine partB_intro (fun hb => ?_) (fun hb => ?_) | refine And.intro ?_ ?_)
        all_goals first | exact True.intro | omega | with_reducible rfl | exact congrArg (AV.int _) (by omega) | (refine LoopEnd.intro (i + 1) (by first | omega) (by first | omega | (dsimp only; omega)) (by omega) ?_; simp only [go_sem]; (repeat' (first | refine fork_intro (fun hb => ?_) (fun hb => ?_) | refine partB_intro (fun hb => ?_) (fun hb => ?_) | refine And.intro ?_ ?_)); all_goals first | exact True.intro | omega | with_reducible rfl | exact congrArg (AV.int _) (by omega) | (first | rw [e])) | (first | rw [e])
      · rw [show i = parts.length by omega, List.take_length]
def t_rdNI : Table := [(51, ownC g_rdNI)]
theorem t_rdNI_ok : TabOK Tryz.prog t_rdNI := .cons Tryz.func51 (by kernel_rfl) (.own (by intro args hp; unfold g_rdNI at hp ⊢; split at hp <;> first | exact hp.elim | exact ⟨rdNI_ok _ hp, rfl⟩)) (.nil _)
attribute [go_sem] g_rdNI_eq t_rdNI
section
variable {P : Program} {own : Nat -> Prop} {S : Store} {ρ : Rho} {H : HF} {w : World}
theorem one_own (h : Rel own S ρ H w) (hown : ∀ b, w.heap.size <= b -> own b) {n : Nat} (hr : H n = none) (el : TypeId) (a : Option Addr) :
    Grow own S ρ H w S (ρ.set n w.heap.size 1) (addH [(n, .mat [[]])] H) { w with heap := w.heap.push (.cells #[.slice a 0 0] el) } /\
      V S (ρ.set n w.heap.size 1) (addH [(n, .mat [[]])] H) (.mt n) (.slice (some ⟨w.heap.size, 0, none⟩) 1 1) := by
  refine ⟨grow_own h hown hr _ el _ 1 ⟨#[.slice a 0 0], fun _ => ⟨el, by simp [Rho.set]⟩, by simp [Rho.set], by simp [Rho.set], fun i row hi => ?_⟩ (fun j hf => ?_), ?_⟩
  · rcases i with _ | i
    · cases hi
      exact ⟨⟨.slice a 0 0, rfl, a, Nat.zero_le _, by simp [Rho.set], fun h => by simp [Rho.set] at h⟩, fun h => by simp [Rho.set] at h⟩
    · simp at hi
  · unfold foot at hf
    rw [addH_self] at hf
    rcases hf with ⟨h1, _⟩ | ⟨i, row, _, _, h3⟩
    · exact h1
    · simp [Rho.set] at h3
  · have := V.mt (S := S) (ρ := ρ.set n w.heap.size 1) (H := addH [(n, .mat [[]])] H) n [[]] (some ⟨w.heap.size, 0, none⟩) (addH_self _ _ _) (fun _ => by simp [Rho.set])
    simpa [Rho.set] using this
theorem empty_run {TM ty : TypeId} {m b : Nat} (hap : ap P TM = some (m, b)) : ∃ el, (Instr.buildSlice TM 0 ⟨[]⟩).run P w = .ok (.slice (some ⟨w.heap.size, 0, none⟩) 0 0) { w with heap := w.heap.push (.cells #[] el) } := by
  obtain ⟨el, i, z, ht, hi, hzero, hzs, hsize, hby⟩ := ap_spec hap
  refine ⟨el, ?_⟩
  have : (Instr.buildSlice TM 0 ⟨[]⟩).run P w = .ok (.slice (some ⟨w.heap.size, 0, none⟩) 0 0) (w.alloc (.cells #[] el)) := by
    simp [Instr.buildSlice, run_underlying ht, sizeOf, typeInfo, hi, newRow, Array.range_zero', Instr.fill]
  exact this
theorem one_run {TM : TypeId} {b : Nat} (hap : ap P TM = some (1, b)) {hd : Value} (hc : hd.cells = #[hd]) : ∃ el, (Instr.buildSlice TM 1 ⟨[(0, hd)]⟩).run P w = .ok (.slice (some ⟨w.heap.size, 0, none⟩) 1 1) { w with heap := w.heap.push (.cells #[hd] el) } := by
  obtain ⟨el, i, z, ht, hi, hzero, hzs, hsize, hby⟩ := ap_spec hap
  obtain ⟨m, hm1⟩ : ∃ m : Nat, m = 1 := ⟨1, rfl⟩
  rw [<- hm1] at hzs hsize
  obtain ⟨cs, f1, f2, _, f4⟩ := fill_ok m [hd] 0 (madeCells z.cells (1 * m)) (fun v hv => by rw [List.mem_singleton.1 hv, hc, hm1]; rfl) (by rw [size_madeCells]; simp)
  have hparts : [(0, hd)] = (([hd] : List Value).zipIdx 0).map fun x => (x.2, x.1) := rfl
  have hnb : ¬ 16777216 < 1 * m := by subst hm1; omega
  have hz0 : ¬ 1 * m = 0 := by subst hm1; omega
  have hcs : cs = #[hd] := by
    have h1 : cs.size = 1 := by rw [f2, size_madeCells, hm1]
    have h2 := f4 0 hd 0 rfl (by omega)
    rw [hc, hm1] at h2
    have h3 : cs[0]? = some hd := by simpa using h2
    apply Array.ext (by rw [h1]; rfl)
    intro j g1 g2
    obtain rfl : j = 0 := by omega
    rw [Array.getElem?_eq_getElem g1] at h3
    exact Option.some.inj h3
  refine ⟨el, ?_⟩
  have : (Instr.buildSlice TM 1 ⟨[(0, hd)]⟩).run P w = .ok (.slice (some ⟨w.heap.size, 0, none⟩) 1 1) (w.alloc (.cells cs el)) := by
    simp only [madeCells] at f1
    rw [<- hparts, Nat.one_mul] at f1
    rw [Nat.one_mul] at hnb hz0
    simp [Instr.buildSlice, run_underlying ht, sizeOf, typeInfo, hi, hsize, hz0, zeroValue, hzero, hnb, f1, newRow]
  rw [hcs] at this
  exact this
end
theorem seed_region {hint : Hint} {i : Nat} {s : ByteArray} {e : Env} {h : Heap} {n : Nat} {Q : AQ} {p0 p1 p2 p3 p4 p5 : String} {f0 f1 f2 f3 f4 f5 : Array Edge} {t0 t1 t2 t3 t4 t5 : TypeId} {ts : Array TypeId}
    (he : e.get 0 = .str s) (hs : s.size <= 1048576)
    (hQ : Q .normal ((5, .mt n) :: (4, .strs (splL s 32)) :: (12, .mt n) :: (11, .undef) :: (10, .strs (splL s 32)) :: (9, .str s) :: e) ((n, .mat [[]]) :: h) (n + 1)) :
    UserP Tryz.prog hint (Code.region i ⟨[⟨some 9, .move (.tmp 0), t0, p0, f0, none⟩, ⟨some 10, .call ⟨.value (.func 77), ⟨[.tmp 9, .const (.int .u8 32)]⟩, ts⟩, t1, p1, f1, none⟩, ⟨some 11, .buildSlice 24 0 ⟨[]⟩, t2, p2, f2, none⟩, ⟨some 12, .buildSlice 25 1 ⟨[(0, .tmp 11)]⟩, t3, p3, f3, none⟩, ⟨some 4, .assign (.tmp 10), t4, p4, f4, none⟩, ⟨some 5, .assign (.tmp 12), t5, p5, f5, none⟩]⟩ false)
      [⟨some 9, .move (.tmp 0), t0, p0, f0, none⟩, ⟨some 10, .call ⟨.value (.func 77), ⟨[.tmp 9, .const (.int .u8 32)]⟩, ts⟩, t1, p1, f1, none⟩, ⟨some 11, .buildSlice 24 0 ⟨[]⟩, t2, p2, f2, none⟩, ⟨some 12, .buildSlice 25 1 ⟨[(0, .tmp 11)]⟩, t3, p3, f3, none⟩, ⟨some 4, .assign (.tmp 10), t4, p4, f4, none⟩, ⟨some 5, .assign (.tmp 12), t5, p5, f5, none⟩] Q e h n := by
  intro x a w hx0 hdst hsat
  have h12 : 12 < x.k := dstOK_mem hdst (o := ⟨some 12, .buildSlice 25 1 ⟨[(0, .tmp 11)]⟩, t3, p3, f3, none⟩) (by simp) 12 rfl
  refine wp_region ?_
  have hwl := wpOps_eq_wpList (P := Tryz.prog) (Q := fun ex a w => ∃ e h n, Q ex e h n /\ Sat x e h n a w) (ops := ⟨[⟨some 9, .move (.tmp 0), t0, p0, f0, none⟩, ⟨some 10, .call ⟨.value (.func 77), ⟨[.tmp 9, .const (.int .u8 32)]⟩, ts⟩, t1, p1, f1, none⟩, ⟨some 11, .buildSlice 24 0 ⟨[]⟩, t2, p2, f2, none⟩, ⟨some 12, .buildSlice 25 1 ⟨[(0, .tmp 11)]⟩, t3, p3, f3, none⟩, ⟨some 4, .assign (.tmp 10), t4, p4, f4, none⟩, ⟨some 5, .assign (.tmp 12), t5, p5, f5, none⟩]⟩)
    [⟨some 9, .move (.tmp 0), t0, p0, f0, none⟩, ⟨some 10, .call ⟨.value (.func 77), ⟨[.tmp 9, .const (.int .u8 32)]⟩, ts⟩, t1, p1, f1, none⟩, ⟨some 11, .buildSlice 24 0 ⟨[]⟩, t2, p2, f2, none⟩, ⟨some 12, .buildSlice 25 1 ⟨[(0, .tmp 11)]⟩, t3, p3, f3, none⟩, ⟨some 4, .assign (.tmp 10), t4, p4, f4, none⟩, ⟨some 5, .assign (.tmp 12), t5, p5, f5, none⟩] 0 (by simp)
  refine (congrFun (congrFun hwl a) w).mpr ?_
  refine wpList_append [⟨some 11, .buildSlice 24 0 ⟨[]⟩, t2, p2, f2, none⟩, ⟨some 12, .buildSlice 25 1 ⟨[(0, .tmp 11)]⟩, t3, p3, f3, none⟩, ⟨some 4, .assign (.tmp 10), t4, p4, f4, none⟩, ⟨some 5, .assign (.tmp 12), t5, p5, f5, none⟩] [⟨some 9, .move (.tmp 0), t0, p0, f0, none⟩, ⟨some 10, .call ⟨.value (.func 77), ⟨[.tmp 9, .const (.int .u8 32)]⟩, ts⟩, t1, p1, f1, none⟩] a w ?_
  refine opsA_seq (hint := hintX [] [] x.n0 [] []) (all := [⟨some 9, .move (.tmp 0), t0, p0, f0, none⟩, ⟨some 10, .call ⟨.value (.func 77), ⟨[.tmp 9, .const (.int .u8 32)]⟩, ts⟩, t1, p1, f1, none⟩, ⟨some 11, .buildSlice 24 0 ⟨[]⟩, t2, p2, f2, none⟩, ⟨some 12, .buildSlice 25 1 ⟨[(0, .tmp 11)]⟩, t3, p3, f3, none⟩, ⟨some 4, .assign (.tmp 10), t4, p4, f4, none⟩, ⟨some 5, .assign (.tmp 12), t5, p5, f5, none⟩]) t_splitS_ok (Nat.le_refl _) (K := fun e' h' n' => e' = (10, .strs (splL s 32)) :: (9, .str s) :: e /\ h' = h /\ n' = n) ?_ _ e h n a w (by
    simp only [dstOK, List.all_cons, Bool.and_eq_true, decide_eq_true_eq] at hdst ⊢
    exact ⟨hdst.1, hdst.2.1, rfl⟩) ?_ hsat
  · rintro e' h' n' a' w' ⟨rfl, rfl, rfl⟩ hs'
    show wpList Tryz.prog _ (fun ex a w => ∃ e h n, Q ex e h n /\ Sat x e h n a w) [⟨some 11, .buildSlice 24 0 ⟨[]⟩, t2, p2, f2, none⟩, ⟨some 12, .buildSlice 25 1 ⟨[(0, .tmp 11)]⟩, t3, p3, f3, none⟩, ⟨some 4, .assign (.tmp 10), t4, p4, f4, none⟩, ⟨some 5, .assign (.tmp 12), t5, p5, f5, none⟩] a' w'
    obtain ⟨S, ρ, s1, s2, hrel, hfx, hE, hkept, hk, hdf, hn, hxn⟩ := hs'
    have hown : ∀ b, w'.heap.size <= b -> x.own b := fun b hb => x.hown b (Nat.le_trans hkept.size hb)
    obtain ⟨el1, r11⟩ := empty_run (P := Tryz.prog) (w := w') (ty := t2) ap24
    have hrel1 := hrel.push (.cells #[] el1)
    have g0 : Grow x.own S ρ h'.look w' S ρ h'.look { w' with heap := w'.heap.push (.cells #[] el1) } := ⟨hrel1, fun _ _ h => h, fun _ h1 h2 => absurd h1 h2, .refl _ _, (Kept.refl _ _).alloc _⟩
    have hsz : ∀ b, ({ w' with heap := w'.heap.push (.cells #[] el1) } : World).heap.size <= b -> x.own b := fun b hb => hown b (by simp at hb; omega)
    obtain ⟨el2, r12⟩ := one_run (P := Tryz.prog) (w := { w' with heap := w'.heap.push (.cells #[] el1) }) (hd := .slice (some ⟨w'.heap.size, 0, none⟩) 0 0) ap25 rfl
    have hnn : h'.look n' = none := by
      cases hl : h'.look n' with
      | none => rfl
      | some k => exact absurd (hn n' (by rw [hl]; simp)) (Nat.lt_irrefl _)
    obtain ⟨g, hv⟩ := one_own hrel1 hsz hnn el2 (some ⟨w'.heap.size, 0, none⟩)
    have gg := g0.trans g
    generalize hw1 : ({ w' with heap := w'.heap.push (.cells #[] el1) } : World) = w1 at *
    generalize hw2 : ({ w1 with heap := w1.heap.push (.cells #[.slice (some ⟨w'.heap.size, 0, none⟩) 0 0] el2) } : World) = w2 at *
    have hlk : addH [(n', Blk.mat [[]])] h'.look = Heap.look ((n', Blk.mat [[]]) :: h') := addH_look [(n', Blk.mat [[]])] h'
    rw [hlk] at gg hv
    have v10 : V S ρ h'.look (.strs (splL s 32)) (a'.eval (.tmp 10)) := hE 10
    have E0 := hE.ext gg.store gg.keep
    have E1 := EnvRel.set (t := 11) (v := .undef) (cv := .slice (some ⟨w'.heap.size, 0, none⟩) 0 0) E0 (.pure _ _ (.undef _)) hk (by omega)
    have E2 := EnvRel.set (t := 12) E1 hv ((put_size _ _ _).trans hk) (by omega)
    have E3 := EnvRel.set (t := 4) E2 (gg.v v10) (((put_size _ _ _).trans (put_size _ _ _)).trans hk) (by omega)
    have E4 := EnvRel.set (t := 5) E3 hv ((((put_size _ _ _).trans (put_size _ _ _)).trans (put_size _ _ _)).trans hk) (by omega)
    refine step_val rfl (cv := .slice (some ⟨w'.heap.size, 0, none⟩) 0 0) (w' := w1) (by simp [execOp, r11]) ?_
    show wpList _ _ _ _ (a'.put (some 11) (.slice (some ⟨w'.heap.size, 0, none⟩) 0 0)) w1
    have e11 : (a'.put (some 11) (.slice (some ⟨w'.heap.size, 0, none⟩) 0 0)).eval (.tmp 11) = .slice (some ⟨w'.heap.size, 0, none⟩) 0 0 := eval_put (by omega)
    refine step_val rfl (cv := .slice (some ⟨w1.heap.size, 0, none⟩) 1 1) (w' := w2) (by simp [execOp, e11, r12]) ?_
    show wpList _ _ _ _ ((a'.put (some 11) (.slice (some ⟨w'.heap.size, 0, none⟩) 0 0)).put (some 12) (.slice (some ⟨w1.heap.size, 0, none⟩) 1 1)) w2
    have e10 : ((a'.put (some 11) (.slice (some ⟨w'.heap.size, 0, none⟩) 0 0)).put (some 12) (.slice (some ⟨w1.heap.size, 0, none⟩) 1 1)).eval (.tmp 10) = a'.eval (.tmp 10) := by rw [eval_ne (by omega), eval_ne (by omega)]
    refine step_val rfl (cv := a'.eval (.tmp 10)) (w' := w2) (by simp [execOp, e10]) ?_
    show wpList _ _ _ _ (((a'.put (some 11) (.slice (some ⟨w'.heap.size, 0, none⟩) 0 0)).put (some 12) (.slice (some ⟨w1.heap.size, 0, none⟩) 1 1)).put (some 4) (a'.eval (.tmp 10))) w2
    have e12 : (((a'.put (some 11) (.slice (some ⟨w'.heap.size, 0, none⟩) 0 0)).put (some 12) (.slice (some ⟨w1.heap.size, 0, none⟩) 1 1)).put (some 4) (a'.eval (.tmp 10))).eval (.tmp 12) = .slice (some ⟨w1.heap.size, 0, none⟩) 1 1 := by rw [eval_ne (by omega)]; exact eval_put (by rw [put_size]; omega)
    refine step_val rfl (cv := .slice (some ⟨w1.heap.size, 0, none⟩) 1 1) (w' := w2) (by simp [execOp, e12]) ?_
    show ∃ e h n, Q .normal e h n /\ Sat x e h n ((((a'.put (some 11) (.slice (some ⟨w'.heap.size, 0, none⟩) 0 0)).put (some 12) (.slice (some ⟨w1.heap.size, 0, none⟩) 1 1)).put (some 4) (a'.eval (.tmp 10))).put (some 5) (.slice (some ⟨w1.heap.size, 0, none⟩) 1 1)) w2
    refine ⟨_, _, _, hQ, S, _, s1, s2, gg.rel, hfx.keep gg.keep (fun r h1 h2 => ?_), E4, hkept.trans gg.kept, by rw [put_size, put_size, put_size, put_size]; exact hk, by rw [put_defers, put_defers, put_defers, put_defers]; exact hdf, fun r hr => ?_, by omega⟩
    · intro h3
      apply h2
      unfold Heap.look
      rw [if_neg (by omega)]
      exact h3
    · by_cases hrn : n' = r
      · omega
      · have : h'.look r ≠ none := fun h3 => hr (by unfold Heap.look; rw [if_neg hrn]; exact h3)
        have := hn r this
        omega
  · unfold t_splitS
    simp only [go_sem, he, g_splitS_eq]
    exact ⟨⟨hs, by omega, by omega⟩, rfl, by omega⟩
theorem rd_next {ws : List ByteArray} {i : Nat} (hi : i < ws.length) {R : List (List Int)} (h : rdL [[]] (ws.take i) = some R) : rdL [[]] (ws.take (i + 1)) = rdStep R (ix ws (i : Int)) := by
  rw [take_ix ws hi, rdL_app, h]
  simp only [rdL]
  cases rdStep R (ix ws (i : Int)) <;> rfl
theorem rd_fail {ws : List ByteArray} {i k : Nat} (hk : i <= k) (h : rdL [[]] (ws.take i) = none) : rdL [[]] (ws.take k) = none := by
  have e : ws.take k = ws.take i ++ (ws.take k).drop i := by
    have := List.take_append_drop i (ws.take k)
    rw [List.take_take, Nat.min_eq_left hk] at this
    exact this.symm
  rw [e, rdL_app, h]
def g_readFS : List AV -> Prop × AV
  | [.str s] => (s.size <= 1048576, .tup [.agg [.ints (rdO s), .rows (rdD s)], .bool (rdA s).isSome])
  | _ => (False, .undef)
theorem g_readFS_eq (s : ByteArray) : g_readFS [.str s] = (s.size <= 1048576, .tup [.agg [.ints (rdO s), .rows (rdD s)], .bool (rdA s).isSome]) := (rfl)
theorem readFS_ok (s : ByteArray) (hp : s.size <= 1048576) : SpecOK Tryz.prog 53 [.str s] (.tup [.agg [.ints (rdO s), .rows (rdD s)], .bool (rdA s).isSome]) [] := by
  refine fun_ok (C := t_splitS ++ t_readS) (hint := hintX [2, 29] [(1, [.mv 0 0]), (11, [.fz [5]])] 0 [] [] [] [(10, [12])]) ((t_splitS_ok).append t_readS_ok) mixed Tryz.func53 rfl (by kernel_rfl) rfl ?_
  show codeA _ _ _ _ _ _ _ _
  simp only [go_sem, Tryz.results53]
  refine seed_region rfl hp ?_
  simp only [go_sem]
  obtain ⟨l1, l2⟩ := splL_len s 32
  have hmem : ∀ i : Nat, i < (splL s 32).length -> (ix (splL s 32) (i : Int)).size <= 1048576 := fun i hi => by
    have h := ix_mem (splL s 32) hi
    rw [<- partsB_one] at h
    have := partsB_mem h
    rw [partsB_one] at this
    omega
  have hA : rdA s = rdL [[]] ((splL s 32).take 80) := rfl
  generalize splL s 32 = ws at *
  refine loop_intro (fun g : Nat × List (List Int) => [(6, .int .i64 g.1), (5, .mt 1), (4, .strs ws), (2, .bx 0 0), (3, .bool false)]) (fun g => [(1, .mat g.2), (0, .box [.nils, .nils])]) 2 (fun g => (g.1 <= ws.length /\ g.1 <= 80) /\ rdL [[]] (ws.take g.1) = some g.2 /\ (1 <= g.2.length /\ g.2.length <= g.1 + 1) /\ ∀ r ∈ g.2, r.length <= g.1) (fun g => ws.length - g.1) (0, [[]]) ⟨⟨Nat.zero_le _, Nat.zero_le _⟩, rfl, ⟨by show 1 <= 1; omega, by show 1 <= 1; omega⟩, fun r hr => by rw [List.mem_singleton.1 hr]; exact Nat.le_refl _⟩ (Nat.zero_le _) ?_ ?_
  · simp only [go_sem]
    repeat' (first | refine fork_intro (fun hb => ?_) (fun hb => ?_) | refine partB_intro (fun hb => ?_) (fun hb => ?_) | refine And.intro ?_ ?_)
    all_goals first | exact True.intro | omega | with_reducible rfl | exact congrArg (AV.int _) (by omega) | (first | rfl)
  · rintro ⟨i, R⟩ ⟨⟨hi, hi8⟩, hR, ⟨hR1, hR2⟩, hRr⟩
    simp only at hi hi8 hR hR1 hR2 hRr
    simp only [go_sem]
    rw [beqL]
    have done : rdA s = some R -> ((0 <= (0 : Int) /\ (0 : Int) < R.length) /\ (0 <= (1 : Int) /\ (1 : Int) <= R.length /\ (R.length : Int) <= R.length) /\ (AV.ints (ix R 0) = AV.ints (rdO s) /\ AV.rows (cutL R 1 R.length) = AV.rows (rdD s)) /\ AV.bool true = AV.bool (rdA s).isSome) := fun h => by
      have e1 : rdO s = ix R 0 := by unfold rdO; rw [h]; rfl
      have e2 : rdD s = R.drop 1 := by unfold rdD; rw [h]; rfl
      have e3 : cutL R 1 (R.length : Int) = R.drop 1 := by
        unfold cutL
        rw [Int.toNat_natCast, List.take_length]
        rfl
      rw [e1, e2, e3, h]
      exact ⟨by omega, by omega, ⟨rfl, rfl⟩, rfl⟩
    refine fork_intro (fun hc => ?_) (fun hc => ?_)
    · have hil : i < ws.length := by omega
      refine fork_intro (fun hc2 => ?_) (fun hc2 => ?_)
      · have hnx := rd_next hil hR
        refine ⟨by omega, partB_intro (fun hs => ?_) (fun hs => ?_)⟩
        · have hw : ix ws (i : Int) = slash1 := of_decide_eq_true hs
          have e : rdStep R (ix ws (i : Int)) = some (R ++ [[]]) := by unfold rdStep; rw [if_pos hw]
          rw [e] at hnx
          have hrow : ∀ r ∈ R ++ [[]], r.length <= i + 1 := fun r hr => by
            rcases List.mem_append.1 hr with hr | hr
            · have := hRr r hr; omega
            · rw [List.mem_singleton.1 hr]; exact Nat.zero_le _
          have hlen : (R ++ [[]]).length = R.length + 1 := by simp
          repeat' (first | refine fork_intro (fun hb => ?_) (fun hb => ?_) | refine partB_intro (fun hb => ?_) (fun hb => ?_) | refine And.intro ?_ ?_)
          all_goals first | exact True.intro | omega | with_reducible rfl | exact congrArg (AV.int _) (by omega) | (refine LoopEnd.intro ((i + 1, R ++ [[]])) (by first | omega | (first | exact ⟨by show i + 1 <= _ /\ i + 1 <= 80; omega, hnx, by show 1 <= (R ++ [[]]).length /\ (R ++ [[]]).length <= i + 1 + 1; omega, hrow⟩)) (by first | omega | (dsimp only; omega)) (by omega) ?_; simp only [go_sem]; (repeat' (first | refine fork_intro (fun hb => ?_) (fun hb => ?_) | refine partB_intro (fun hb => ?_) (fun hb => ?_) | refine And.intro ?_ ?_)); all_goals first | exact True.intro | omega | with_reducible rfl | exact congrArg (AV.int _) (by omega) | (first | rfl)) | (first | rfl)
        · have hw : ¬ ix ws (i : Int) = slash1 := of_decide_eq_false hs
          refine ⟨by omega, hmem i hil, partB_intro (fun hk => ?_) (fun hk => ?_)⟩
          · have hl1 : ((R.length : Int) - 1) = ((R.length - 1 : Nat) : Int) := by omega
            have e : rdStep R (ix ws (i : Int)) = some (R.set (R.length - 1) (ix R ((R.length - 1 : Nat) : Int) ++ [valN (ix ws (i : Int))])) := by unfold rdStep; rw [if_neg hw, if_pos hk]
            rw [e] at hnx
            rw [hk, cond_true, hl1, Int.toNat_natCast]
            have hlast := hRr _ (ix_mem R (show R.length - 1 < R.length by omega))
            generalize hx : ix R ((R.length - 1 : Nat) : Int) ++ [valN (ix ws (i : Int))] = x at *
            have hxl : x.length <= i + 1 := by rw [<- hx, List.length_append]; simp only [List.length_singleton]; omega
            have hrow : ∀ r ∈ R.set (R.length - 1) x, r.length <= i + 1 := fun r hr => by
              rcases List.mem_or_eq_of_mem_set hr with hr | rfl
              · have := hRr r hr; omega
              · exact hxl
            have hlen : (R.set (R.length - 1) x).length = R.length := List.length_set
            repeat' (first | refine fork_intro (fun hb => ?_) (fun hb => ?_) | refine partB_intro (fun hb => ?_) (fun hb => ?_) | refine And.intro ?_ ?_)
            all_goals first | exact True.intro | omega | with_reducible rfl | exact congrArg (AV.int _) (by omega) | (refine LoopEnd.intro ((i + 1, R.set (R.length - 1) x)) (by first | omega | (first | exact ⟨by show i + 1 <= _ /\ i + 1 <= 80; omega, hnx, by show 1 <= (R.set (R.length - 1) x).length /\ (R.set (R.length - 1) x).length <= i + 1 + 1; omega, hrow⟩)) (by first | omega | (dsimp only; omega)) (by omega) ?_; simp only [go_sem]; (repeat' (first | refine fork_intro (fun hb => ?_) (fun hb => ?_) | refine partB_intro (fun hb => ?_) (fun hb => ?_) | refine And.intro ?_ ?_)); all_goals first | exact True.intro | omega | with_reducible rfl | exact congrArg (AV.int _) (by omega) | (first | rfl)) | (first | rfl)
          · have e : rdStep R (ix ws (i : Int)) = none := by unfold rdStep; rw [if_neg hw, if_neg (by rw [hk]; simp)]
            rw [e] at hnx
            have hN : rdA s = none := by rw [hA]; exact rd_fail (by omega) hnx
            have e1 : rdO s = [] := by unfold rdO; rw [hN]; rfl
            have e2 : rdD s = [] := by unfold rdD; rw [hN]; rfl
            rw [e1, e2, hN]
            exact ⟨⟨rfl, rfl⟩, rfl⟩
      · have h80 : i = 80 := by omega
        rw [h80] at hR
        exact done (by rw [hA]; exact hR)
    · have hl : i = ws.length := by omega
      exact done (by rw [hA, List.take_of_length_le (by omega)]; rw [hl, List.take_length] at hR; exact hR)
def t_readFS : Table := [(53, pureC g_readFS)]
theorem t_readFS_ok : TabOK Tryz.prog t_readFS := .cons Tryz.func53 (by kernel_rfl) (.pure (by intro args hp; unfold g_readFS at hp ⊢; split at hp <;> first | exact hp.elim | exact readFS_ok _ hp)) (.nil _)
attribute [go_sem] g_readFS_eq t_readFS
theorem rd_bd : ∀ (ws : List ByteArray) (rows R : List (List Int)) (k : Nat), rdL rows ws = some R -> (∀ r ∈ rows, r.length <= k) -> R.length <= rows.length + ws.length /\ ∀ r ∈ R, r.length <= k + ws.length
  | [], rows, R, k, h, hk => by
    obtain rfl : rows = R := Option.some.inj h
    exact ⟨Nat.le_refl _, hk⟩
  | w :: ws, rows, R, k, h, hk => by
    rw [rdL] at h
    have key : ∀ r2, rdStep rows w = some r2 -> r2.length <= rows.length + 1 /\ ∀ r ∈ r2, r.length <= k + 1 := fun r2 h2 => by
      unfold rdStep at h2
      split at h2
      · obtain rfl := Option.some.inj h2
        refine ⟨by simp, fun r hr => ?_⟩
        rcases List.mem_append.1 hr with hr | hr
        · have := hk r hr; omega
        · rw [List.mem_singleton.1 hr]; exact Nat.zero_le _
      · split at h2
        · obtain rfl := Option.some.inj h2
          refine ⟨by rw [List.length_set]; omega, fun r hr => ?_⟩
          rcases List.mem_or_eq_of_mem_set hr with hr | rfl
          · have := hk r hr; omega
          · rw [List.length_append]
            by_cases h0 : rows.length - 1 < rows.length
            · have := hk _ (ix_mem rows h0)
              simp only [List.length_singleton]; omega
            · have e0 : rows = [] := List.length_eq_zero_iff.1 (by omega)
              subst e0
              show ([] : List Int).length + 1 <= _
              simp
        · cases h2
    cases hs : rdStep rows w with
    | none => rw [hs] at h; cases h
    | some r2 =>
      rw [hs] at h
      obtain ⟨g1, g2⟩ := key r2 hs
      obtain ⟨q1, q2⟩ := rd_bd ws r2 R (k + 1) h g2
      rw [List.length_cons]
      exact ⟨by omega, fun r hr => by have := q2 r hr; omega⟩
def g_parseFS : List AV -> Prop × AV
  | [.str s] => (s.size <= 1048576, .tup [.agg [.ints (bif pfB s then pfO s else []), .rows (bif pfB s then pfD s else [])], .bool (pfB s)])
  | _ => (False, .undef)
theorem g_parseFS_eq (s : ByteArray) : g_parseFS [.str s] = (s.size <= 1048576, .tup [.agg [.ints (bif pfB s then pfO s else []), .rows (bif pfB s then pfD s else [])], .bool (pfB s)]) := (rfl)
theorem parseFS_ok (s : ByteArray) (hp : s.size <= 1048576) : SpecOK Tryz.prog 23 [.str s] (.tup [.agg [.ints (bif pfB s then pfO s else []), .rows (bif pfB s then pfD s else [])], .bool (pfB s)]) [] := by
  refine fun_ok (C := t_readFS ++ t_l2Good ++ t_textS) (hint := hintX [2, 4] [] 0 [] [] [] []) (((t_readFS_ok).append t_l2Good_ok).append t_textS_ok) mixed Tryz.func23 rfl (by kernel_rfl) rfl ?_
  show codeA _ _ _ _ _ _ _ _
  simp only [go_sem, Tryz.results23]
  obtain ⟨e1, e2⟩ := ps_pf s
  have fin : ∀ b : Bool, b = false -> pfB s = b -> (((bif pfB s then pfO s else []) = [] /\ (bif pfB s then pfD s else []) = []) /\ AV.bool false = AV.bool (pfB s)) := fun b hb h => by rw [h, hb]; exact ⟨⟨rfl, rfl⟩, rfl⟩
  rw [beqL]
  refine ⟨hp, partB_intro (fun hs => ?_) (fun hs => ?_)⟩
  · obtain ⟨R, hR⟩ := Option.isSome_iff_exists.1 hs
    have hbd := rd_bd _ _ R 0 hR (fun r hr => by rw [List.mem_singleton.1 hr]; exact Nat.le_refl _)
    have hwl : (wordsOf s).length <= 80 := by unfold wordsOf; rw [List.length_take]; omega
    have f1 : (rdO s).length <= 80 := by
      unfold rdO; rw [hR]
      show (ix R 0).length <= 80
      rcases R with _ | ⟨r, R⟩
      · exact Nat.zero_le _
      · have := hbd.2 r List.mem_cons_self
        show r.length <= 80
        omega
    have f2 : (rdD s).length <= 81 := by
      unfold rdD; rw [hR]
      show (R.drop 1).length <= 81
      have := hbd.1
      rw [List.length_drop]
      simp only [List.length_singleton] at this
      omega
    have f3 : ∀ x ∈ rdD s, x.length <= 80 := fun x hx => by
      unfold rdD at hx; rw [hR] at hx
      have := hbd.2 x (List.mem_of_mem_drop hx)
      omega
    refine ⟨⟨by omega, by omega, fun x hx => by have := f3 x hx; omega⟩, partB_intro (fun hg => ⟨good_iff.1 hg, partB_intro (fun ht => ?_) (fun ht => ?_)⟩) (fun hg => ?_)⟩
    · have hps : psB s = true := by unfold psB; rw [hs, hg, ht]; rfl
      have hpf : pfB s = true := by rw [<- e1]; exact hps
      obtain ⟨q1, q2⟩ := e2 hpf
      rw [q1, q2, hpf]
      exact ⟨⟨rfl, rfl⟩, rfl⟩
    · exact fin false rfl (by rw [<- e1]; unfold psB; rw [ht]; simp)
    · exact fin false rfl (by rw [<- e1]; unfold psB; rw [hg]; simp)
  · exact fin false rfl (by rw [<- e1]; unfold psB; rw [hs]; rfl)
def t_parseFS : Table := [(23, pureC g_parseFS)]
theorem t_parseFS_ok : TabOK Tryz.prog t_parseFS := .cons Tryz.func23 (by kernel_rfl) (.pure (by intro args hp; unfold g_parseFS at hp ⊢; split at hp <;> first | exact hp.elim | exact parseFS_ok _ hp)) (.nil _)
attribute [go_sem] g_parseFS_eq t_parseFS
theorem rdN_len (s : ByteArray) : (rdN s).length <= s.size + 1 := by
  unfold rdN
  split
  · exact Nat.zero_le _
  · rw [List.length_map]
    have hz : (⟨#[32]⟩ : ByteArray).size = 1 := rfl
    exact (partsB_le s ⟨#[32]⟩ (by rw [hz]; omega)).2
def g_parseFI : List AV -> Prop × AV × Heap
  | [.str s] => (s.size <= 1048576, .tup [.agg [.sl 2, .mt 4], .bool (pfB s)], [(2, .arr (.ints (bif pfB s then pfO s else []))), (4, .mat (bif pfB s then pfD s else []))])
  | _ => (False, .undef, [])
theorem g_parseFI_eq (s : ByteArray) : g_parseFI [.str s] = (s.size <= 1048576, .tup [.agg [.sl 2, .mt 4], .bool (pfB s)], [(2, .arr (.ints (bif pfB s then pfO s else []))), (4, .mat (bif pfB s then pfD s else []))]) := (rfl)
theorem parseFI_ok (s : ByteArray) (hp : s.size <= 1048576) : SpecOK Tryz.prog 21 [.str s] (.tup [.agg [.sl 2, .mt 4], .bool (pfB s)]) [(2, .arr (.ints (bif pfB s then pfO s else []))), (4, .mat (bif pfB s then pfD s else []))] := by
  refine fun_ok (C := t_partsC ++ t_rdNI ++ t_ftextI) (hint := hintX [2, 5, 15, 27] [(2, [.post, .upf 5 1 (.mat [])]), (10, [.post, .drop [2, 3, 4] 2, .upf 2 0 (.arr (.ints [])), .skip, .upf 2 1 (.mat [])])] 0 [] [] [] []) (((t_partsC_ok).append t_rdNI_ok).append t_ftextI_ok) mixed Tryz.func21 rfl (by kernel_rfl) rfl ?_
  show codeA _ _ _ _ _ _ _ _
  simp only [go_sem, Tryz.results21]
  have hz : (⟨#[32, 47, 32]⟩ : ByteArray).size = 3 := rfl
  obtain ⟨hl1, hl2⟩ := partsB_le s slash3 (by show 1 <= (⟨#[32, 47, 32]⟩ : ByteArray).size; rw [hz]; omega)
  have hmem : ∀ i : Nat, i < (partsB s slash3).length -> (ix (partsB s slash3) (i : Int)).size <= 1048576 := fun i hi => by
    have := partsB_mem (ix_mem _ hi)
    omega
  have hO : pfO s = rdN (ix (partsB s slash3) 0) := rfl
  have hD : pfD s = ((partsB s slash3).drop 1).map rdN := rfl
  have hB : pfB s = (good (pfO s) (pfD s) && decide (textB (pfO s) (pfD s) (pfD s).length = s)) := rfl
  have es : (⟨#[32, 47, 32]⟩ : ByteArray) = slash3 := rfl
  rw [es, <- hO]
  have hcut : cutL (partsB s slash3) 1 ((partsB s slash3).length : Int) = (partsB s slash3).drop 1 := by
    unfold cutL
    rw [Int.toNat_natCast, List.take_length]
    rfl
  rw [hcut]
  have hm0 := hmem 0 (by omega)
  have hrm : ∀ i : Nat, i < ((partsB s slash3).drop 1).length -> (ix ((partsB s slash3).drop 1) (i : Int)).size <= 1048576 := fun i hi => by
    have := partsB_mem (List.mem_of_mem_drop (ix_mem _ hi))
    omega
  have hrl : ((partsB s slash3).drop 1).length <= 1048576 := by rw [List.length_drop]; omega
  have hOl : (pfO s).length <= 1048577 := by have := rdN_len (ix (partsB s slash3) 0); rw [hO]; have h0 : (ix (partsB s slash3) 0).size <= 1048576 := hm0; omega
  refine ⟨⟨by show 1 <= 3; omega, hp⟩, by omega, hm0, by omega, ?_⟩
  generalize (partsB s slash3).drop 1 = rest at *
  refine loop_intro (fun i : Nat => [(20, .int .i64 i), (19, .int .i64 rest.length), (18, .strs rest), (5, .bx 3 0), (3, .bool false), (2, .bx 0 0), (0, .str s)]) (fun i => [(4, .mat ((rest.take i).map rdN)), (3, .box [.sl 2, .mt 4]), (2, .arr (.ints (pfO s))), (0, .box [.nils, .nils])]) 5 (fun i => i <= rest.length) (fun i => rest.length - i) 0 (Nat.zero_le _) (Nat.zero_le _) ?_ ?_
  · simp only [go_sem]
    repeat' (first | refine fork_intro (fun hb => ?_) (fun hb => ?_) | refine partB_intro (fun hb => ?_) (fun hb => ?_) | refine And.intro ?_ ?_)
    all_goals first | exact True.intro | omega | with_reducible rfl | exact congrArg (AV.int _) (by omega) | (first | rfl)
  · intro i hi
    have htl : ((rest.take i).map rdN).length = i := by rw [List.length_map, List.length_take]; omega
    simp only [go_sem]
    rw [beqL]
    have no : pfB s = false -> (AV.bool false = AV.bool (pfB s) /\ AV.ints [] = AV.ints (bif pfB s then pfO s else []) /\ [] = bif pfB s then pfD s else []) := fun h => by rw [h]; exact ⟨rfl, rfl, rfl⟩
    refine fork_intro (fun hc => ?_) (fun hc => ?_)
    · have hil : i < rest.length := by omega
      have hms := hrm i hil
      have e := take_succ_map rdN rest hil
      repeat' (first | refine fork_intro (fun hb => ?_) (fun hb => ?_) | refine partB_intro (fun hb => ?_) (fun hb => ?_) | refine And.intro ?_ ?_)
      all_goals first | exact True.intro | omega | with_reducible rfl | exact congrArg (AV.int _) (by omega) | (refine LoopEnd.intro (i + 1) (by first | omega) (by first | omega | (dsimp only; omega)) (by omega) ?_; simp only [go_sem]; (repeat' (first | refine fork_intro (fun hb => ?_) (fun hb => ?_) | refine partB_intro (fun hb => ?_) (fun hb => ?_) | refine And.intro ?_ ?_)); all_goals first | exact True.intro | omega | with_reducible rfl | exact congrArg (AV.int _) (by omega) | (first | rw [e])) | (first | rw [e])
    · have hR : rest.take i = rest := List.take_of_length_le (by omega)
      rw [hR, <- hD] at htl ⊢
      refine ⟨⟨by omega, by omega, fun x hx => ?_⟩, partB_intro (fun hg => partB_intro (fun ht => ?_) (fun ht => ?_)) (fun hg => ?_)⟩
      · rw [hD] at hx
        obtain ⟨p, hp2, rfl⟩ := List.mem_map.1 hx
        have h1 := rdN_len p
        obtain ⟨j, hj, rfl⟩ := List.getElem_of_mem hp2
        have h2 := hrm j hj
        have h3 := ix_some rest hj
        rw [List.getElem?_eq_getElem hj] at h3
        rw [<- Option.some.inj h3] at h2
        omega
      · rw [hg, cond_true] at ht
        have hpf : pfB s = true := by rw [hB, hg, ht]; rfl
        rw [hpf]
        exact ⟨rfl, rfl, rfl⟩
      · rw [hg, cond_true] at ht
        exact no (by rw [hB, ht]; simp)
      · exact no (by rw [hB, hg]; rfl)
def t_parseFI : Table := [(21, ownC g_parseFI)]
theorem t_parseFI_ok : TabOK Tryz.prog t_parseFI := .cons Tryz.func21 (by kernel_rfl) (.own (by intro args hp; unfold g_parseFI at hp ⊢; split at hp <;> first | exact hp.elim | exact ⟨parseFI_ok _ hp, rfl⟩)) (.nil _)
attribute [go_sem] g_parseFI_eq t_parseFI
end Go.Proofs.YteefjdbdknkcjaaGreatDoor
namespace Go.Proofs.YteefjdbdknkcjaaGreatDoor
open Go.Vc
set_option maxRecDepth 100000
set_option linter.unusedSimpArgs false
set_option linter.unusedVariables false

def leD (d : List (List Int)) (a b : Int) (i : Nat) : Bool := decide (ix (ix d (i : Int)) b <= ix (ix d (i : Int)) a)
def eqD (d : List (List Int)) (a b : Int) (i : Nat) : Bool := decide (ix (ix d (i : Int)) a = ix (ix d (i : Int)) b)
def sameB (o : List Int) (d : List (List Int)) (a b : Int) (i : Nat) : Bool := decide (ix o a = ix o b) && allN (eqD d a b) i
def replB (o : List Int) (d : List (List Int)) (a b : Int) : Bool := allN (leD d a b) d.length && (decide (ix o b <= ix o a) && (!sameB o d a b d.length || decide (b < a)))
def needB (o : List Int) (d : List (List Int)) (a b : Nat) : Bool := decide ((a : Int) = b) || !replB o d a b
def neededL (o : List Int) (d : List (List Int)) : List Int := sel (fun a => allN (needB o d a) o.length) o.length

end Go.Proofs.YteefjdbdknkcjaaGreatDoor
namespace Go.Proofs.YteefjdbdknkcjaaGreatDoor
open Go.Vc
set_option maxRecDepth 100000
set_option linter.unusedSimpArgs false
set_option linter.unusedVariables false

theorem bestT_le (v : List Int -> Int) (xss : List (List Int)) : ∀ k : Nat, v (bestT v xss k) <= v (ix xss 0) /\ ∀ q : Nat, q < k -> v (bestT v xss k) <= v (ix xss (q : Int))
  | 0 => ⟨Int.le_refl _, fun q hq => by omega⟩
  | k + 1 => by
    obtain ⟨h1, h2⟩ := bestT_le v xss k
    unfold bestT
    by_cases e : v (ix xss (k : Int)) < v (bestT v xss k)
    · rw [if_pos e]
      refine ⟨by omega, fun q hq => ?_⟩
      rcases Nat.lt_succ_iff_lt_or_eq.1 hq with hl | rfl
      · have := h2 q hl; omega
      · exact Int.le_refl _
    · rw [if_neg e]
      refine ⟨h1, fun q hq => ?_⟩
      rcases Nat.lt_succ_iff_lt_or_eq.1 hq with hl | rfl
      · exact h2 q hl
      · omega
structure SetOK (n : Nat) (set : List Int) : Prop where
  up : Up set
  pos : 0 < set.length
  bd : ∀ x ∈ set, 0 <= x /\ x < n
theorem SetOK.len {n : Nat} (hn : n <= 7) {set : List Int} (h : SetOK n set) : set.length <= 64 := by
  have := bagL_bag h.up h.bd (by omega)
  rw [<- this]
  exact sel_len _ _
theorem SetOK.open {o : List Int} {d : List (List Int)} (hf : FieldOK o d) {set : List Int} (h : SetOK o.length set) : OpenOK o d set :=
  ⟨hf, h.pos, by have := h.len hf.n7; omega, fun k hk => h.bd _ (ix_mem set hk)⟩
theorem SetOK.opened {o : List Int} {d : List (List Int)} (hf : FieldOK o d) {set : List Int} (h : SetOK o.length set) : Go.Vc.opened o d set = true := by
  have := h.pos
  unfold Go.Vc.opened
  simp only [Bool.and_eq_true, decide_eq_true_eq]
  exact ⟨good_iff.2 hf, up_ris h.up (fun x hx => by have := h.bd x hx; omega), by omega⟩
theorem SetOK.bag {n : Nat} (hn : n <= 7) {set : List Int} (h : SetOK n set) : bagL (Go.Vc.bag set) = set /\ 0 < Go.Vc.bag set /\ Go.Vc.bag set < 2 ^ n := by
  have e := bagL_bag h.up h.bd (by omega)
  refine ⟨e, Nat.pos_of_ne_zero (fun h0 => ?_), bagF_lt set 0 (Nat.two_pow_pos n) h.bd⟩
  rw [h0] at e
  have h1 : bagL 0 = [] := by
    apply List.eq_nil_iff_forall_not_mem.2
    intro x hx
    obtain ⟨k, _, h2, _⟩ := mem_sel.1 hx
    simp at h2
  have := h.pos
  rw [<- e, h1] at this
  simp at this
section
variable {o : List Int} {d : List (List Int)}
/-! sites that stand for others -/
def domB (o : List Int) (d : List (List Int)) (a b : Int) : Prop := ix o b <= ix o a /\ ∀ i : Nat, i < d.length -> ix (ix d (i : Int)) b <= ix (ix d (i : Int)) a
def costA (o : List Int) (d : List (List Int)) (a : Int) : Int := (ix o a + sumN (fun i => ix (ix d (i : Int)) a) d.length) * 8 + a
def needA (o : List Int) (d : List (List Int)) (a : Nat) : Bool := allN (needB o d a) o.length
end
end Go.Proofs.YteefjdbdknkcjaaGreatDoor
namespace Go.Proofs.YteefjdbdknkcjaaGreatDoor
open Go.Vc
set_option maxRecDepth 100000
set_option maxHeartbeats 1600000
set_option linter.unusedSimpArgs false
set_option linter.unusedVariables false
theorem sumN_mul (f : Nat -> Int) (b : Int) : ∀ n : Nat, sumN (fun i => f i * b) n = sumN f n * b
  | 0 => by simp [sumN]
  | n + 1 => by simp only [sumN]; rw [sumN_mul f b n, Int.add_mul]
theorem sumN_app (f : Nat -> Int) (m : Nat) : ∀ n : Nat, sumN f (m + n) = sumN f m + sumN (fun i => f (m + i)) n
  | 0 => by simp [sumN]
  | n + 1 => by
    have e : m + (n + 1) = m + n + 1 := by omega
    rw [e]; simp only [sumN]; rw [sumN_app f m n]; omega
theorem scl_ixI (b : Int) {xs : List Int} {x : Int} (h0 : 0 <= x) (h1 : x < xs.length) : ix (scl b xs) x = ix xs x * b := by
  obtain ⟨k, rfl⟩ : ∃ k : Nat, x = k := ⟨x.toNat, by omega⟩
  exact scl_ix b (by omega)
theorem srvF_scl {b : Int} (hb : 1 <= b) {row : List Int} : ∀ (xs : List Int) (c : Int), (0 <= c /\ c < row.length) -> (∀ x ∈ xs, 0 <= x /\ x < row.length) -> srvF (scl b row) c xs = srvF row c xs
  | [], c, _, _ => rfl
  | x :: xs, c, hc, h => by
    obtain ⟨h0, h1⟩ := h x List.mem_cons_self
    have ht : ∀ y ∈ xs, 0 <= y /\ y < row.length := fun y hy => h y (List.mem_cons_of_mem _ hy)
    unfold srvF
    rw [scl_ixI b h0 h1, scl_ixI b hc.1 hc.2]
    by_cases hlt : ix row x < ix row c
    · rw [if_pos (Int.mul_lt_mul_of_pos_right hlt (by omega)), if_pos hlt]
      exact srvF_scl hb xs x ⟨h0, h1⟩ ht
    · rw [if_neg (fun hh => hlt (Int.lt_of_mul_lt_mul_right hh (by omega))), if_neg hlt]
      exact srvF_scl hb xs c hc ht
theorem open_mem {o : List Int} {d : List (List Int)} {set : List Int} (h : OpenOK o d set) : ∀ x ∈ set, 0 <= x /\ x < o.length := fun x hx => by
  obtain ⟨j, hj, e⟩ := mem_ix hx
  exact e ▸ h.xin j hj
theorem near_scl {b : Int} (hb : 1 <= b) {o : List Int} {d : List (List Int)} {set row : List Int} (h : OpenOK o d set) (hr : row.length = o.length) : near (scl b row) set = near row set * b := by
  have h0 := h.xin 0 h.pos
  have e : srv (scl b row) set = srv row set := srvF_scl hb set _ (by rw [hr]; exact h0) (by rw [hr]; exact open_mem h)
  obtain ⟨h1, h2⟩ := h.srv row
  unfold near
  rw [e]
  exact scl_ixI b h1 (by omega)
theorem svc_scl {b : Int} (hb : 1 <= b) {o : List Int} {d : List (List Int)} {set : List Int} (h : OpenOK o d set) : svc (d.map (scl b)) set = svc d set * b := by
  unfold svc
  rw [List.length_map, <- sumN_mul]
  refine sumN_congr (fun i hi => ?_)
  rw [ix_map _ _ hi]
  exact near_scl hb h (h.f.len _ (ix_mem d hi))
theorem pay_scl (b : Int) {o : List Int} : ∀ (set : List Int), (∀ x ∈ set, 0 <= x /\ x < o.length) -> pay (scl b o) set = pay o set * b
  | [], _ => by simp [pay]
  | x :: s, h => by
    obtain ⟨h0, h1⟩ := h x List.mem_cons_self
    have ih := pay_scl b s (fun y hy => h y (List.mem_cons_of_mem _ hy))
    unfold pay at ih ⊢
    rw [List.map_cons, List.sum_cons, List.map_cons, List.sum_cons, ih, scl_ixI b h0 h1, Int.add_mul]
theorem total_scl {b : Int} (hb : 1 <= b) {o : List Int} {d : List (List Int)} {set : List Int} (h : OpenOK o d set) : total (scl b o) (d.map (scl b)) set = total o d set * b := by
  unfold total
  rw [pay_scl b set (open_mem h), svc_scl hb h, Int.add_mul]
theorem bestT_scl {v v2 : List Int -> Int} {b : Int} (hb : 1 <= b) {xss : List (List Int)} (h0 : 0 < xss.length) (h : ∀ x ∈ xss, v2 x = v x * b) : ∀ k, k <= xss.length -> bestT v2 xss k = bestT v xss k
  | 0, _ => rfl
  | k + 1, hk => by
    have ih := bestT_scl hb h0 h k (by omega)
    have h1 := h _ (ix_mem xss (show k < xss.length by omega))
    have h2 := h _ (bestT_mem v h0 k (by omega))
    unfold bestT
    rw [ih, h1, h2]
    by_cases hlt : v (ix xss (k : Int)) < v (bestT v xss k)
    · rw [if_pos (Int.mul_lt_mul_of_pos_right hlt (by omega)), if_pos hlt]
    · rw [if_neg (fun hh => hlt (Int.lt_of_mul_lt_mul_right hh (by omega))), if_neg hlt]
theorem setsL_pos {o : List Int} {d : List (List Int)} (hf : FieldOK o d) : 0 < (setsL o.length).length := by
  have h1 := setsL_len o.length
  have h2 := pow_ge2 o.length hf.n1
  omega
theorem best_scl {b : Int} (hb : 1 <= b) {o : List Int} {d : List (List Int)} (hf : FieldOK o d) : total (scl b o) (d.map (scl b)) (bestL (scl b o) (d.map (scl b))) = total o d (bestL o d) * b := by
  have h0 := setsL_pos hf
  have e : bestL (scl b o) (d.map (scl b)) = bestL o d := by
    unfold bestL
    rw [scl_len]
    exact bestT_scl hb h0 (fun x hx => total_scl hb (setsL_open hf hx)) _ (Nat.le_refl _)
  rw [e]
  exact total_scl hb (bestL_open hf)
theorem scl_same {b : Int} (hb : 100 <= b) {xs : List Int} (h1 : ∀ x ∈ xs, 0 <= x) (h2 : ∀ x ∈ scl b xs, x <= 99) : scl b xs = xs := by
  unfold scl at h2 ⊢
  have : ∀ x ∈ xs, x * b = x := fun x hx => by
    have g1 := h1 x hx
    have g2 := h2 (x * b) (List.mem_map.2 ⟨x, hx, rfl⟩)
    by_cases e : x = 0
    · rw [e, Int.zero_mul]
    · have g3 : 1 * b <= x * b := Int.mul_le_mul_of_nonneg_right (by omega) (by omega)
      omega
  rw [List.map_congr_left this, List.map_id']
theorem total_bd {o : List Int} {d : List (List Int)} (hf : FieldOK o d) : 0 <= total o d (bestL o d) /\ total o d (bestL o d) <= 103809024693 := by
  have h := bestL_open hf
  have h1 := h.svc (Nat.le_refl d.length)
  have h2 := h.pay.bd (Nat.le_refl (bestL o d).length)
  rw [List.take_length] at h2
  unfold total svc
  omega
theorem best_scale {o : List Int} {d : List (List Int)} {n : Int} (h : sclB o d n = true) :
    (0 <= total o d (bestL o d) * n /\ total o d (bestL o d) * n <= 10380902469300) /\ total (scl (min n 100) o) (d.map (scl (min n 100))) (bestL (scl (min n 100) o) (d.map (scl (min n 100)))) = total o d (bestL o d) * n := by
  simp only [sclB, Bool.and_eq_true, decide_eq_true_eq] at h
  obtain ⟨hg, hn, hg2⟩ := h
  have hf := good_iff.1 hg
  have hf2 := good_iff.1 hg2
  have hbd := total_bd hf
  have hs := best_scl (b := min n 100) (by omega) hf
  by_cases h100 : n <= 100
  · have e : min n 100 = n := by omega
    rw [e] at hs ⊢
    refine ⟨⟨Int.mul_nonneg hbd.1 (by omega), ?_⟩, hs⟩
    have := Int.mul_le_mul hbd.2 h100 (by omega) (by omega)
    omega
  · have e : min n 100 = 100 := by omega
    rw [e] at hs hf2 ⊢
    have eo : scl 100 o = o := scl_same (by omega) (fun x hx => (hf.o99 x hx).1) (fun x hx => (hf2.o99 x hx).2)
    have ed : d.map (scl 100) = d := by
      have : ∀ r ∈ d, scl 100 r = r := fun r hr => scl_same (by omega) (fun x hx => (hf.d99 r hr x hx).1) (fun x hx => (hf2.d99 _ (List.mem_map.2 ⟨r, hr, rfl⟩) x hx).2)
      rw [List.map_congr_left this, List.map_id']
    rw [eo, ed] at hs ⊢
    have hz : total o d (bestL o d) = 0 := by omega
    rw [hz, Int.zero_mul]
    exact ⟨by omega, rfl⟩
theorem svc_app {d d1 : List (List Int)} (set : List Int) : svc (d ++ d1) set = svc d set + svc d1 set := by
  unfold svc
  rw [List.length_append, sumN_app]
  have e1 : sumN (fun i => near (ix (d ++ d1) (i : Int)) set) d.length = sumN (fun i => near (ix d (i : Int)) set) d.length := sumN_congr (fun i hi => by rw [ix_append_left _ _ hi])
  have e2 : sumN (fun i => near (ix (d ++ d1) ((d.length + i : Nat) : Int)) set) d1.length = sumN (fun i => near (ix d1 (i : Int)) set) d1.length := sumN_congr (fun i hi => by rw [ix_append_right])
  rw [e1, e2]
theorem join_field {o : List Int} {d : List (List Int)} {o1 : List Int} {d1 : List (List Int)} (h : joinFB o d o1 d1 = true) : o1 = o /\ FieldOK o d /\ FieldOK o d1 /\ FieldOK o (d ++ d1) := by
  simp only [joinFB, Bool.and_eq_true, decide_eq_true_eq] at h
  obtain ⟨h1, h2, h3, h4⟩ := h
  have f1 := good_iff.1 h1
  have f2 := good_iff.1 h2
  subst h3
  refine ⟨rfl, f1, f2, f1.n1, f1.n7, f1.o99, by rw [List.length_append]; omega, fun r hr => ?_, fun r hr => ?_⟩
  · rcases List.mem_append.1 hr with hr | hr
    · exact f1.len r hr
    · exact f2.len r hr
  · rcases List.mem_append.1 hr with hr | hr
    · exact f1.d99 r hr
    · exact f2.d99 r hr
def wholeL (n : Nat) : List Int := tab n fun k => (k : Int)
theorem wholeL_len (n : Nat) : (wholeL n).length = n := tab_len _ _
theorem wholeL_succ (n : Nat) : wholeL (n + 1) = wholeL n ++ [(n : Int)] := tab_succ _ _
theorem wholeL_set {n : Nat} (h : 1 <= n) : SetOK n (wholeL n) := by
  refine ⟨?_, by rw [wholeL_len]; omega, fun x hx => ?_⟩
  · show List.Pairwise (· < ·) ((List.range n).map fun (k : Nat) => (k : Int))
    rw [List.pairwise_map]
    exact List.pairwise_lt_range.imp (fun {a b} h => by omega)
  · obtain ⟨k, hk, rfl⟩ := mem_tab.1 hx
    omega
/-! least ways -/
theorem close_field {o : List Int} {d : List (List Int)} (hf : FieldOK o d) : FieldOK o (closeD d.length o.length d) := Sh.field hf (closeD_ok hf.sh hf.m7 hf.n7).1.sh
theorem close_len {o : List Int} {d : List (List Int)} (hf : FieldOK o d) : (closeD d.length o.length d).length = d.length := (closeD_ok hf.sh hf.m7 hf.n7).1.sh.len
theorem close_metric {o : List Int} {d : List (List Int)} (hf : FieldOK o d) : metric (closeD d.length o.length d) o.length = true :=
  (metric_iff (close_len hf)).2 (closeD_ok hf.sh hf.m7 hf.n7).2
theorem close_close {o : List Int} {d : List (List Int)} (hf : FieldOK o d) : closeD (closeD d.length o.length d).length o.length (closeD d.length o.length d) = closeD d.length o.length d := by
  have h := closeD_ok hf.sh hf.m7 hf.n7
  have h1 := close_field hf
  have h2 := (metric_iff (close_len hf)).1 (close_metric hf)
  rw [close_len hf]
  exact closeD_eq h.1.sh hf.m7 hf.n7 (closes_refl h.1.sh) h2
theorem close_self {o : List Int} {d : List (List Int)} (hf : FieldOK o d) : metric d o.length = decide (closeD d.length o.length d = d) := by
  by_cases h : metric d o.length = true
  · rw [h, closeD_eq hf.sh hf.m7 hf.n7 (closes_refl hf.sh) ((metric_iff rfl).1 h), decide_eq_true rfl]
  · rw [decide_eq_false (fun e => h (by rw [<- e]; exact close_metric hf))]
    cases hm : metric d o.length
    · rfl
    · exact (h hm).elim
theorem close_le {o : List Int} {d : List (List Int)} (hf : FieldOK o d) {i a : Nat} (hi : i < d.length) (ha : a < o.length) : ix (ix (closeD d.length o.length d) (i : Int)) (a : Int) <= ix (ix d (i : Int)) (a : Int) :=
  (closeD_ok hf.sh hf.m7 hf.n7).1.le i a hi ha
end Go.Proofs.YteefjdbdknkcjaaGreatDoor
