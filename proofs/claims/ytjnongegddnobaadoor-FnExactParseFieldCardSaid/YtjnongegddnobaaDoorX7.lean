/- Fields read from their texts: what both packages compute. -/
import Derived.Test.YtjnongegddnobaaDoorX4
import Derived.Test.YtjnongegddnobaaDoorX5
import Derived.Test.YtjnongegddnobaaDoorSQ
import Derived.Test.YtjnongegddnobaaDoorPT
namespace Go.Proofs.YtjnongegddnobaaDoor
open Go.Vc Go.RowKit
set_option maxRecDepth 100000
set_option maxHeartbeats 1600000
set_option linter.unusedSimpArgs false
set_option linter.unusedVariables false
theorem atN_num {n : Int} (h0 : 0 <= n) (h1 : n <= 99) : atN (numB n) = n := by
  have h : Lib.atoiAll (numB n).data.toList = .ok n := atoiAll_itoa (by omega) (by omega)
  unfold atN
  rw [h]
def rdN (s : ByteArray) : List Int := if s = ⟨#[]⟩ then [] else (partsB s ⟨#[32]⟩).map atN
theorem rdN_words {xs : List Int} (h : ∀ x ∈ xs, 0 <= x /\ x <= 99) (hne : xs ≠ []) : rdN (wordsB xs) = xs := by
  unfold rdN
  rw [if_neg (words_ne (fun x hx => (h x hx).1) hne)]
  have e : partsB (wordsB xs) ⟨#[32]⟩ = xs.map numB := by
    unfold wordsB
    refine parts_join (sep := ⟨#[32]⟩) (c := 32) (p := 0) rfl (fun q hq => absurd hq (Nat.not_lt_zero _)) _ (by simpa using hne) (fun x hx => ?_)
    obtain ⟨n, hn, rfl⟩ := List.mem_map.1 hx
    intro hm
    have := (num_digits (h n hn).1 32 hm).1
    revert this; decide
  rw [e, List.map_map]
  have e2 : xs.map (atN ∘ numB) = xs.map id := List.map_congr_left (fun x hx => atN_num (h x hx).1 (h x hx).2)
  rw [e2, List.map_id]
def slash3 : ByteArray := ⟨#[32, 47, 32]⟩
def pfO (s : ByteArray) : List Int := rdN (ix (partsB s slash3) 0)
def pfD (s : ByteArray) : List (List Int) := ((partsB s slash3).drop 1).map rdN
def pfB (s : ByteArray) : Bool := good (pfO s) (pfD s) && decide (textB (pfO s) (pfD s) (pfD s).length = s)
theorem field_ne {o : List Int} {d : List (List Int)} (h : FieldOK o d) : o ≠ [] /\ ∀ r ∈ d, r ≠ [] := by
  have h1 := h.n1
  refine ⟨fun e => by rw [e] at h1; simp at h1, fun r hr e => ?_⟩
  have := h.len r hr
  rw [e] at this
  simp at this
  omega
theorem parts_text {o : List Int} {d : List (List Int)} (h : FieldOK o d) : partsB (textB o d d.length) slash3 = wordsB o :: d.map wordsB := by
  have e : textL o d d.length = wordsB o :: d.map wordsB := by unfold textL; rw [List.take_length]
  unfold textB
  rw [e]
  refine parts_join (sep := slash3) (c := 47) (p := 1) rfl (fun q hq => ?_) _ (by simp) (fun x hx => ?_)
  · obtain rfl : q = 0 := by omega
    decide
  · have key : ∀ xs : List Int, (∀ x ∈ xs, 0 <= x) -> (47 : UInt8) ∉ (wordsB xs).data.toList := fun xs hxs hm => by
      rcases mem_words hxs hm with e | e
      · exact absurd e (by decide)
      · exact absurd e.1 (by decide)
    rcases List.mem_cons.1 hx with rfl | hx
    · exact key o (fun x hx => (h.o99 x hx).1)
    · obtain ⟨r, hr, rfl⟩ := List.mem_map.1 hx
      exact key r (fun x hx => (h.d99 r hr x hx).1)
theorem pf_text {o : List Int} {d : List (List Int)} (h : FieldOK o d) : pfO (textB o d d.length) = o /\ pfD (textB o d d.length) = d := by
  obtain ⟨h1, h2⟩ := field_ne h
  unfold pfO pfD
  rw [parts_text h]
  refine ⟨rdN_words h.o99 h1, ?_⟩
  rw [List.drop_succ_cons, List.drop_zero, List.map_map]
  have e2 : d.map (rdN ∘ wordsB) = d.map id := List.map_congr_left (fun r hr => rdN_words (h.d99 r hr) (h2 r hr))
  rw [e2, List.map_id]
/-! ### The reference -/
def slash1 : ByteArray := ⟨#[47]⟩
def rdStep (rows : List (List Int)) (w : ByteArray) : Option (List (List Int)) :=
  if w = slash1 then some (rows ++ [[]]) else if okN w = true then some (rows.set (rows.length - 1) (ix rows ((rows.length - 1 : Nat) : Int) ++ [valN w])) else none
def rdL : List (List Int) -> List ByteArray -> Option (List (List Int))
  | rows, [] => some rows
  | rows, w :: ws => match rdStep rows w with | none => none | some r => rdL r ws
theorem rdL_app : ∀ (A B : List ByteArray) (rows : List (List Int)), rdL rows (A ++ B) = match rdL rows A with | none => none | some r => rdL r B
  | [], B, rows => rfl
  | w :: A, B, rows => by
    rw [List.cons_append, rdL, rdL]
    cases rdStep rows w with
    | none => rfl
    | some r => exact rdL_app A B r
def wordsOf (s : ByteArray) : List ByteArray := (splL s 32).take 80
def rdA (s : ByteArray) : Option (List (List Int)) := rdL [[]] (wordsOf s)
def rdO (s : ByteArray) : List Int := ix ((rdA s).getD []) 0
def rdD (s : ByteArray) : List (List Int) := ((rdA s).getD []).drop 1
def psB (s : ByteArray) : Bool := (rdA s).isSome && (good (rdO s) (rdD s) && decide (textB (rdO s) (rdD s) (rdD s).length = s))
theorem rd_num {P : List (List Int)} {r : List Int} {x : Int} (h0 : 0 <= x) (h1 : x <= 99) : rdStep (P ++ [r]) (numB x) = some (P ++ [r ++ [x]]) := by
  obtain ⟨e1, e2⟩ := okN_of (n := x) (s := numB x) (by omega) (by omega) rfl
  have hne : numB x ≠ slash1 := fun e => by
    have hm : (47 : UInt8) ∈ (numB x).data.toList := by rw [e]; decide
    have := (num_digits h0 47 hm).1
    revert this; decide
  unfold rdStep
  rw [if_neg hne, if_pos e1, e2]
  have hl : (P ++ [r]).length - 1 = P.length := by simp
  rw [hl]
  have e3 : ix (P ++ [r]) ((P.length : Nat) : Int) = r := by
    have := ix_some (P ++ [r]) (k := P.length) (by simp)
    rw [List.getElem?_append_right (Nat.le_refl _), Nat.sub_self] at this
    exact (Option.some.inj this).symm
  rw [e3]
  congr 1
  rw [List.set_append_right _ _ (Nat.le_refl _), Nat.sub_self]
  rfl
theorem rd_nums : ∀ (xs : List Int) (P : List (List Int)) (r : List Int), (∀ x ∈ xs, 0 <= x /\ x <= 99) -> rdL (P ++ [r]) (xs.map numB) = some (P ++ [r ++ xs])
  | [], P, r, _ => by rw [List.map_nil, List.append_nil]; rfl
  | x :: xs, P, r, h => by
    obtain ⟨h0, h1⟩ := h x (by simp)
    rw [List.map_cons, rdL, rd_num h0 h1]
    simp only
    rw [rd_nums xs P (r ++ [x]) (fun y hy => h y (List.mem_cons_of_mem _ hy)), List.append_assoc, List.singleton_append]
def flatW (o : List Int) (d : List (List Int)) (i : Nat) : List ByteArray := o.map numB ++ ((d.take i).map fun r => slash1 :: r.map numB).flatten
theorem flatW_succ (o : List Int) (d : List (List Int)) {i : Nat} (h : i < d.length) : flatW o d (i + 1) = flatW o d i ++ slash1 :: (ix d (i : Int)).map numB := by
  unfold flatW
  rw [take_ix d h]
  simp [List.append_assoc]
theorem flat_len {o : List Int} {d : List (List Int)} (h : FieldOK o d) : ∀ i, i <= d.length -> (flatW o d i).length <= 7 + 8 * i
  | 0, _ => by have := h.n7; simp [flatW]; omega
  | i + 1, hi => by
    have := flat_len h i (by omega)
    have hr := field_row_len h (show i < d.length by omega)
    rw [flatW_succ o d (by omega), List.length_append, List.length_cons, List.length_map]
    omega
theorem flat_clean {o : List Int} {d : List (List Int)} (h : FieldOK o d) : ∀ i, i <= d.length -> ∀ x ∈ flatW o d i, (32 : UInt8) ∉ x.data.toList
  | 0, _, x, hx => by
    simp only [flatW, List.take_zero, List.map_nil, List.flatten_nil, List.append_nil] at hx
    obtain ⟨n, hn, rfl⟩ := List.mem_map.1 hx
    intro hm
    exact absurd (num_digits (h.o99 n hn).1 32 hm).1 (by decide)
  | i + 1, hi, x, hx => by
    rw [flatW_succ o d (by omega), List.mem_append, List.mem_cons] at hx
    rcases hx with hx | rfl | hx
    · exact flat_clean h i (by omega) x hx
    · decide
    · obtain ⟨n, hn, rfl⟩ := List.mem_map.1 hx
      intro hm
      exact absurd (num_digits (field_row h (show i < d.length by omega) n hn).1 32 hm).1 (by decide)
theorem flat_ne {o : List Int} {d : List (List Int)} (h : FieldOK o d) (i : Nat) : flatW o d i ≠ [] := by
  have := (field_ne h).1
  unfold flatW
  intro e
  exact this (List.map_eq_nil_iff.1 (List.append_eq_nil_iff.1 e).1)
theorem text_flat {o : List Int} {d : List (List Int)} (h : FieldOK o d) : ∀ i, i <= d.length -> textB o d i = joinB (flatW o d i) ⟨#[32]⟩
  | 0, _ => by
    rw [textB_zero]
    simp [flatW, wordsB]
  | i + 1, hi => by
    have hr : ix d (i : Int) ≠ [] := (field_ne h).2 _ (ix_mem d (by omega))
    obtain ⟨y, r, e⟩ : ∃ y r, (ix d (i : Int)).map numB = y :: r := by
      cases hh : (ix d (i : Int)).map numB with
      | nil => exact (hr (List.map_eq_nil_iff.1 hh)).elim
      | cons y r => exact ⟨y, r, rfl⟩
    rw [textB_succ o d (by omega), flatW_succ o d (by omega), text_flat h i (by omega), joinB_app _ (by simp) _ (flat_ne h i)]
    unfold wordsB
    rw [e, joinB_cons2]
    have e3 : (⟨#[32, 47, 32]⟩ : ByteArray) = ⟨#[32]⟩ ++ (slash1 ++ ⟨#[32]⟩) := by decide
    rw [e3]
    simp only [ByteArray.append_assoc]
theorem rd_flat {o : List Int} {d : List (List Int)} (h : FieldOK o d) : ∀ i, i <= d.length -> rdL [[]] (flatW o d i) = some (o :: d.take i)
  | 0, _ => by
    have := rd_nums o [] [] h.o99
    simp only [flatW, List.take_zero, List.map_nil, List.flatten_nil, List.append_nil]
    exact this
  | i + 1, hi => by
    rw [flatW_succ o d (by omega), rdL_app, rd_flat h i (by omega)]
    simp only
    rw [rdL]
    have e : rdStep (o :: d.take i) slash1 = some ((o :: d.take i) ++ [[]]) := by unfold rdStep; rw [if_pos rfl]
    rw [e]
    simp only
    rw [rd_nums _ (o :: d.take i) [] (field_row h (by omega)), take_ix d (by omega)]
    rfl
theorem rd_text {o : List Int} {d : List (List Int)} (h : FieldOK o d) : rdA (textB o d d.length) = some (o :: d) := by
  have e1 : splL (textB o d d.length) 32 = flatW o d d.length := by
    rw [<- partsB_one, text_flat h _ (Nat.le_refl _)]
    exact parts_join (sep := ⟨#[32]⟩) (c := 32) (p := 0) rfl (fun q hq => absurd hq (Nat.not_lt_zero _)) _ (flat_ne h _) (flat_clean h _ (Nat.le_refl _))
  unfold rdA wordsOf
  have hl := flat_len h d.length (Nat.le_refl _)
  have hm := h.m7
  rw [e1, List.take_of_length_le (by omega), rd_flat h _ (Nat.le_refl _), List.take_length]
/-- Both packages say the same. -/
theorem ps_pf (s : ByteArray) : psB s = pfB s /\ (pfB s = true -> rdO s = pfO s /\ rdD s = pfD s) := by
  have key : pfB s = true -> psB s = true /\ rdO s = pfO s /\ rdD s = pfD s := fun h => by
    simp only [pfB, Bool.and_eq_true, decide_eq_true_eq] at h
    have hf := good_iff.1 h.1
    have e := rd_text hf
    rw [h.2] at e
    have eO : rdO s = pfO s := by unfold rdO; rw [e]; rfl
    have eD : rdD s = pfD s := by unfold rdD; rw [e]; rfl
    refine ⟨?_, eO, eD⟩
    unfold psB
    rw [eO, eD, e, h.1, decide_eq_true h.2]
    rfl
  refine ⟨?_, fun h => (key h).2⟩
  cases hp : pfB s with
  | true => exact (key hp).1
  | false =>
    cases hs : psB s with
    | false => rfl
    | true =>
      simp only [psB, Bool.and_eq_true, decide_eq_true_eq] at hs
      have hf := good_iff.1 hs.2.1
      obtain ⟨e1, e2⟩ := pf_text hf
      rw [hs.2.2] at e1 e2
      unfold pfB at hp
      rw [e1, e2, hs.2.1, decide_eq_true hs.2.2] at hp
      cases hp
end Go.Proofs.YtjnongegddnobaaDoor
