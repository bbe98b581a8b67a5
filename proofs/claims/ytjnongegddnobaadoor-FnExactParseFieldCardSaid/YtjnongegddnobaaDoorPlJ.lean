/- Joined texts: plain facts. -/
import Derived.Test.YtjnongegddnobaaDoorPlG
import Derived.Lib.Join
namespace Go.Proofs.YtjnongegddnobaaDoor
open Go.Vc
set_option maxRecDepth 100000
set_option linter.unusedSimpArgs false
set_option linter.unusedVariables false

def joinB (xs : List ByteArray) (sep : ByteArray) : ByteArray := ⟨(Lib.join (xs.map (·.data.toList)) sep.data.toList).toArray⟩
theorem joinB_nil (sep : ByteArray) : joinB [] sep = ⟨#[]⟩ := rfl
theorem joinB_one (x sep : ByteArray) : joinB [x] sep = x := by
  unfold joinB
  rw [List.map_cons, List.map_nil, Lib.join_one]
theorem joinB_snoc {xs : List ByteArray} (h : xs ≠ []) (y sep : ByteArray) : joinB (xs ++ [y]) sep = joinB xs sep ++ sep ++ y := by
  cases xs with
  | nil => exact (h rfl).elim
  | cons a r =>
    apply ByteArray.ext
    rw [ByteArray.data_append, ByteArray.data_append]
    unfold joinB
    rw [List.cons_append, List.map_cons, List.map_cons, Lib.join_cons, Lib.join_cons]
    unfold Lib.joinTail
    simp
theorem empty_app (a : ByteArray) : (⟨#[]⟩ : ByteArray) ++ a = a := by
  apply ByteArray.ext
  rw [ByteArray.data_append]; simp
theorem app_empty (a : ByteArray) : a ++ (⟨#[]⟩ : ByteArray) = a := by
  apply ByteArray.ext
  rw [ByteArray.data_append]; simp
theorem joinB_size_snoc {xs : List ByteArray} (h : xs ≠ []) (y sep : ByteArray) : (joinB (xs ++ [y]) sep).size = (joinB xs sep).size + sep.size + y.size := by
  rw [joinB_snoc h, ByteArray.size_append, ByteArray.size_append]
theorem joinB_le {n : Nat} (sep : ByteArray) : ∀ (xs : List ByteArray), (∀ x ∈ xs, x.size <= n) -> (joinB xs sep).size <= (n + sep.size) * xs.length := by
  have key : ∀ (k : Nat) (xs : List ByteArray), xs.length = k -> (∀ x ∈ xs, x.size <= n) -> (joinB xs sep).size <= (n + sep.size) * xs.length := by
    intro k
    induction k with
    | zero => intro xs h _; rw [List.length_eq_zero_iff.1 h]; exact Nat.zero_le _
    | succ k ih =>
      intro xs h hx
      obtain ⟨ys, y, rfl⟩ : ∃ ys y, xs = ys ++ [y] := ⟨xs.dropLast, xs.getLast (by intro e; rw [e] at h; cases h), (List.dropLast_concat_getLast _).symm⟩
      have hl : ys.length = k := by rw [List.length_append] at h; simpa using h
      have h1 := ih ys hl (fun x hm => hx x (by simp [hm]))
      have h2 := hx y (by simp)
      rw [List.length_append, List.length_singleton, Nat.mul_add, Nat.mul_one]
      by_cases hne : ys = []
      · subst hne; rw [List.nil_append, joinB_one]; simp; omega
      · rw [joinB_size_snoc hne]; omega
  exact fun xs hx => key _ xs rfl hx
theorem beqL (a b : ByteArray) : (a.toList == b.toList) = decide (a = b) := by
  rw [ByteArray.toList_eq, ByteArray.toList_eq]
  by_cases h : a = b
  · rw [h]; simp
  · rw [decide_eq_false h]
    rw [beq_eq_false_iff_ne]
    intro e
    exact h (by cases a; cases b; congr 1; exact Array.ext' e)
def sumZ : List ByteArray -> Nat
  | [] => 0
  | x :: r => x.size + sumZ r
theorem sumZ_app : ∀ xs ys : List ByteArray, sumZ (xs ++ ys) = sumZ xs + sumZ ys
  | [], ys => by simp [sumZ]
  | x :: r, ys => by simp only [List.cons_append, sumZ]; rw [sumZ_app r ys]; omega
theorem sumZ_take {xs : List ByteArray} {k : Nat} (h : k < xs.length) : sumZ (xs.take (k + 1)) = sumZ (xs.take k) + (ix xs (k : Int)).size := by
  rw [take_ix xs h, sumZ_app]; simp [sumZ]
theorem sumZ_take_le (xs : List ByteArray) (k : Nat) : sumZ (xs.take k) <= sumZ xs := by
  have := sumZ_app (xs.take k) (xs.drop k)
  rw [List.take_append_drop] at this
  omega
theorem joinB_size {sep : ByteArray} (hs : sep.size = 1) : ∀ (xs : List ByteArray), xs ≠ [] -> (joinB xs sep).size + 1 = sumZ xs + xs.length := by
  have key : ∀ (k : Nat) (xs : List ByteArray), xs.length = k -> xs ≠ [] -> (joinB xs sep).size + 1 = sumZ xs + xs.length := by
    intro k
    induction k with
    | zero => intro xs h hne; exact (hne (List.length_eq_zero_iff.1 h)).elim
    | succ k ih =>
      intro xs h _
      obtain ⟨ys, y, rfl⟩ : ∃ ys y, xs = ys ++ [y] := ⟨xs.dropLast, xs.getLast (by intro e; rw [e] at h; cases h), (List.dropLast_concat_getLast _).symm⟩
      have hl : ys.length = k := by rw [List.length_append] at h; simpa using h
      rw [sumZ_app, List.length_append, List.length_singleton]
      by_cases hne : ys = []
      · subst hne; rw [List.nil_append, joinB_one]; simp [sumZ]
      · have := ih ys hl hne
        rw [joinB_size_snoc hne]; simp [sumZ]; omega
  exact fun xs hx => key _ xs rfl hx
def wordsB (xs : List Int) : ByteArray := joinB (xs.map numB) ⟨#[32]⟩
theorem take_succ_map {α β : Type} [Inhabited α] (f : α -> β) (xs : List α) {k : Nat} (h : k < xs.length) : (xs.take (k + 1)).map f = (xs.take k).map f ++ [f (ix xs (k : Int))] := by
  have e := ix_some xs h
  rw [List.take_add_one, e, Option.toList_some, List.map_append, List.map_cons, List.map_nil]
theorem take_ne {α : Type} {xs : List α} {k : Nat} (h : k < xs.length) (hk : 0 < k) : xs.take k ≠ [] := by
  intro e
  have := congrArg List.length e
  rw [List.length_take, Nat.min_eq_left (by omega), List.length_nil] at this
  omega
theorem words_take (xs : List Int) {k : Nat} (h : k < xs.length) (hk : 0 < k) : wordsB (xs.take (k + 1)) = wordsB (xs.take k) ++ ⟨#[32]⟩ ++ numB (ix xs (k : Int)) := by
  unfold wordsB
  rw [take_succ_map numB xs h, joinB_snoc]
  intro e
  exact take_ne h hk (List.map_eq_nil_iff.1 e)
theorem words_first (xs : List Int) (h : 0 < xs.length) : wordsB (xs.take (0 + 1)) = numB (ix xs ((0 : Nat) : Int)) := by
  unfold wordsB
  rw [take_succ_map numB xs h, List.take_zero, List.map_nil, List.nil_append, joinB_one]
theorem words_le {xs : List Int} (h : ∀ x ∈ xs, 0 <= x /\ x <= 99) : (wordsB xs).size <= 22 * xs.length := by
  unfold wordsB
  have := joinB_le (n := 21) ⟨#[32]⟩ (xs.map numB) (fun x hx => by
    obtain ⟨n, hn, rfl⟩ := List.mem_map.1 hx
    have := h n hn
    exact numB_size n (by omega) (by omega))
  rw [List.length_map] at this
  exact this
def textL (o : List Int) (d : List (List Int)) (i : Nat) : List ByteArray := wordsB o :: (d.take i).map wordsB
def textB (o : List Int) (d : List (List Int)) (i : Nat) : ByteArray := joinB (textL o d i) ⟨#[32, 47, 32]⟩
theorem textL_succ (o : List Int) (d : List (List Int)) {i : Nat} (h : i < d.length) : textL o d (i + 1) = textL o d i ++ [wordsB (ix d (i : Int))] := by
  unfold textL
  rw [take_succ_map wordsB d h]; rfl
theorem textB_succ (o : List Int) (d : List (List Int)) {i : Nat} (h : i < d.length) : textB o d (i + 1) = textB o d i ++ ⟨#[32, 47, 32]⟩ ++ wordsB (ix d (i : Int)) := by
  unfold textB
  rw [textL_succ o d h, joinB_snoc (by simp [textL])]
theorem textB_zero (o : List Int) (d : List (List Int)) : textB o d 0 = wordsB o := joinB_one _ _
theorem textL_len (o : List Int) (d : List (List Int)) {i : Nat} (h : i <= d.length) : (textL o d i).length = i + 1 := by
  unfold textL
  rw [List.length_cons, List.length_map, List.length_take, Nat.min_eq_left h]
theorem field_row {o : List Int} {d : List (List Int)} (h : FieldOK o d) {i : Nat} (hi : i < d.length) : ∀ x ∈ ix d (i : Int), 0 <= x /\ x <= 99 := h.d99 _ (by
  have e := ix_some d hi
  exact List.mem_of_getElem? e)
theorem field_row_len {o : List Int} {d : List (List Int)} (h : FieldOK o d) {i : Nat} (hi : i < d.length) : (ix d (i : Int)).length <= 7 := by
  have e := ix_some d hi
  have := h.len _ (List.mem_of_getElem? e)
  have := h.n7
  omega
theorem textB_le {o : List Int} {d : List (List Int)} (h : FieldOK o d) {i : Nat} (hi : i <= d.length) : (textB o d i).size <= 157 * (i + 1) := by
  have h7 := h.n7
  have := joinB_le (n := 154) ⟨#[32, 47, 32]⟩ (textL o d i) (fun x hx => by
    unfold textL at hx
    rcases List.mem_cons.1 hx with rfl | hx
    · have := words_le h.o99; omega
    · obtain ⟨r, hr, rfl⟩ := List.mem_map.1 hx
      have hr := List.mem_of_mem_take hr
      have h1 := words_le (h.d99 r hr)
      have h2 := h.len r hr
      omega)
  rw [textL_len o d hi] at this
  exact this
end Go.Proofs.YtjnongegddnobaaDoor
