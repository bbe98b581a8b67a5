/- Plain facts on lists of numbers: no program in sight. -/
import Derived.Test.YtjnongegddnobaaDoorVc
namespace Go.Vc
set_option linter.unusedSimpArgs false
set_option linter.unusedVariables false
set_option linter.unusedSectionVars false

/-! an element by its number -/
section
variable {α : Type} [Inhabited α]
theorem ix_some (xs : List α) {k : Nat} (h : k < xs.length) : xs[k]? = some (ix xs (k : Int)) := by
  have e := ix_get (xs := xs) (i := (k : Int)) (by simpa using h)
  simpa using e
theorem ix_mem (xs : List α) {k : Nat} (h : k < xs.length) : ix xs (k : Int) ∈ xs := List.mem_of_getElem? (ix_some xs h)
theorem ix_memI (xs : List α) {i : Int} (h0 : 0 <= i) (h : i < xs.length) : ix xs i ∈ xs := List.mem_of_getElem? (ix_get (by omega))
theorem drop_ix (xs : List α) {k : Nat} (h : k < xs.length) : xs.drop k = ix xs (k : Int) :: xs.drop (k + 1) := by
  rw [List.drop_eq_getElem_cons h]
  congr 1
  have := List.getElem?_eq_getElem h
  rw [ix_some xs h] at this; exact (Option.some.inj this).symm
theorem take_ix (xs : List α) {k : Nat} (h : k < xs.length) : xs.take (k + 1) = xs.take k ++ [ix xs (k : Int)] := by
  rw [List.take_add_one, ix_some xs h]; rfl
theorem ix_ext {xs ys : List α} (hl : xs.length = ys.length) (h : ∀ k, k < xs.length -> ix xs (k : Int) = ix ys (k : Int)) : xs = ys := by
  apply List.ext_getElem?
  intro k
  by_cases hk : k < xs.length
  · rw [ix_some xs hk, ix_some ys (by omega), h k hk]
  · rw [List.getElem?_eq_none (by omega), List.getElem?_eq_none (by omega)]
theorem ix_set (xs : List α) {k : Nat} (v : α) (h : k < xs.length) (j : Nat) : ix (xs.set k v) (j : Int) = if j = k then v else ix xs (j : Int) := by
  simp only [ix, Int.toNat_natCast, List.getD_eq_getElem?_getD]
  rw [List.getElem?_set]
  by_cases e : k = j
  · subst e; simp [h]
  · rw [if_neg e, if_neg (fun e' => e e'.symm)]
theorem ix_append_left (xs ys : List α) {k : Nat} (h : k < xs.length) : ix (xs ++ ys) (k : Int) = ix xs (k : Int) := by
  simp only [ix, Int.toNat_natCast, List.getD_eq_getElem?_getD]; rw [List.getElem?_append_left h]
theorem ix_append_right (xs ys : List α) (k : Nat) : ix (xs ++ ys) ((xs.length + k : Nat) : Int) = ix ys (k : Int) := by
  simp only [ix, Int.toNat_natCast, List.getD_eq_getElem?_getD]; rw [List.getElem?_append_right (by omega)]; congr 2; omega
theorem ix_map {β : Type} [Inhabited β] (f : α -> β) (xs : List α) {k : Nat} (h : k < xs.length) : ix (xs.map f) (k : Int) = f (ix xs (k : Int)) := by
  have e := ix_some xs h
  have e2 : (xs.map f)[k]? = some (f (ix xs (k : Int))) := by rw [List.getElem?_map, e]; rfl
  rw [ix_some (xs.map f) (by simpa using h)] at e2
  exact Option.some.inj e2
theorem ix_replicate (n : Nat) (v : α) {k : Nat} (h : k < n) : ix (List.replicate n v) (k : Int) = v := by
  simp [ix, h]
theorem ix_cons_zero (x : α) (xs : List α) : ix (x :: xs) 0 = x := rfl
theorem ix_cons_succ (x : α) (xs : List α) (k : Nat) : ix (x :: xs) ((k + 1 : Nat) : Int) = ix xs (k : Int) := by
  simp [ix]
theorem take_eq {xs ys : List α} {k : Nat} {x y : α} (h : xs.take k = ys.take k) (hx : xs[k]? = some x) (hy : ys[k]? = some y) : xs.take (k + 1) = ys.take (k + 1) ↔ x = y := by
  rw [List.take_add_one, List.take_add_one, h, hx, hy]
  simp
/-- The first k elements stand, the rest is v. -/
def fill (v : α) (xs : List α) (k : Nat) : List α := xs.take k ++ List.replicate (xs.length - k) v
theorem fill_len (v : α) (xs : List α) {k : Nat} (h : k <= xs.length) : (fill v xs k).length = xs.length := by simp [fill]; omega
theorem fill_end (v : α) (xs : List α) : fill v xs xs.length = xs := by simp [fill]
theorem fill_zero (v : α) (xs : List α) : fill v xs 0 = List.replicate xs.length v := by simp [fill]
theorem fill_set (v : α) (xs : List α) {k : Nat} (h : k < xs.length) : (fill v xs k).set k (ix xs k) = fill v xs (k + 1) := by
  have e := ix_some xs h
  have hl : (xs.take k).length = k := by simp; omega
  unfold fill
  rw [List.set_append_right _ _ (by omega), hl, Nat.sub_self, show xs.length - k = (xs.length - (k + 1)) + 1 by omega, List.replicate_succ, List.set_cons_zero, List.take_add_one, e]
  simp
/-- The first k elements are those of ys, the rest stands. -/
def over (ys xs : List α) (k : Nat) : List α := ys.take k ++ xs.drop k
theorem over_len (ys xs : List α) {k : Nat} (h : xs.length = ys.length) (hk : k <= xs.length) : (over ys xs k).length = xs.length := by simp [over]; omega
theorem over_end (ys xs : List α) (h : xs.length = ys.length) : over ys xs xs.length = ys := by simp [over, h]
theorem over_zero (ys xs : List α) : over ys xs 0 = xs := by simp [over]
theorem over_set (ys xs : List α) {k : Nat} (hl : xs.length = ys.length) (h : k < xs.length) : (over ys xs k).set k (ix ys k) = over ys xs (k + 1) := by
  have e := ix_some ys (show k < ys.length by omega)
  have h1 : (ys.take k).length = k := by simp; omega
  unfold over
  rw [List.set_append_right _ _ (by omega), h1, Nat.sub_self, drop_ix xs h, List.set_cons_zero, List.take_add_one, e]
  simp
theorem over_ix (ys xs : List α) {k : Nat} (hl : xs.length = ys.length) (h : k < xs.length) : ix (over ys xs k) (k : Int) = ix xs (k : Int) := by
  have h1 : (ys.take k).length = k := by simp; omega
  have := ix_append_right (ys.take k) (xs.drop k) 0
  rw [h1, Nat.add_zero] at this
  unfold over
  rw [this, drop_ix xs h]; rfl
end

/-! sizes, as the law package counts them -/
def szI (xs : List Int) (l : Int) : Int := if l - xs.length < 0 then -1 else l - xs.length
def szR : List (List Int) -> Int -> Int
  | [], l => l
  | x :: r, l => if szI x l < 0 then -1 else szR r (szI x l)
def szII (xs : List (List Int)) (l : Int) : Int := if l - xs.length < 0 then -1 else szR xs (l - xs.length)
theorem szI_bd (xs : List Int) {l : Int} (h : 0 <= l /\ l <= 1048576) : -1 <= szI xs l /\ szI xs l <= 1048576 := by unfold szI; split <;> omega
theorem szI_le {xs : List Int} {l : Int} (h : ¬ szI xs l < 0) : xs.length <= l /\ szI xs l = l - xs.length := by unfold szI at *; split at h <;> simp_all <;> omega
theorem szR_le : ∀ {xs : List (List Int)} {l : Int}, 0 <= l -> ¬ szR xs l < 0 -> (∀ x ∈ xs, (x.length : Int) <= l) /\ szR xs l <= l
  | [], l, h0, h => ⟨fun x hx => (by cases hx), by simp [szR]⟩
  | x :: r, l, h0, h => by
    unfold szR at h ⊢
    split at h
    · omega
    · rename_i h1
      rw [if_neg h1]
      obtain ⟨h2, h3⟩ := szI_le h1
      obtain ⟨h4, h5⟩ := szR_le (by omega) h
      refine ⟨fun y hy => ?_, by omega⟩
      rcases List.mem_cons.1 hy with rfl | hy
      · exact h2
      · have := h4 y hy; omega
theorem szII_le {xs : List (List Int)} {l : Int} (h0 : 0 <= l) (h : ¬ szII xs l < 0) : (xs.length : Int) <= l /\ ∀ x ∈ xs, (x.length : Int) <= l := by
  unfold szII at h
  split at h
  · omega
  · have := szR_le (by omega) h
    exact ⟨by omega, fun x hx => by have := this.1 x hx; omega⟩
def szF (o : List Int) (d : List (List Int)) (l : Int) : Int := if szI o l < 0 then -1 else if szII d (szI o l) < 0 then -1 else szII d (szI o l)
theorem szF_le {o : List Int} {d : List (List Int)} (h : ¬ szF o d 1048576 < 0) : o.length <= 1048576 /\ d.length <= 1048576 /\ ∀ x ∈ d, x.length <= 1048576 := by
  unfold szF at h
  split at h
  · omega
  · rename_i h1
    split at h
    · omega
    · rename_i h2
      obtain ⟨h3, h4⟩ := szI_le h1
      obtain ⟨h5, h6⟩ := szII_le (by omega) h2
      exact ⟨by omega, by omega, fun x hx => by have := h6 x hx; omega⟩

/-! marks: k, k + 1, .. -/
def upF : Int -> Nat -> List Int
  | _, 0 => []
  | k, n + 1 => k :: upF (k + 1) n
theorem upF_len : ∀ (k : Int) (n : Nat), (upF k n).length = n
  | _, 0 => rfl
  | k, n + 1 => by simp [upF, upF_len]
theorem upF_ix : ∀ (k : Int) (n j : Nat), j < n -> ix (upF k n) (j : Int) = k + j
  | _, 0, j, h => absurd h (Nat.not_lt_zero _)
  | k, n + 1, 0, _ => by simp [upF, ix]
  | k, n + 1, j + 1, h => by rw [upF, ix_cons_succ, upF_ix (k + 1) n j (by omega)]; omega
def sumLen : List (List Int) -> Int
  | [] => 0
  | x :: r => x.length + sumLen r
def markR : Int -> List (List Int) -> List (List Int)
  | _, [] => []
  | k, x :: r => upF k x.length :: markR (k + x.length) r
theorem upF_nil (k : Int) : upF k 0 = [] := rfl
theorem markR_nil (k : Int) : markR k [] = [] := rfl
theorem sumLen_nil : sumLen [] = 0 := rfl
theorem markR_len : ∀ (k : Int) (xs : List (List Int)), (markR k xs).length = xs.length
  | _, [] => rfl
  | k, x :: r => by simp [markR, markR_len]
theorem markR_lens : ∀ (k : Int) (xs : List (List Int)), (markR k xs).map List.length = xs.map List.length
  | _, [] => rfl
  | k, x :: r => by simp [markR, markR_lens, upF_len]
theorem markR_idem : ∀ (k : Int) (xs : List (List Int)), markR k (markR k xs) = markR k xs
  | _, [] => rfl
  | k, x :: r => by simp [markR, upF_len, markR_idem]
theorem sumLen_nonneg : ∀ xs : List (List Int), 0 <= sumLen xs
  | [] => by simp [sumLen]
  | x :: r => by simp only [sumLen]; have := sumLen_nonneg r; omega
theorem sumLen_mark : ∀ (k : Int) (xs : List (List Int)), sumLen (markR k xs) = sumLen xs
  | _, [] => rfl
  | k, x :: r => by simp [markR, sumLen, upF_len, sumLen_mark]
theorem sumLen_drop (xs : List (List Int)) {k : Nat} (h : k < xs.length) : sumLen (xs.drop k) = (ix xs (k : Int)).length + sumLen (xs.drop (k + 1)) := by
  rw [drop_ix xs h]; rfl
theorem sumLen_drop_le : ∀ (xs : List (List Int)) (k : Nat), sumLen (xs.drop k) <= sumLen xs
  | [], k => by simp [sumLen]
  | x :: r, 0 => by simp
  | x :: r, k + 1 => by
    have := sumLen_drop_le r k
    simp only [List.drop_succ_cons, sumLen]; omega
theorem markR_drop : ∀ (xs : List (List Int)) (k : Int) (j : Nat), (markR k xs).drop j = markR (k + (sumLen xs - sumLen (xs.drop j))) (xs.drop j)
  | [], k, j => by simp [markR]
  | x :: r, k, 0 => by simp
  | x :: r, k, j + 1 => by
    simp only [markR, List.drop_succ_cons]
    rw [markR_drop r (k + x.length) j]
    congr 1
    simp only [sumLen]; omega
theorem markR_ix (xs : List (List Int)) (k : Int) {j : Nat} (h : j < xs.length) : ix (markR k xs) (j : Int) = upF (k + (sumLen xs - sumLen (xs.drop j))) (ix xs (j : Int)).length := by
  have h1 := drop_ix (markR k xs) (k := j) (by rw [markR_len]; exact h)
  rw [markR_drop] at h1
  generalize k + (sumLen xs - sumLen (xs.drop j)) = q at h1 ⊢
  rw [drop_ix xs h, markR] at h1
  exact (List.cons.inj h1).1.symm

theorem szR_sum : ∀ {xs : List (List Int)} {l : Int}, 0 <= l -> ¬ szR xs l < 0 -> sumLen xs <= l - szR xs l
  | [], l, h0, h => by simp [szR, sumLen]
  | x :: r, l, h0, h => by
    unfold szR at h ⊢
    split at h
    · omega
    · rename_i h1
      rw [if_neg h1]
      obtain ⟨h2, h3⟩ := szI_le h1
      have := szR_sum (by omega) h
      simp only [sumLen]; omega
structure SzOK (o : List Int) (d : List (List Int)) (l : Int) : Prop where
  ho : o.length <= 1048576
  hd : d.length <= 1048576
  hr : ∀ x ∈ d, x.length <= 1048576
  hs : sumLen d <= 1048576
  f1 : o.length <= 1048576 /\ d.length <= 1048576 /\ ∀ x ∈ d, x.length <= 1048576
  f2 : o.length <= 1048576000 /\ d.length <= 1048576000 /\ ∀ x ∈ d, x.length <= 1048576000
  fm : o.length <= 2000000 /\ d.length <= 2000000 /\ sumLen d <= 2000000
  le : 0 <= szF o d l /\ szF o d l <= 1048576
theorem szF_is {o : List Int} {d : List (List Int)} {l : Int} (hl : 0 <= l /\ l <= 1048576) (h : ¬ szF o d l < 0) : SzOK o d l := by
  have h0 := h
  unfold szF at h
  split at h
  · omega
  · rename_i h1
    split at h
    · omega
    · rename_i h2
      obtain ⟨h3, h4⟩ := szI_le h1
      have h6 := h2
      unfold szII at h6
      split at h6
      · omega
      · rename_i h7
        obtain ⟨h8, h9⟩ := szR_le (by omega) h6
        have h10 := szR_sum (by omega) h6
        have h11 : szII d (szI o l) = szR d (szI o l - d.length) := by unfold szII; rw [if_neg h7]
        have h12 : szF o d l = szII d (szI o l) := by unfold szF; rw [if_neg h1, if_neg h2]
        have e1 : o.length <= 1048576 := by omega
        have e2 : d.length <= 1048576 := by omega
        have e3 : ∀ x ∈ d, x.length <= 1048576 := fun x hx => by have := h8 x hx; omega
        exact ⟨e1, e2, e3, by omega, ⟨e1, e2, e3⟩, ⟨by omega, by omega, fun x hx => by have := e3 x hx; omega⟩, ⟨by omega, by omega, by omega⟩, by omega, by omega⟩

/-! the first place where a test holds -/
/-- The first place where a test holds, from k on; -1 if there is none. -/
def idxG {α : Type} (p : α -> Bool) : List α -> Int -> Int
  | [], _ => -1
  | x :: r, k => if p x = true then k else idxG p r (k + 1)
theorem idxG_bd {α : Type} (p : α -> Bool) : ∀ (xs : List α) (k : Int), 0 <= k -> -1 <= idxG p xs k /\ idxG p xs k < k + xs.length \/ (idxG p xs k = -1)
  | [], k, h => by simp [idxG]
  | x :: r, k, h => by
    unfold idxG
    split
    · left; simp; omega
    · rcases idxG_bd p r (k + 1) (by omega) with h1 | h1
      · left; simp; omega
      · right; exact h1
theorem idxG_any {α : Type} (p : α -> Bool) : ∀ (xs : List α) (k : Int), 0 <= k -> decide (0 <= idxG p xs k) = xs.any p
  | [], k, _ => by simp [idxG]
  | x :: r, k, h => by
    unfold idxG
    cases hx : p x with
    | true => simp [hx, h]
    | false => simp [hx, idxG_any p r (k + 1) (by omega)]

/-! fields -/
def rowOK (hi : Int) (xs : List Int) : Bool := xs.all fun x => decide (0 <= x /\ x <= hi)
def good (o : List Int) (d : List (List Int)) : Bool := decide (1 <= o.length /\ o.length <= 7) && rowOK 99 o && decide (d.length <= 7) && d.all fun r => decide (r.length = o.length) && rowOK 99 r
theorem rowOK_iff {hi : Int} {xs : List Int} : rowOK hi xs = true ↔ ∀ x ∈ xs, 0 <= x /\ x <= hi := by simp [rowOK]
structure FieldOK (o : List Int) (d : List (List Int)) : Prop where
  n1 : 1 <= o.length
  n7 : o.length <= 7
  o99 : ∀ x ∈ o, 0 <= x /\ x <= 99
  m7 : d.length <= 7
  len : ∀ r ∈ d, r.length = o.length
  d99 : ∀ r ∈ d, ∀ x ∈ r, 0 <= x /\ x <= 99
theorem good_iff {o : List Int} {d : List (List Int)} : good o d = true ↔ FieldOK o d := by
  simp only [good, Bool.and_eq_true, decide_eq_true_eq, rowOK_iff, List.all_eq_true]
  exact ⟨fun ⟨⟨⟨⟨a, b⟩, c⟩, e⟩, f⟩ => ⟨a, b, c, e, fun r hr => (f r hr).1, fun r hr => (f r hr).2⟩, fun h => ⟨⟨⟨⟨h.n1, h.n7⟩, h.o99⟩, h.m7⟩, fun r hr => ⟨h.len r hr, h.d99 r hr⟩⟩⟩

/-! the end of a law: what both packages say is the same -/
theorem partB_self {x : Bool} {P Q : Prop} (h : P) : partB (x == x) P Q := partB_intro (fun _ => h) (fun e => by simp at e)
theorem partB_tt {P Q : Prop} (h : P) : partB true P Q := partB_intro (fun _ => h) (fun e => by simp at e)
theorem forkP_true {P Q : Prop} (h : P) : forkP True P Q := fork_intro (fun _ => h) (fun e => (e trivial).elim)
theorem forkP_eq {α : Type} {x : α} {P Q : Prop} (h : P) : forkP (x = x) P Q := fork_intro (fun _ => h) (fun e => (e rfl).elim)
end Go.Vc
