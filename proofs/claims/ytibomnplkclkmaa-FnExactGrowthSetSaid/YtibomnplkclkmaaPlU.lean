/- Insertion in plain lists: sorted, of the same members; sites kept one by one. -/
import Derived.Test.YtibomnplkclkmaaXT
import Derived.Test.YtibomnplkclkmaaPlB
import Derived.Test.YtibomnplkclkmaaPlR
namespace Go.Proofs.Ytibomnplkclkmaa
open Go.Vc
set_option linter.unusedSimpArgs false
set_option linter.unusedVariables false

def ltB (φ : Int → Int) (x y : Int) : Bool := decide (φ x < φ y)
theorem ltI_eq : ltI = ltB id := rfl
theorem ltT_eq (T : List Int) : ltT T = ltB (ix T) := rfl
theorem insL_perm (lt : Int → Int → Bool) (S : List Int) (x : Int) : (insL lt S x).Perm (x :: S) := by
  unfold insL
  refine List.perm_middle.trans ?_
  rw [List.take_append_drop]
theorem foldl_perm (lt : Int → Int → Bool) : ∀ (xs S : List Int), (xs.foldl (insL lt) S).Perm (S ++ xs)
  | [], S => by simp
  | x :: xs, S => by
    rw [List.foldl_cons]
    refine (foldl_perm lt xs _).trans ?_
    refine ((insL_perm lt S x).append_right xs).trans ?_
    exact (List.perm_middle (l₁ := S)).symm
theorem insF_perm (lt : Int → Int → Bool) (xs : List Int) : (insF lt xs).Perm xs := by simpa [insF] using foldl_perm lt xs []
theorem mem_insF {lt : Int → Int → Bool} {xs : List Int} {x : Int} : x ∈ insF lt xs ↔ x ∈ xs := (insF_perm lt xs).mem_iff
theorem cut_fact (φ : Int → Int) (S : List Int) (x : Int) : ∀ j, j ≤ S.length → (∀ q : Nat, cutF (ltB φ) S x j ≤ q → q < j → φ x < φ (ix S (q : Int))) ∧ (cutF (ltB φ) S x j = 0 ∨ φ (ix S ((cutF (ltB φ) S x j - 1 : Nat) : Int)) ≤ φ x)
  | 0, _ => ⟨fun q _ h => by omega, .inl rfl⟩
  | j + 1, h => by
    rw [cutF_s]
    by_cases e : ltB φ x (ix S (j : Int)) = true
    · rw [if_pos e]
      obtain ⟨h1, h2⟩ := cut_fact φ S x j (by omega)
      refine ⟨fun q hq hq2 => ?_, h2⟩
      by_cases e2 : q = j
      · subst e2; exact of_decide_eq_true e
      · exact h1 q hq (by omega)
    · rw [if_neg e]
      refine ⟨fun q h1 h2 => by omega, .inr ?_⟩
      rw [Nat.add_sub_cancel]
      exact Int.not_lt.1 (fun hh => e (decide_eq_true hh))
def Srt (φ : Int → Int) (S : List Int) : Prop := S.Pairwise fun x y => φ x ≤ φ y
theorem srt_ix {φ : Int → Int} {S : List Int} (h : Srt φ S) {q r : Nat} (hqr : q < r) (hr : r < S.length) : φ (ix S (q : Int)) ≤ φ (ix S (r : Int)) := by
  have h1 := ix_some S (k := q) (by omega)
  have h2 := ix_some S hr
  obtain ⟨a1, e1⟩ := List.getElem?_eq_some_iff.1 h1
  obtain ⟨a2, e2⟩ := List.getElem?_eq_some_iff.1 h2
  rw [← e1, ← e2]
  exact List.pairwise_iff_getElem.1 h q r a1 a2 hqr
theorem srt_insL {φ : Int → Int} {S : List Int} (x : Int) (h : Srt φ S) : Srt φ (insL (ltB φ) S x) := by
  obtain ⟨h1, h2⟩ := cut_fact φ S x S.length (Nat.le_refl _)
  have hc := cutF_le (ltB φ) S x S.length
  unfold insL Srt
  generalize cutF (ltB φ) S x S.length = c at *
  have hs : (S.take c ++ S.drop c).Pairwise fun x y => φ x ≤ φ y := by rw [List.take_append_drop]; exact h
  obtain ⟨p1, p2, p3⟩ := List.pairwise_append.1 hs
  have hd : ∀ b ∈ S.drop c, φ x ≤ φ b := fun b hb => by
    obtain ⟨q, hq⟩ := List.mem_iff_getElem?.1 hb
    rw [List.getElem?_drop] at hq
    have hlt := (List.getElem?_eq_some_iff.1 hq).1
    rw [ix_some S hlt] at hq
    cases hq
    exact Int.le_of_lt (h1 _ (by omega) hlt)
  have ht : ∀ a ∈ S.take c, φ a ≤ φ x := fun a ha => by
    obtain ⟨q, hq⟩ := List.mem_iff_getElem?.1 ha
    have hlt := (List.getElem?_eq_some_iff.1 hq).1
    rw [List.length_take] at hlt
    rw [List.getElem?_take_of_lt (by omega), ix_some S (by omega)] at hq
    cases hq
    rcases h2 with h2 | h2
    · omega
    · by_cases e : q = c - 1
      · subst e; exact h2
      · exact Int.le_trans (srt_ix h (show q < c - 1 by omega) (by omega)) h2
  refine List.pairwise_append.2 ⟨p1, List.pairwise_cons.2 ⟨hd, p2⟩, fun a ha b hb => ?_⟩
  rcases List.mem_cons.1 hb with rfl | hb
  · exact ht a ha
  · exact p3 a ha b hb
theorem srt_insF (φ : Int → Int) (xs : List Int) : Srt φ (insF (ltB φ) xs) := by
  have : ∀ (xs S : List Int), Srt φ S → Srt φ (xs.foldl (insL (ltB φ)) S) := by
    intro xs
    induction xs with
    | nil => intro S h; exact h
    | cons x xs ih => intro S h; exact ih _ (srt_insL x h)
  exact this xs [] List.Pairwise.nil
/-- Where an element is put from the left. -/
theorem insL_at {φ : Int → Int} {S : List Int} {x : Int} {k : Nat} (h : Srt φ S) (hk : k ≤ S.length) (h1 : ∀ q : Nat, q < k → φ (ix S (q : Int)) ≤ φ x) (h2 : k < S.length → φ x < φ (ix S (k : Int))) : insL (ltB φ) S x = S.take k ++ x :: S.drop k := by
  obtain ⟨f1, f2⟩ := cut_fact φ S x S.length (Nat.le_refl _)
  have hc := cutF_le (ltB φ) S x S.length
  have e : cutF (ltB φ) S x S.length = k := by
    generalize cutF (ltB φ) S x S.length = c at *
    rcases Nat.lt_trichotomy c k with hlt | e | hlt
    · have a1 := f1 c (Nat.le_refl _) (by omega)
      have a2 := h1 c hlt
      omega
    · exact e
    · have a1 := h2 (by omega)
      rcases f2 with f2 | f2
      · omega
      · by_cases e : k = c - 1
        · subst e; omega
        · have := srt_ix h (show k < c - 1 by omega) (by omega)
          omega
  unfold insL; rw [e]
theorem up_insF {xs : List Int} (h : xs.Nodup) : Up (insF ltI xs) := by
  have h1 : Srt id (insF ltI xs) := srt_insF id xs
  have h2 : (insF ltI xs).Nodup := (insF_perm ltI xs).nodup_iff.2 h
  exact (List.Pairwise.and h1 h2).imp fun ⟨a, b⟩ => by
    have a : (_ : Int) ≤ _ := a
    simp only [id] at a
    omega

/-- The sites kept among the first of a list. -/
def keepL (c : Int → Int → Bool) (L : List Int) : Nat → List Int
  | 0 => []
  | i + 1 => if (keepL c L i).any (fun y => c (ix L (i : Int)) y) = true then keepL c L i else keepL c L i ++ [ix L (i : Int)]
theorem keepL_sub (c : Int → Int → Bool) {L : List Int} : ∀ {i : Nat}, i ≤ L.length → ∀ y ∈ keepL c L i, ∃ q : Nat, q < i ∧ y = ix L (q : Int)
  | 0, _, y, hy => by cases hy
  | i + 1, hi, y, hy => by
    unfold keepL at hy
    split at hy
    · obtain ⟨q, h1, h2⟩ := keepL_sub c (i := i) (by omega) y hy
      exact ⟨q, by omega, h2⟩
    · rcases List.mem_append.1 hy with hy | hy
      · obtain ⟨q, h1, h2⟩ := keepL_sub c (i := i) (by omega) y hy
        exact ⟨q, by omega, h2⟩
      · rw [List.mem_singleton] at hy; exact ⟨i, by omega, hy⟩
theorem keepL_len (c : Int → Int → Bool) (L : List Int) : ∀ i : Nat, (keepL c L i).length ≤ i
  | 0 => Nat.le_refl _
  | i + 1 => by
    have := keepL_len c L i
    unfold keepL
    split
    · omega
    · simp; omega
theorem nodup_ix {L : List Int} (h : L.Nodup) {q r : Nat} (hq : q < L.length) (hr : r < L.length) (e : ix L (q : Int) = ix L (r : Int)) : q = r := by
  have e1 := ix_some L hq
  have e2 := ix_some L hr
  rw [e, ← e2] at e1
  exact (List.getElem?_inj hq h).1 e1
theorem keepL_nodup (c : Int → Int → Bool) {L : List Int} (h : L.Nodup) : ∀ {i : Nat}, i ≤ L.length → (keepL c L i).Nodup
  | 0, _ => List.nodup_nil
  | i + 1, hi => by
    unfold keepL
    split
    · exact keepL_nodup c h (by omega)
    · refine List.nodup_append.2 ⟨keepL_nodup c h (by omega), (by simp), fun a ha b hb => ?_⟩
      rw [List.mem_singleton] at hb
      obtain ⟨q, h1, h2⟩ := keepL_sub c (i := i) (by omega) a ha
      rintro rfl
      have := nodup_ix h (q := q) (r := i) (by omega) (by omega) (by rw [← h2, hb])
      omega
theorem keepL_congr {c c' : Int → Int → Bool} {L : List Int} : ∀ {i : Nat}, i ≤ L.length → (∀ x ∈ L, ∀ y ∈ L, c x y = c' x y) → keepL c L i = keepL c' L i
  | 0, _, _ => rfl
  | i + 1, hi, h => by
    have ih := keepL_congr (i := i) (by omega) h
    unfold keepL
    rw [ih]
    have : (keepL c' L i).any (fun y => c (ix L (i : Int)) y) = (keepL c' L i).any (fun y => c' (ix L (i : Int)) y) := by
      have key : ∀ l : List Int, (∀ y ∈ l, y ∈ L) → l.any (fun y => c (ix L (i : Int)) y) = l.any (fun y => c' (ix L (i : Int)) y) := by
        intro l
        induction l with
        | nil => intro _; rfl
        | cons a l ih => intro hl; simp only [List.any_cons]; rw [h _ (ix_mem L (by omega)) a (hl a (by simp)), ih (fun y hy => hl y (by simp [hy]))]
      exact key _ (fun y hy => by obtain ⟨q, h1, h2⟩ := keepL_sub c' (i := i) (by omega) y hy; rw [h2]; exact ix_mem L (by omega))
    rw [this]

/-- The tight sites in the order of their times. -/
def tghtL (t : List Int) (n : Nat) : List Int := sel (fun a => decide (0 ≤ ix t (a : Int))) n
def ripeL (t : List Int) (n : Nat) : List Int := insF (ltT t) (tghtL t n)
theorem sel_nodup (p : Nat → Bool) : ∀ n, (sel p n).Nodup
  | 0 => List.nodup_nil
  | n + 1 => by
    rw [sel]
    split
    · refine List.nodup_append.2 ⟨sel_nodup p n, (by simp), fun a ha b hb => ?_⟩
      rw [List.mem_singleton] at hb
      obtain ⟨k, h1, _, h2⟩ := mem_sel.1 ha
      omega
    · exact sel_nodup p n
theorem ripe_mem {t : List Int} {n : Nat} {x : Int} : x ∈ ripeL t n ↔ ∃ k : Nat, k < n ∧ 0 ≤ ix t (k : Int) ∧ (k : Int) = x := by
  unfold ripeL tghtL
  rw [mem_insF, mem_sel]; simp
theorem ripe_nodup (t : List Int) (n : Nat) : (ripeL t n).Nodup := (insF_perm _ _).nodup_iff.2 (sel_nodup _ _)
theorem ripe_len (t : List Int) (n : Nat) : (ripeL t n).length ≤ n := by unfold ripeL; rw [insF_len]; exact sel_len _ _
theorem ripe_t {t : List Int} {n : Nat} (h : 0 ≤ ix t (n : Int)) : ripeL t (n + 1) = insL (ltT t) (ripeL t n) n := by
  unfold ripeL tghtL
  rw [sel_t (p := fun a : Nat => decide (0 ≤ ix t (a : Int))) (decide_eq_true h)]
  unfold insF
  rw [List.foldl_append]; rfl
theorem ripe_f {t : List Int} {n : Nat} (h : ¬ 0 ≤ ix t (n : Int)) : ripeL t (n + 1) = ripeL t n := by
  unfold ripeL tghtL
  rw [sel_f (p := fun a : Nat => decide (0 ≤ ix t (a : Int))) (decide_eq_false h)]
def chpF (o : List Int) : Nat → Nat
  | 0 => 0
  | a + 1 => if ix o (a : Int) < ix o (chpF o a : Int) then a else chpF o a
def gsetL (o : List Int) (d : List (List Int)) : List Int :=
  if d.length = 0 then [(chpF o o.length : Int)] else insF ltI (keepL (cnfX d (grown o d).p) (ripeL (grown o d).t o.length) (ripeL (grown o d).t o.length).length)
end Go.Proofs.Ytibomnplkclkmaa
