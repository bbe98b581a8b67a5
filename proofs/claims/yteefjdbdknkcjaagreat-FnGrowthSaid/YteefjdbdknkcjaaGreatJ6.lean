/- Texts joined: PlU PlZ A26 A27. -/
import Derived.Test.YteefjdbdknkcjaaGreatJ5
namespace Go.Proofs.YteefjdbdknkcjaaGreat
open Go.Vc
set_option linter.unusedSimpArgs false
set_option linter.unusedVariables false

def ltB (φ : Int -> Int) (x y : Int) : Bool := decide (φ x < φ y)
theorem ltT_eq (T : List Int) : ltT T = ltB (ix T) := rfl
theorem insL_perm (lt : Int -> Int -> Bool) (S : List Int) (x : Int) : (insL lt S x).Perm (x :: S) := by
  unfold insL
  refine List.perm_middle.trans ?_
  rw [List.take_append_drop]
theorem foldl_perm (lt : Int -> Int -> Bool) : ∀ (xs S : List Int), (xs.foldl (insL lt) S).Perm (S ++ xs)
  | [], S => by simp
  | x :: xs, S => by
    rw [List.foldl_cons]
    refine (foldl_perm lt xs _).trans ?_
    refine ((insL_perm lt S x).append_right xs).trans ?_
    exact (List.perm_middle (l₁ := S)).symm
theorem insF_perm (lt : Int -> Int -> Bool) (xs : List Int) : (insF lt xs).Perm xs := by simpa [insF] using foldl_perm lt xs []
theorem mem_insF {lt : Int -> Int -> Bool} {xs : List Int} {x : Int} : x ∈ insF lt xs ↔ x ∈ xs := (insF_perm lt xs).mem_iff
theorem cut_fact (φ : Int -> Int) (S : List Int) (x : Int) : ∀ j, j <= S.length -> (∀ q : Nat, cutF (ltB φ) S x j <= q -> q < j -> φ x < φ (ix S (q : Int))) /\ (cutF (ltB φ) S x j = 0 \/ φ (ix S ((cutF (ltB φ) S x j - 1 : Nat) : Int)) <= φ x)
  | 0, _ => ⟨fun q _ h => by omega, .inl rfl⟩
  | j + 1, h => by
    rw [cutF_s]
    by_cases e : ltB φ x (ix S (j : Int)) = true
    · rw [if_pos e]
      obtain ⟨h1, h2⟩ := cut_fact φ S x j (by omega)
      refine ⟨fun q hq hq2 => ?_, h2⟩
      by_cases e2 : q = j
      · subst e2; exact of_decide_eq_true e
      · exact h1 q hq (by omega)
    · rw [if_neg e]
      refine ⟨fun q h1 h2 => by omega, .inr ?_⟩
      rw [Nat.add_sub_cancel]
      exact Int.not_lt.1 (fun hh => e (decide_eq_true hh))
def Srt (φ : Int -> Int) (S : List Int) : Prop := S.Pairwise fun x y => φ x <= φ y
theorem srt_ix {φ : Int -> Int} {S : List Int} (h : Srt φ S) {q r : Nat} (hqr : q < r) (hr : r < S.length) : φ (ix S (q : Int)) <= φ (ix S (r : Int)) := by
  have h1 := ix_some S (k := q) (by omega)
  have h2 := ix_some S hr
  obtain ⟨a1, e1⟩ := List.getElem?_eq_some_iff.1 h1
  obtain ⟨a2, e2⟩ := List.getElem?_eq_some_iff.1 h2
  rw [<- e1, <- e2]
  exact List.pairwise_iff_getElem.1 h q r a1 a2 hqr
theorem srt_insL {φ : Int -> Int} {S : List Int} (x : Int) (h : Srt φ S) : Srt φ (insL (ltB φ) S x) := by
  obtain ⟨h1, h2⟩ := cut_fact φ S x S.length (Nat.le_refl _)
  have hc := cutF_le (ltB φ) S x S.length
  unfold insL Srt
  generalize cutF (ltB φ) S x S.length = c at *
  have hs : (S.take c ++ S.drop c).Pairwise fun x y => φ x <= φ y := by rw [List.take_append_drop]; exact h
  obtain ⟨p1, p2, p3⟩ := List.pairwise_append.1 hs
  have hd : ∀ b ∈ S.drop c, φ x <= φ b := fun b hb => by
    obtain ⟨q, hq⟩ := List.mem_iff_getElem?.1 hb
    rw [List.getElem?_drop] at hq
    have hlt := (List.getElem?_eq_some_iff.1 hq).1
    rw [ix_some S hlt] at hq
    cases hq
    exact Int.le_of_lt (h1 _ (by omega) hlt)
  have ht : ∀ a ∈ S.take c, φ a <= φ x := fun a ha => by
    obtain ⟨q, hq⟩ := List.mem_iff_getElem?.1 ha
    have hlt := (List.getElem?_eq_some_iff.1 hq).1
    rw [List.length_take] at hlt
    rw [List.getElem?_take_of_lt (by omega), ix_some S (by omega)] at hq
    cases hq
    rcases h2 with h2 | h2
    · omega
    · by_cases e : q = c - 1
      · subst e; exact h2
      · exact Int.le_trans (srt_ix h (show q < c - 1 by omega) (by omega)) h2
  refine List.pairwise_append.2 ⟨p1, List.pairwise_cons.2 ⟨hd, p2⟩, fun a ha b hb => ?_⟩
  rcases List.mem_cons.1 hb with rfl | hb
  · exact ht a ha
  · exact p3 a ha b hb
theorem srt_insF (φ : Int -> Int) (xs : List Int) : Srt φ (insF (ltB φ) xs) := by
  have : ∀ (xs S : List Int), Srt φ S -> Srt φ (xs.foldl (insL (ltB φ)) S) := by
    intro xs
    induction xs with
    | nil => intro S h; exact h
    | cons x xs ih => intro S h; exact ih _ (srt_insL x h)
  exact this xs [] List.Pairwise.nil
theorem insL_at {φ : Int -> Int} {S : List Int} {x : Int} {k : Nat} (h : Srt φ S) (hk : k <= S.length) (h1 : ∀ q : Nat, q < k -> φ (ix S (q : Int)) <= φ x) (h2 : k < S.length -> φ x < φ (ix S (k : Int))) : insL (ltB φ) S x = S.take k ++ x :: S.drop k := by
  obtain ⟨f1, f2⟩ := cut_fact φ S x S.length (Nat.le_refl _)
  have hc := cutF_le (ltB φ) S x S.length
  have e : cutF (ltB φ) S x S.length = k := by
    generalize cutF (ltB φ) S x S.length = c at *
    rcases Nat.lt_trichotomy c k with hlt | e | hlt
    · have a1 := f1 c (Nat.le_refl _) (by omega)
      have a2 := h1 c hlt
      omega
    · exact e
    · have a1 := h2 (by omega)
      rcases f2 with f2 | f2
      · omega
      · by_cases e : k = c - 1
        · subst e; omega
        · have := srt_ix h (show k < c - 1 by omega) (by omega)
          omega
  unfold insL; rw [e]
theorem up_insF {xs : List Int} (h : xs.Nodup) : Up (insF ltI xs) := by
  have h1 : Srt id (insF ltI xs) := srt_insF id xs
  have h2 : (insF ltI xs).Nodup := (insF_perm ltI xs).nodup_iff.2 h
  exact (List.Pairwise.and h1 h2).imp fun ⟨a, b⟩ => by
    have a : (_ : Int) <= _ := a
    simp only [id] at a
    omega

def keepL (c : Int -> Int -> Bool) (L : List Int) : Nat -> List Int
  | 0 => []
  | i + 1 => if (keepL c L i).any (fun y => c (ix L (i : Int)) y) = true then keepL c L i else keepL c L i ++ [ix L (i : Int)]
theorem keepL_sub (c : Int -> Int -> Bool) {L : List Int} : ∀ {i : Nat}, i <= L.length -> ∀ y ∈ keepL c L i, ∃ q : Nat, q < i /\ y = ix L (q : Int)
  | 0, _, y, hy => by cases hy
  | i + 1, hi, y, hy => by
    unfold keepL at hy
    split at hy
    · obtain ⟨q, h1, h2⟩ := keepL_sub c (i := i) (by omega) y hy
      exact ⟨q, by omega, h2⟩
    · rcases List.mem_append.1 hy with hy | hy
      · obtain ⟨q, h1, h2⟩ := keepL_sub c (i := i) (by omega) y hy
        exact ⟨q, by omega, h2⟩
      · rw [List.mem_singleton] at hy; exact ⟨i, by omega, hy⟩
theorem keepL_len (c : Int -> Int -> Bool) (L : List Int) : ∀ i : Nat, (keepL c L i).length <= i
  | 0 => Nat.le_refl _
  | i + 1 => by
    have := keepL_len c L i
    unfold keepL
    split
    · omega
    · simp; omega
theorem nodup_ix {L : List Int} (h : L.Nodup) {q r : Nat} (hq : q < L.length) (hr : r < L.length) (e : ix L (q : Int) = ix L (r : Int)) : q = r := by
  have e1 := ix_some L hq
  have e2 := ix_some L hr
  rw [e, <- e2] at e1
  exact (List.getElem?_inj hq h).1 e1
theorem keepL_nodup (c : Int -> Int -> Bool) {L : List Int} (h : L.Nodup) : ∀ {i : Nat}, i <= L.length -> (keepL c L i).Nodup
  | 0, _ => List.nodup_nil
  | i + 1, hi => by
    unfold keepL
    split
    · exact keepL_nodup c h (by omega)
    · refine List.nodup_append.2 ⟨keepL_nodup c h (by omega), (by simp), fun a ha b hb => ?_⟩
      rw [List.mem_singleton] at hb
      obtain ⟨q, h1, h2⟩ := keepL_sub c (i := i) (by omega) a ha
      rintro rfl
      have := nodup_ix h (q := q) (r := i) (by omega) (by omega) (by rw [<- h2, hb])
      omega
def tghtL (t : List Int) (n : Nat) : List Int := sel (fun a => decide (0 <= ix t (a : Int))) n
def ripeL (t : List Int) (n : Nat) : List Int := insF (ltT t) (tghtL t n)
theorem sel_nodup (p : Nat -> Bool) : ∀ n, (sel p n).Nodup
  | 0 => List.nodup_nil
  | n + 1 => by
    rw [sel]
    split
    · refine List.nodup_append.2 ⟨sel_nodup p n, (by simp), fun a ha b hb => ?_⟩
      rw [List.mem_singleton] at hb
      obtain ⟨k, h1, _, h2⟩ := mem_sel.1 ha
      omega
    · exact sel_nodup p n
theorem ripe_mem {t : List Int} {n : Nat} {x : Int} : x ∈ ripeL t n ↔ ∃ k : Nat, k < n /\ 0 <= ix t (k : Int) /\ (k : Int) = x := by
  unfold ripeL tghtL
  rw [mem_insF, mem_sel]; simp
theorem ripe_nodup (t : List Int) (n : Nat) : (ripeL t n).Nodup := (insF_perm _ _).nodup_iff.2 (sel_nodup _ _)
theorem ripe_len (t : List Int) (n : Nat) : (ripeL t n).length <= n := by unfold ripeL; rw [insF_len]; exact sel_len _ _
theorem ripe_t {t : List Int} {n : Nat} (h : 0 <= ix t (n : Int)) : ripeL t (n + 1) = insL (ltT t) (ripeL t n) n := by
  unfold ripeL tghtL
  rw [sel_t (p := fun a : Nat => decide (0 <= ix t (a : Int))) (decide_eq_true h)]
  unfold insF
  rw [List.foldl_append]; rfl
theorem ripe_f {t : List Int} {n : Nat} (h : ¬ 0 <= ix t (n : Int)) : ripeL t (n + 1) = ripeL t n := by
  unfold ripeL tghtL
  rw [sel_f (p := fun a : Nat => decide (0 <= ix t (a : Int))) (decide_eq_false h)]
def chpF (o : List Int) : Nat -> Nat
  | 0 => 0
  | a + 1 => if ix o (a : Int) < ix o (chpF o a : Int) then a else chpF o a
def gsetL (o : List Int) (d : List (List Int)) : List Int :=
  if d.length = 0 then [(chpF o o.length : Int)] else insF ltI (keepL (cnfX d (grown o d).p) (ripeL (grown o d).t o.length) (ripeL (grown o d).t o.length).length)
end Go.Proofs.YteefjdbdknkcjaaGreat
namespace Go.Proofs.YteefjdbdknkcjaaGreat
open Go.Vc
set_option maxRecDepth 100000
set_option linter.unusedSimpArgs false
set_option linter.unusedVariables false

structure GMore (o : List Int) (d : List (List Int)) (s : St) : Prop where
  te : ∀ a : Nat, a < o.length -> 0 <= ix s.t (a : Int) -> gcl d s a = 2520 * ix o (a : Int)
  wt : ∀ j : Nat, j < d.length -> 0 <= ix s.w (j : Int) -> (0 <= ix s.t (ix s.w (j : Int)) /\ ix s.t (ix s.w (j : Int)) <= ix s.p (j : Int)) /\ 2520 * ix (ix d (j : Int)) (ix s.w (j : Int)) <= ix s.p (j : Int)
  un : ∀ j : Nat, j < d.length -> ix s.w (j : Int) < 0 -> ∀ a : Nat, a < o.length -> 0 <= ix s.t (a : Int) -> s.now <= 2520 * ix (ix d (j : Int)) (a : Int)
  st : ∀ j : Nat, j < d.length -> 0 <= ix s.w (j : Int) -> ∀ a : Nat, a < o.length -> 0 <= ix s.t (a : Int) -> ix s.p (j : Int) <= ix s.t (a : Int) \/ ix s.p (j : Int) <= 2520 * ix (ix d (j : Int)) (a : Int)
section
variable {o : List Int} {d : List (List Int)} {s : St}
theorem GMore.set (h : GInv o d s) (m : GMore o d s) :
    (∀ a : Nat, a < o.length -> 0 <= ix (gsett o d s).t (a : Int) -> gcl d (gsett o d s) a = 2520 * ix o (a : Int)) /\
    (∀ j : Nat, j < d.length -> 0 <= ix (gsett o d s).w (j : Int) -> (0 <= ix (gsett o d s).t (ix (gsett o d s).w (j : Int)) /\ ix (gsett o d s).t (ix (gsett o d s).w (j : Int)) <= ix (gsett o d s).p (j : Int)) /\ 2520 * ix (ix d (j : Int)) (ix (gsett o d s).w (j : Int)) <= ix (gsett o d s).p (j : Int)) /\
    (∀ j : Nat, j < d.length -> ix (gsett o d s).w (j : Int) < 0 -> ∀ a : Nat, a < o.length -> 0 <= ix (gsett o d s).t (a : Int) -> s.now < 2520 * ix (ix d (j : Int)) (a : Int)) /\
    (∀ j : Nat, j < d.length -> 0 <= ix (gsett o d s).w (j : Int) -> ∀ a : Nat, a < o.length -> 0 <= ix (gsett o d s).t (a : Int) -> ix (gsett o d s).p (j : Int) <= ix (gsett o d s).t (a : Int) \/ ix (gsett o d s).p (j : Int) <= 2520 * ix (ix d (j : Int)) (a : Int)) := by
  have hn := h.n0
  have et : (gsett o d s).t = gti o d s := rfl
  rw [et]
  refine ⟨fun a ha ht => ?_, fun j hj hw => ?_, fun j hj hw a ha ht => ?_, fun j hj hw a ha ht => ?_⟩
  · rw [gcl_gsett]
    rw [gti_ix ha] at ht
    split at ht
    · rename_i hc; exact hc.2
    · exact m.te a ha ht
  · have ew := set_w (o := o) (s := s) hj
    have ep := set_p (o := o) (s := s) hj
    have hws := h.ws j hj
    by_cases h1 : ix s.w (j : Int) < 0
    · rw [if_pos h1] at ew
      rw [ew] at hw ⊢
      rw [if_pos ⟨h1, hw⟩] at ep
      rw [ep]
      obtain ⟨a, ha, e, h2, h3⟩ := witF_no hw
      have e2 : wit o d s j = (a : Int) := e
      rw [e2]
      refine ⟨⟨h2, ?_⟩, h3⟩
      have := h.ts a ha
      rw [gti_ix ha]; split <;> omega
    · rw [if_neg h1] at ew
      rw [if_neg (fun hh => h1 hh.1)] at ep
      rw [ew, ep]
      obtain ⟨⟨h2, h3⟩, h4⟩ := m.wt j hj (by omega)
      have e : ix (gti o d s) (ix s.w (j : Int)) = ix s.t (ix s.w (j : Int)) := by
        obtain ⟨b, hb⟩ : ∃ b : Nat, ix s.w (j : Int) = b := ⟨(ix s.w (j : Int)).toNat, by omega⟩
        rw [hb] at h2 ⊢
        rw [gti_ix (by omega), if_neg (fun hh => by omega)]
      rw [e]
      exact ⟨⟨h2, h3⟩, h4⟩
  · have ew := set_w (o := o) (s := s) hj
    rw [ew] at hw
    have h1 : ix s.w (j : Int) < 0 := by
      split at hw
      · assumption
      · exact hw
    rw [if_pos h1] at hw
    refine Int.not_le.1 (fun hle => ?_)
    have h3 : 0 <= wit o d s j := witF_pos (a := a) ⟨ht, hle⟩ ha
    omega
  · have ew := set_w (o := o) (s := s) hj
    have ep := set_p (o := o) (s := s) hj
    have hg := gti_ix (d := d) (s := s) ha
    by_cases h1 : ix s.w (j : Int) < 0
    · rw [if_pos h1] at ew
      rw [ew] at hw
      rw [if_pos ⟨h1, hw⟩] at ep
      rw [ep]
      by_cases hc : ix s.t (a : Int) < 0 /\ gcl d s a = 2520 * ix o (a : Int)
      · rw [if_pos hc] at hg; left; omega
      · rw [if_neg hc] at hg
        right; exact m.un j hj h1 a ha (by omega)
    · rw [if_neg h1] at ew
      rw [if_neg (fun hh => h1 hh.1)] at ep
      rw [ep]
      have := h.ps j hj (by omega)
      by_cases hc : ix s.t (a : Int) < 0 /\ gcl d s a = 2520 * ix o (a : Int)
      · rw [if_pos hc] at hg; left; omega
      · rw [if_neg hc] at hg
        rw [hg]
        exact m.st j hj (by omega) a ha (by omega)
theorem GMore.adv (h : GInv o d s) (m : GMore o d s) (hm : movingP d (gsett o d s)) : GMore o d (Go.Vc.adv o d (gsett o d s)) := by
  obtain ⟨m1, m2, m3, m4⟩ := GMore.set h m
  have hmn := h.step_is
  obtain ⟨c0, hc0⟩ := h.some_cand hm
  obtain ⟨hx0, hxc, hxm⟩ : 0 <= gstep o d (gsett o d s) /\ (cand1 o d (gsett o d s) (gstep o d (gsett o d s)) \/ cand2 o d (gsett o d s) (gstep o d (gsett o d s))) /\ ∀ c, (cand1 o d (gsett o d s) c \/ cand2 o d (gsett o d s) c) -> gstep o d (gsett o d s) <= c := by
    rcases hmn with ⟨_, hno⟩ | h3
    · exact (hno _ hc0).elim
    · exact h3
  have hX : Go.Vc.adv o d (gsett o d s) = ⟨gstep o d (gsett o d s), (gsett o d s).p, (gsett o d s).w, (gsett o d s).t⟩ := rfl
  rw [hX]
  generalize gstep o d (gsett o d s) = X at *
  have hNX := h.cpos hxc
  have hlin := fun {a : Nat} (ha : a < o.length) => h.lin (y := X) (by omega) (fun j hj hw a ha hb => hxm _ (.inl ⟨j, hj, a, ha, hw, hb, rfl⟩)) ha
  refine ⟨fun a ha ht => ?_, m2, fun j hj hw a ha ht => ?_, m4⟩
  · have ht : 0 <= ix (gsett o d s).t (a : Int) := ht
    rw [hlin ha]
    have e : gsp d (gsett o d s) a = 0 := by
      refine Classical.byContradiction (fun hne => ?_)
      have hz : ∀ n : Nat, n <= d.length -> cN (gspB d (gsett o d s) a) n = 0 := by
        intro n
        induction n with
        | zero => intro _; rfl
        | succ n ih =>
          intro hn
          have hb : gspB d (gsett o d s) a n = false := by
            unfold gspB
            refine decide_eq_false (fun hh => ?_)
            have := m3 n (by omega) hh.1 a ha ht
            have h2 : 2520 * ix (ix d (n : Int)) (a : Int) <= s.now := hh.2
            omega
          rw [cN, ih (by omega), hb]; rfl
      exact hne (hz _ (Nat.le_refl _))
    rw [e, m1 a ha ht]; simp
  · exact hxm _ (.inl ⟨j, hj, a, ha, hw, m3 j hj hw a ha ht, rfl⟩)
theorem GMore.start (hf : FieldOK o d) : GMore o d (st0 o.length d.length) := by
  refine ⟨fun a ha ht => ?_, fun j hj hw => ?_, fun j hj hw a ha ht => ?_, fun j hj hw => ?_⟩
  · rw [show ix (st0 o.length d.length).t (a : Int) = -1 from ix_replicate _ _ ha] at ht; omega
  · rw [show ix (st0 o.length d.length).w (j : Int) = -1 from ix_replicate _ _ hj] at hw; omega
  · rw [show ix (st0 o.length d.length).t (a : Int) = -1 from ix_replicate _ _ ha] at ht; omega
  · rw [show ix (st0 o.length d.length).w (j : Int) = -1 from ix_replicate _ _ hj] at hw; omega
theorem run_fin : ∀ (k : Nat) (s : St), GInv o d s -> GMore o d s -> (498960 - s.now).toNat < k -> ∃ s', GInv o d s' /\ GMore o d s' /\ ¬ movingP d (gsett o d s') /\ gsett o d s' = runF o d k s
  | 0, s, _, _, hk => by omega
  | k + 1, s, h, m, hk => by
    have e : runF o d (k + 1) s = if movingP d (gsett o d s) then runF o d k (Go.Vc.adv o d (gsett o d s)) else gsett o d s := rfl
    rw [e]
    by_cases hm : movingP d (gsett o d s)
    · rw [if_pos hm]
      obtain ⟨h1, h2⟩ := h.adv hm
      have := h1.n0
      exact run_fin k _ h1 (GMore.adv h m hm) (by omega)
    · rw [if_neg hm]
      exact ⟨s, h, m, hm, rfl⟩
structure GFin (o : List Int) (d : List (List Int)) (g : St) : Prop where
  f : FieldOK o d
  lp : g.p.length = d.length
  lw : g.w.length = d.length
  lt : g.t.length = o.length
  w0 : ∀ j : Nat, j < d.length -> 0 <= ix g.w (j : Int) /\ ix g.w (j : Int) < o.length
  p0 : ∀ j : Nat, j < d.length -> 0 <= ix g.p (j : Int) /\ ix g.p (j : Int) <= 498960
  ts : ∀ a : Nat, a < o.length -> -1 <= ix g.t (a : Int) /\ ix g.t (a : Int) <= 498960
  fair : ∀ a : Nat, a < o.length -> clm d g.p 2520 (a : Int) <= 2520 * ix o (a : Int)
  te : ∀ a : Nat, a < o.length -> 0 <= ix g.t (a : Int) -> clm d g.p 2520 (a : Int) = 2520 * ix o (a : Int)
  wt : ∀ j : Nat, j < d.length -> (0 <= ix g.t (ix g.w (j : Int)) /\ ix g.t (ix g.w (j : Int)) <= ix g.p (j : Int)) /\ 2520 * ix (ix d (j : Int)) (ix g.w (j : Int)) <= ix g.p (j : Int)
  st : ∀ j : Nat, j < d.length -> ∀ a : Nat, a < o.length -> 0 <= ix g.t (a : Int) -> ix g.p (j : Int) <= ix g.t (a : Int) \/ ix g.p (j : Int) <= 2520 * ix (ix d (j : Int)) (a : Int)
theorem grown_fin (hf : FieldOK o d) : GFin o d (grown o d) := by
  obtain ⟨s, h, m, hm, e⟩ := run_fin 1000000 (st0 o.length d.length) (st0_inv hf) (GMore.start hf) (by show (498960 - (0 : Int)).toNat < 1000000; omega)
  have e : gsett o d s = grown o d := e
  rw [<- e]
  have hn := h.n0
  obtain ⟨m1, m2, m3, m4⟩ := GMore.set h m
  have hw : ∀ j : Nat, j < d.length -> 0 <= ix (gsett o d s).w (j : Int) := fun j hj => Int.not_lt.1 (fun hh => hm ⟨j, hj, hh⟩)
  have ep : gpr d (gsett o d s) = (gsett o d s).p := by
    symm
    refine tab_eq (tab_len _ _) (fun j hj => ?_)
    rw [if_neg (by have := hw j hj; omega)]
  have ec : ∀ a : Nat, clm d (gsett o d s).p 2520 (a : Int) = gcl d (gsett o d s) a := fun a => by unfold gcl; rw [ep]
  refine ⟨hf, tab_len _ _, tab_len _ _, tab_len _ _, fun j hj => ⟨hw j hj, (h.sw hj).2⟩, fun j hj => ?_, fun a ha => ?_, fun a ha => ?_, fun a ha ht => ?_, fun j hj => m2 j hj (hw j hj), fun j hj a ha ht => m4 j hj (hw j hj) a ha ht⟩
  · have := (h.sp hj (hw j hj)).1; omega
  · have e2 : ix (gsett o d s).t (a : Int) = ix (gti o d s) (a : Int) := rfl
    have := h.ts a ha
    rw [e2, gti_ix ha]; split <;> omega
  · rw [ec]
    by_cases ht : 0 <= ix (gsett o d s).t (a : Int)
    · rw [m1 a ha ht]; exact Int.le_refl _
    · have := (h.less ha (Int.not_le.1 ht)).2
      rw [gcl_gsett]; omega
  · rw [ec]; exact m1 a ha ht

/-! the kept sites -/
theorem keepL_free {c : Int -> Int -> Bool} (hc : ∀ x y, c x y = c y x) {L : List Int} : ∀ {i : Nat}, ∀ x ∈ keepL c L i, ∀ y ∈ keepL c L i, x ≠ y -> c x y = false
  | 0, x, hx, _, _, _ => by cases hx
  | i + 1, x, hx, y, hy, hne => by
    unfold keepL at hx hy
    by_cases h : (keepL c L i).any (fun y => c (ix L (i : Int)) y) = true
    · rw [if_pos h] at hx hy; exact keepL_free hc x hx y hy hne
    · rw [if_neg h] at hx hy
      have hno : ∀ z ∈ keepL c L i, c (ix L (i : Int)) z = false := fun z hz => by
        cases hcz : c (ix L (i : Int)) z with
        | false => rfl
        | true => exact (h (List.any_eq_true.2 ⟨z, hz, hcz⟩)).elim
      rcases List.mem_append.1 hx with hx | hx
      · rcases List.mem_append.1 hy with hy | hy
        · exact keepL_free hc x hx y hy hne
        · rw [List.mem_singleton] at hy; subst hy; rw [hc]; exact hno x hx
      · rw [List.mem_singleton] at hx; subst hx
        rcases List.mem_append.1 hy with hy | hy
        · exact hno y hy
        · rw [List.mem_singleton] at hy; exact (hne hy.symm).elim
theorem keepL_grow (c : Int -> Int -> Bool) (L : List Int) (i : Nat) : ∀ x ∈ keepL c L i, x ∈ keepL c L (i + 1) := fun x hx => by
  show x ∈ (if _ then _ else _)
  split
  · exact hx
  · exact List.mem_append_left _ hx
theorem keepL_max (c : Int -> Int -> Bool) (L : List Int) : ∀ {i q : Nat}, q < i -> ix L (q : Int) ∈ keepL c L i \/ ∃ y ∈ keepL c L i, c (ix L (q : Int)) y = true
  | 0, q, h => by omega
  | i + 1, q, h => by
    rcases Nat.lt_succ_iff_lt_or_eq.1 h with hl | rfl
    · rcases keepL_max c L hl with h1 | ⟨y, h1, h2⟩
      · exact .inl (keepL_grow c L i _ h1)
      · exact .inr ⟨y, keepL_grow c L i _ h1, h2⟩
    · by_cases h : (keepL c L q).any (fun y => c (ix L (q : Int)) y) = true
      · obtain ⟨y, h1, h2⟩ := List.any_eq_true.1 h
        exact .inr ⟨y, keepL_grow c L q _ h1, h2⟩
      · left
        show _ ∈ (if _ then _ else _)
        rw [if_neg h]
        exact List.mem_append_right _ List.mem_cons_self
theorem cnfX_symm (d : List (List Int)) (p : List Int) (a b : Int) : cnfX d p a b = cnfX d p b a :=
  decide_eq_decide.2 ⟨fun ⟨j, h1, h2, h3⟩ => ⟨j, h1, h3, h2⟩, fun ⟨j, h1, h2, h3⟩ => ⟨j, h1, h3, h2⟩⟩
structure GKept (o : List Int) (d : List (List Int)) (set : List Int) : Prop where
  up : Up set
  tight : ∀ x ∈ set, 0 <= x /\ x < o.length /\ 0 <= ix (grown o d).t x
  free : ∀ x ∈ set, ∀ y ∈ set, x ≠ y -> cnfX d (grown o d).p x y = false
  max : ∀ a : Nat, a < o.length -> 0 <= ix (grown o d).t (a : Int) -> (a : Int) ∈ set \/ ∃ y ∈ set, cnfX d (grown o d).p (a : Int) y = true
theorem gset_kept (hd : d.length ≠ 0) : GKept o d (gsetL o d) := by
  have e : gsetL o d = insF ltI (keepL (cnfX d (grown o d).p) (ripeL (grown o d).t o.length) (ripeL (grown o d).t o.length).length) := by unfold gsetL; rw [if_neg hd]
  have hR := ripe_nodup (grown o d).t o.length
  have hRm := fun {x : Int} => ripe_mem (t := (grown o d).t) (n := o.length) (x := x)
  have hs := fun {y : Int} (hy : y ∈ keepL (cnfX d (grown o d).p) (ripeL (grown o d).t o.length) (ripeL (grown o d).t o.length).length) => keepL_sub (cnfX d (grown o d).p) (Nat.le_refl _) y hy
  rw [e]
  refine ⟨up_insF (keepL_nodup _ hR (Nat.le_refl _)), fun x hx => ?_, fun x hx y hy hne => ?_, fun a ha ht => ?_⟩
  · obtain ⟨q, h1, rfl⟩ := hs (mem_insF.1 hx)
    obtain ⟨k, h2, h3, h4⟩ := hRm.1 (ix_mem _ h1)
    rw [<- h4]
    exact ⟨by omega, by omega, h3⟩
  · exact keepL_free (cnfX_symm d _) x (mem_insF.1 hx) y (mem_insF.1 hy) hne
  · obtain ⟨q, hq, e2⟩ := mem_ix (hRm.2 ⟨a, ha, ht, rfl⟩)
    have := keepL_max (cnfX d (grown o d).p) (ripeL (grown o d).t o.length) hq
    rw [e2] at this
    rcases this with h1 | ⟨y, h1, h2⟩
    · exact .inl (mem_insF.2 h1)
    · exact .inr ⟨y, mem_insF.2 h1, h2⟩
theorem GKept.pos (hf : FieldOK o d) (hd : d.length ≠ 0) {set : List Int} (h : GKept o d set) : 0 < set.length := by
  have g := grown_fin hf
  have hw := g.w0 0 (by omega)
  have ht := (g.wt 0 (by omega)).1.1
  have e : (((ix (grown o d).w ((0 : Nat) : Int)).toNat : Nat) : Int) = ix (grown o d).w ((0 : Nat) : Int) := by omega
  rcases h.max (ix (grown o d).w ((0 : Nat) : Int)).toNat (by omega) (by rw [e]; exact ht) with h1 | ⟨y, h1, _⟩
  · exact List.length_pos_of_mem h1
  · exact List.length_pos_of_mem h1

/-! prices in their units against sets -/
theorem units_le (g : GFin o d (grown o d)) {set : List Int} (h : OpenOK o d set) : (grown o d).p.sum <= 2520 * total o d set := by
  have hl := g.lp
  have e1 : sumL (fun a => clm d (grown o d).p 2520 a) set = sumN (fun j => sumL (fun a => clmT d (grown o d).p 2520 a j) set) d.length := by
    unfold clm; rw [hl]; exact sumL_sumN _ _ _
  have h1 : sumL (fun a => clm d (grown o d).p 2520 a) set <= sumL (fun a => 2520 * ix o a) set := sumL_le (fun x hx => by
    obtain ⟨k, hk, rfl⟩ := mem_ix hx
    have := h.xin k hk
    have h2 := g.fair (ix set (k : Int)).toNat (by omega)
    rw [show (((ix set (k : Int)).toNat : Nat) : Int) = ix set (k : Int) by omega] at h2
    exact h2)
  have e2 : ∀ xs : List Int, sumL (fun a => 2520 * ix o a) xs = 2520 * sumL (fun a => ix o a) xs := fun xs => by
    induction xs with
    | nil => rfl
    | cons x r ih => simp only [sumL]; rw [ih]; omega
  have e3 : ∀ n : Nat, sumN (fun j => 2520 * near (ix d (j : Int)) set) n = 2520 * sumN (fun j => near (ix d (j : Int)) set) n := fun n => by
    induction n with
    | zero => rfl
    | succ n ih => simp only [sumN]; rw [ih]; omega
  have h2 : sumN (fun j => ix (grown o d).p (j : Int)) d.length <= sumN (fun j => 2520 * near (ix d (j : Int)) set + sumL (fun a => clmT d (grown o d).p 2520 a j) set) d.length := sumN_mono (fun j hj => by
    have h3 := sumL_get (f := fun a => clmT d (grown o d).p 2520 a j) (xs := set) (fun x _ => clmT_nn _ _ _ _ _) (srv_mem (ix d (j : Int)) h.pos)
    have h4 : ix (grown o d).p (j : Int) - 2520 * near (ix d (j : Int)) set <= clmT d (grown o d).p 2520 (srv (ix d (j : Int)) set) j := by
      unfold clmT near; omega
    omega)
  rw [sumN_add, e3] at h2
  rw [sum_ix, hl]
  have e4 : total o d set = pay o set + sumN (fun j => near (ix d (j : Int)) set) d.length := rfl
  rw [e2, <- pay_sumL] at h1
  omega
theorem three_le (g : GFin o d (grown o d)) {set : List Int} (h : GKept o d set) (hp : 0 < set.length) (hm : MetM d.length o.length d) : 2520 * (3 * pay o set + svc d set) <= 3 * (grown o d).p.sum := by
  have hl := g.lp
  have e1 : sumL (fun a => clm d (grown o d).p 2520 a) set = sumN (fun j => sumL (fun a => clmT d (grown o d).p 2520 a j) set) d.length := by
    unfold clm; rw [hl]; exact sumL_sumN _ _ _
  have h1 : sumL (fun a => clm d (grown o d).p 2520 a) set = sumL (fun a => 2520 * ix o a) set := sumL_congr (fun x hx => by
    obtain ⟨h2, h3, h4⟩ := h.tight x hx
    have e : ((x.toNat : Nat) : Int) = x := by omega
    have h5 := g.te x.toNat (by omega) (by rw [e]; exact h4)
    rw [e] at h5; exact h5)
  have e2 : ∀ xs : List Int, sumL (fun a => 2520 * ix o a) xs = 2520 * sumL (fun a => ix o a) xs := fun xs => by
    induction xs with
    | nil => rfl
    | cons x r ih => simp only [sumL]; rw [ih]; omega
  have e3 : ∀ n : Nat, sumN (fun j => 2520 * near (ix d (j : Int)) set) n = 2520 * sumN (fun j => near (ix d (j : Int)) set) n := fun n => by
    induction n with
    | zero => rfl
    | succ n ih => simp only [sumN]; rw [ih]; omega
  have e4 : ∀ (f : Nat -> Int) (n : Nat), sumN (fun j => 3 * f j) n = 3 * sumN f n := fun f n => by
    induction n with
    | zero => rfl
    | succ n ih => simp only [sumN]; rw [ih]; omega
  have conf : ∀ (j : Nat), j < d.length -> ∀ x ∈ set, ∀ y ∈ set, x ≠ y -> 2520 * ix (ix d (j : Int)) x < ix (grown o d).p (j : Int) -> ix (grown o d).p (j : Int) <= 2520 * ix (ix d (j : Int)) y := fun j hj x hx y hy hne h2 => by
    have h3 := of_decide_eq_false (h.free x hx y hy hne)
    exact Int.not_lt.1 (fun h4 => h3 ⟨j, hj, h2, h4⟩)
  have h2 : sumN (fun j => 3 * sumL (fun a => clmT d (grown o d).p 2520 a j) set + 2520 * near (ix d (j : Int)) set) d.length <= sumN (fun j => 3 * ix (grown o d).p (j : Int)) d.length := sumN_mono (fun j hj => by
    by_cases hx : ∃ x ∈ set, 2520 * ix (ix d (j : Int)) x < ix (grown o d).p (j : Int)
    · obtain ⟨x, hx, hlt⟩ := hx
      have e5 := sumL_without (f := fun a => clmT d (grown o d).p 2520 a j) h.up hx
      have e6 : sumL (fun a => clmT d (grown o d).p 2520 a j) (without set x) = 0 := (sumL_zero (fun y _ => clmT_nn _ _ _ _ _)).2 (fun y hy => by
        obtain ⟨h3, h4⟩ := mem_without.1 hy
        have := conf j hj x hx y h3 (fun e => h4 e.symm) hlt
        unfold clmT; omega)
      have h3 := near_le (row := ix d (j : Int)) hx
      have e7 : clmT d (grown o d).p 2520 x j = ix (grown o d).p (j : Int) - 2520 * ix (ix d (j : Int)) x := by unfold clmT; omega
      obtain ⟨b1, b2, _⟩ := h.tight x hx
      have b3 := g.f.d_ix (k := (j : Int)) (a := x) (by omega) (by omega) b1 b2
      omega
    · have e6 : sumL (fun a => clmT d (grown o d).p 2520 a j) set = 0 := (sumL_zero (fun y _ => clmT_nn _ _ _ _ _)).2 (fun y hy => by
        have : ¬ 2520 * ix (ix d (j : Int)) y < ix (grown o d).p (j : Int) := fun hh => hx ⟨y, hy, hh⟩
        unfold clmT; omega)
      obtain ⟨⟨w1, w2⟩, w3⟩ := g.wt j hj
      have w0 := g.w0 j hj
      obtain ⟨w, hw⟩ : ∃ w : Nat, ix (grown o d).w (j : Int) = w := ⟨(ix (grown o d).w (j : Int)).toNat, by omega⟩
      rw [hw] at w0 w1 w2 w3
      rcases h.max w (by omega) w1 with hin | ⟨y, hy, hc⟩
      · have h3 := near_le (row := ix d (j : Int)) hin
        have := g.p0 j hj
        omega
      · obtain ⟨k, hk, c1, c2⟩ := of_decide_eq_true hc
        have h3 := near_le (row := ix d (j : Int)) hy
        obtain ⟨b1, b2, _⟩ := h.tight y hy
        have h4 := hm j k y.toNat w hj hk (by omega) (by omega)
        unfold ent at h4
        rw [show ((y.toNat : Nat) : Int) = y by omega] at h4
        have h5 := g.st k hk w (by omega) w1
        omega)
  rw [sumN_add, e3, e4 (fun j => sumL (fun a => clmT d (grown o d).p 2520 a j) set), e4 (fun j => ix (grown o d).p (j : Int)), <- e1, h1, e2, <- pay_sumL] at h2
  rw [sum_ix, hl]
  unfold svc
  omega
end
end Go.Proofs.YteefjdbdknkcjaaGreat
namespace Go.Proofs.YteefjdbdknkcjaaGreat
open Go.Vc
set_option maxRecDepth 100000
set_option linter.unusedSimpArgs false
set_option linter.unusedVariables false

def g_grownS : List AV -> Prop × AV
  | [.agg [.int .i64 now, .ints p, .bools bs, .ints wt, .ints t]] => (p.length <= 1000 /\ bs.length = p.length, .ints (tab p.length fun j => if ix bs (j : Int) = true then ix p (j : Int) else now))
  | _ => (False, .undef)
theorem g_grownS_eq (now : Int) (p : List Int) (bs : List Bool) (wt t : List Int) : g_grownS [.agg [.int .i64 now, .ints p, .bools bs, .ints wt, .ints t]] = (p.length <= 1000 /\ bs.length = p.length, .ints (tab p.length fun j => if ix bs (j : Int) = true then ix p (j : Int) else now)) := (rfl)
theorem grownS_ok (now : Int) (p : List Int) (bs : List Bool) (wt t : List Int) (hp : p.length <= 1000 /\ bs.length = p.length) : SpecOK Tryz.prog 152 [.agg [.int .i64 now, .ints p, .bools bs, .ints wt, .ints t]] (.ints (tab p.length fun j => if ix bs (j : Int) = true then ix p (j : Int) else now)) [] := by
  refine fun_ok (C := []) (hint := hintX [6] [] 0 [] [] [] []) (TabOK.nil _) mixed Tryz.func152 rfl (by kernel_rfl) rfl ?_
  show codeA _ _ _ _ _ _ _ _
  simp only [go_sem, Tryz.results152]
  obtain ⟨h0, h1⟩ := hp
  refine loop_intro (fun j : Nat => [(3, .sl 0), (4, .int .i64 j), (1, .iptr [.int .i64 now, .ints p, .bools bs, .ints wt, .ints t])]) (fun j => [(0, .arr (.ints (tab j fun j => if ix bs (j : Int) = true then ix p (j : Int) else now)))]) 1 (fun j => j <= p.length) (fun j => p.length - j) 0 (Nat.zero_le _) (by omega) ?_ ?_
  · simp only [go_sem]
    repeat' (first | refine fork_intro (fun hb => ?_) (fun hb => ?_) | refine partB_intro (fun hb => ?_) (fun hb => ?_) | refine And.intro ?_ ?_)
    all_goals first | exact True.intro | omega | with_reducible rfl | exact congrArg (AV.int _) (by omega) | (first | rfl)
  · intro j hj
    have hl : (tab j fun j => if ix bs (j : Int) = true then ix p (j : Int) else now).length = j := tab_len _ _
    have e := tab_succ j (fun j => if ix bs (j : Int) = true then ix p (j : Int) else now)
    simp only [go_sem]
    refine fork_intro (fun hc => ?_) (fun hc => ?_)
    · refine ⟨by omega, partB_intro (fun hb => ?_) (fun hb => ?_)⟩
      · rw [if_pos hb] at e
        repeat' (first | refine fork_intro (fun hb => ?_) (fun hb => ?_) | refine partB_intro (fun hb => ?_) (fun hb => ?_) | refine And.intro ?_ ?_)
        all_goals first | exact True.intro | omega | with_reducible rfl | exact congrArg (AV.int _) (by omega) | (refine LoopEnd.intro (j + 1) (by first | omega) (by first | omega | (dsimp only; omega)) (by omega) ?_; simp only [go_sem]; (repeat' (first | refine fork_intro (fun hb => ?_) (fun hb => ?_) | refine partB_intro (fun hb => ?_) (fun hb => ?_) | refine And.intro ?_ ?_)); all_goals first | exact True.intro | omega | with_reducible rfl | exact congrArg (AV.int _) (by omega) | (first | rw [e])) | (first | rw [e])
      · rw [if_neg (by rw [hb]; decide)] at e
        repeat' (first | refine fork_intro (fun hb => ?_) (fun hb => ?_) | refine partB_intro (fun hb => ?_) (fun hb => ?_) | refine And.intro ?_ ?_)
        all_goals first | exact True.intro | omega | with_reducible rfl | exact congrArg (AV.int _) (by omega) | (refine LoopEnd.intro (j + 1) (by first | omega) (by first | omega | (dsimp only; omega)) (by omega) ?_; simp only [go_sem]; (repeat' (first | refine fork_intro (fun hb => ?_) (fun hb => ?_) | refine partB_intro (fun hb => ?_) (fun hb => ?_) | refine And.intro ?_ ?_)); all_goals first | exact True.intro | omega | with_reducible rfl | exact congrArg (AV.int _) (by omega) | (first | rw [e])) | (first | rw [e])
    · rw [show j = p.length by omega]
def t_grownS : Table := [(152, pureC g_grownS)]
theorem t_grownS_ok : TabOK Tryz.prog t_grownS := .cons Tryz.func152 (by kernel_rfl) (.pure (by intro args hp; unfold g_grownS at hp ⊢; split at hp <;> first | exact hp.elim | exact grownS_ok _ _ _ _ _ hp)) (.nil _)
attribute [go_sem] g_grownS_eq t_grownS
def g_speedS : List AV -> Prop × AV
  | [.agg [.ints o, .rows d], .agg [.int .i64 now, .ints p, .bools bs, .ints wt, .ints t], .int .i64 a] => (FieldOK o d /\ bs.length = d.length /\ 0 <= a /\ a < o.length, .int .i64 ((cN (fun j => !(ix bs (j : Int)) && decide (2520 * ix (ix d (j : Int)) a <= now)) d.length : Nat) : Int))
  | _ => (False, .undef)
theorem g_speedS_eq (o : List Int) (d : List (List Int)) (now : Int) (p : List Int) (bs : List Bool) (wt t : List Int) (a : Int) : g_speedS [.agg [.ints o, .rows d], .agg [.int .i64 now, .ints p, .bools bs, .ints wt, .ints t], .int .i64 a] = (FieldOK o d /\ bs.length = d.length /\ 0 <= a /\ a < o.length, .int .i64 ((cN (fun j => !(ix bs (j : Int)) && decide (2520 * ix (ix d (j : Int)) a <= now)) d.length : Nat) : Int)) := (rfl)
theorem speedS_ok (o : List Int) (d : List (List Int)) (now : Int) (p : List Int) (bs : List Bool) (wt t : List Int) (a : Int) (hp : FieldOK o d /\ bs.length = d.length /\ 0 <= a /\ a < o.length) : SpecOK Tryz.prog 154 [.agg [.ints o, .rows d], .agg [.int .i64 now, .ints p, .bools bs, .ints wt, .ints t], .int .i64 a] (.int .i64 ((cN (fun j => !(ix bs (j : Int)) && decide (2520 * ix (ix d (j : Int)) a <= now)) d.length : Nat) : Int)) [] := by
  refine fun_ok (C := []) (hint := hintX [] [] 0 [] [] [] []) (TabOK.nil _) mixed Tryz.func154 rfl (by kernel_rfl) rfl ?_
  show codeA _ _ _ _ _ _ _ _
  simp only [go_sem, Tryz.results154]
  obtain ⟨hf, h1, h2, h3⟩ := hp
  have hm := hf.m7
  refine loop_intro (fun j : Nat => [(7, .int .i64 ((cN (fun j => !(ix bs (j : Int)) && decide (2520 * ix (ix d (j : Int)) a <= now)) j : Nat) : Int)), (8, .int .i64 j), (2, .int .i64 a), (3, .iptr [.ints o, .rows d]), (4, .iptr [.int .i64 now, .ints p, .bools bs, .ints wt, .ints t])]) (fun _ => []) 0 (fun j => j <= d.length) (fun j => d.length - j) 0 (Nat.zero_le _) (by omega) ?_ ?_
  · simp only [go_sem]
    repeat' (first | refine fork_intro (fun hb => ?_) (fun hb => ?_) | refine partB_intro (fun hb => ?_) (fun hb => ?_) | refine And.intro ?_ ?_)
    all_goals first | exact True.intro | omega | with_reducible rfl | exact congrArg (AV.int _) (by omega) | (first | rfl)
  · intro j hj
    have hle := cN_le (fun j => !(ix bs (j : Int)) && decide (2520 * ix (ix d (j : Int)) a <= now)) j
    have e : cN (fun j => !(ix bs (j : Int)) && decide (2520 * ix (ix d (j : Int)) a <= now)) (j + 1) = cN (fun j => !(ix bs (j : Int)) && decide (2520 * ix (ix d (j : Int)) a <= now)) j + (if (!(ix bs (j : Int)) && decide (2520 * ix (ix d (j : Int)) a <= now)) = true then 1 else 0) := rfl
    simp only [go_sem]
    refine fork_intro (fun hc => ?_) (fun hc => ?_)
    · have hr := ix_mem d (k := j) (by omega)
      have hl := hf.len _ hr
      have hd := hf.d99 _ hr _ (ix_memI (ix d (j : Int)) h2 (by omega))
      refine ⟨by omega, partB_intro (fun hb => ?_) (fun hb => ?_)⟩
      · rw [if_neg (by rw [hb]; simp)] at e
        repeat' (first | refine fork_intro (fun hb => ?_) (fun hb => ?_) | refine partB_intro (fun hb => ?_) (fun hb => ?_) | refine And.intro ?_ ?_)
        all_goals first | exact True.intro | omega | with_reducible rfl | exact congrArg (AV.int _) (by omega) | (refine LoopEnd.intro (j + 1) (by first | omega) (by first | omega | (dsimp only; omega)) (by omega) ?_; simp only [go_sem]; (repeat' (first | refine fork_intro (fun hb => ?_) (fun hb => ?_) | refine partB_intro (fun hb => ?_) (fun hb => ?_) | refine And.intro ?_ ?_)); all_goals first | exact True.intro | omega | with_reducible rfl | exact congrArg (AV.int _) (by omega) | (first | rfl | exact congrArg (AV.int _) (by omega))) | (first | rfl | exact congrArg (AV.int _) (by omega))
      · refine ⟨by omega, by omega, by omega, fork_intro (fun hle2 => ?_) (fun hle2 => ?_)⟩
        · rw [if_pos (by rw [hb, decide_eq_true hle2]; rfl)] at e
          repeat' (first | refine fork_intro (fun hb => ?_) (fun hb => ?_) | refine partB_intro (fun hb => ?_) (fun hb => ?_) | refine And.intro ?_ ?_)
          all_goals first | exact True.intro | omega | with_reducible rfl | exact congrArg (AV.int _) (by omega) | (refine LoopEnd.intro (j + 1) (by first | omega) (by first | omega | (dsimp only; omega)) (by omega) ?_; simp only [go_sem]; (repeat' (first | refine fork_intro (fun hb => ?_) (fun hb => ?_) | refine partB_intro (fun hb => ?_) (fun hb => ?_) | refine And.intro ?_ ?_)); all_goals first | exact True.intro | omega | with_reducible rfl | exact congrArg (AV.int _) (by omega) | (first | exact congrArg (AV.int _) (by omega))) | (first | exact congrArg (AV.int _) (by omega))
        · rw [if_neg (by rw [hb, decide_eq_false hle2]; simp)] at e
          repeat' (first | refine fork_intro (fun hb => ?_) (fun hb => ?_) | refine partB_intro (fun hb => ?_) (fun hb => ?_) | refine And.intro ?_ ?_)
          all_goals first | exact True.intro | omega | with_reducible rfl | exact congrArg (AV.int _) (by omega) | (refine LoopEnd.intro (j + 1) (by first | omega) (by first | omega | (dsimp only; omega)) (by omega) ?_; simp only [go_sem]; (repeat' (first | refine fork_intro (fun hb => ?_) (fun hb => ?_) | refine partB_intro (fun hb => ?_) (fun hb => ?_) | refine And.intro ?_ ?_)); all_goals first | exact True.intro | omega | with_reducible rfl | exact congrArg (AV.int _) (by omega) | (first | exact congrArg (AV.int _) (by omega))) | (first | exact congrArg (AV.int _) (by omega))
    · rw [show j = d.length by omega]
def t_speedS : Table := [(154, pureC g_speedS)]
theorem t_speedS_ok : TabOK Tryz.prog t_speedS := .cons Tryz.func154 (by kernel_rfl) (.pure (by intro args hp; unfold g_speedS at hp ⊢; split at hp <;> first | exact hp.elim | exact speedS_ok _ _ _ _ _ _ _ _ hp)) (.nil _)
attribute [go_sem] g_speedS_eq t_speedS
def g_breakS : List AV -> Prop × AV
  | [.agg [.ints o, .rows d], .agg [.int .i64 now, .ints p, .bools bs, .ints wt, .ints t]] => (FieldOK o d /\ bs.length = d.length /\ 0 <= now, .int .i64 (mn (brkL o d now bs) (-1)))
  | _ => (False, .undef)
theorem g_breakS_eq (o : List Int) (d : List (List Int)) (now : Int) (p : List Int) (bs : List Bool) (wt t : List Int) : g_breakS [.agg [.ints o, .rows d], .agg [.int .i64 now, .ints p, .bools bs, .ints wt, .ints t]] = (FieldOK o d /\ bs.length = d.length /\ 0 <= now, .int .i64 (mn (brkL o d now bs) (-1))) := (rfl)
theorem breakS_ok (o : List Int) (d : List (List Int)) (now : Int) (p : List Int) (bs : List Bool) (wt t : List Int) (hp : FieldOK o d /\ bs.length = d.length /\ 0 <= now) : SpecOK Tryz.prog 153 [.agg [.ints o, .rows d], .agg [.int .i64 now, .ints p, .bools bs, .ints wt, .ints t]] (.int .i64 (mn (brkL o d now bs) (-1))) [] := by
  refine fun_ok (C := []) (hint := hintX [] [] 0 [] [] [] []) (TabOK.nil _) mixed Tryz.func153 rfl (by kernel_rfl) rfl ?_
  show codeA _ _ _ _ _ _ _ _
  simp only [go_sem, Tryz.results153]
  obtain ⟨hf, h1, h2⟩ := hp
  have hm := hf.m7
  have hn := hf.n7
  have hb := brk_is o d bs h2
  refine loop_intro (fun g : Nat × Int => [(5, .int .i64 g.2), (6, .int .i64 g.1), (2, .iptr [.ints o, .rows d]), (3, .iptr [.int .i64 now, .ints p, .bools bs, .ints wt, .ints t])]) (fun _ => []) 0 (fun g => g.1 <= d.length /\ g.2 <= 249480 /\ IsMn g.2 (brkP o d now bs g.1)) (fun g => d.length - g.1) (0, -1) ⟨Nat.zero_le _, by decide, IsMn.none.congr (fun c => by simp [brkP])⟩ (by omega) ?_ ?_
  · simp only [go_sem]
    repeat' (first | refine fork_intro (fun hb => ?_) (fun hb => ?_) | refine partB_intro (fun hb => ?_) (fun hb => ?_) | refine And.intro ?_ ?_)
    all_goals first | exact True.intro | omega | with_reducible rfl | exact congrArg (AV.int _) (by omega) | (first | rfl)
  · rintro ⟨j, x⟩ ⟨hj, hx9, hx⟩
    simp only [go_sem]
    refine fork_intro (fun hc => ?_) (fun hc => ?_)
    · have hr := ix_mem d (k := j) (by omega)
      have hl := hf.len _ hr
      refine loop_intro (fun g : Nat × Int => [(5, .int .i64 g.2), (7, .int .i64 g.1), (6, .int .i64 j), (2, .iptr [.ints o, .rows d]), (3, .iptr [.int .i64 now, .ints p, .bools bs, .ints wt, .ints t])]) (fun _ => []) 0 (fun g => g.1 <= o.length /\ g.2 <= 249480 /\ IsMn g.2 (fun c => brkP o d now bs j c \/ ∃ a : Nat, a < g.1 /\ ix bs (j : Int) = false /\ now < c /\ c = 2520 * ix (ix d (j : Int)) (a : Int))) (fun g => o.length - g.1) (0, x) ⟨Nat.zero_le _, hx9, hx.congr (fun c => by simp)⟩ (by omega) ?_ ?_
      · simp only [go_sem]
        repeat' (first | refine fork_intro (fun hb => ?_) (fun hb => ?_) | refine partB_intro (fun hb => ?_) (fun hb => ?_) | refine And.intro ?_ ?_)
        all_goals first | exact True.intro | omega | with_reducible rfl | exact congrArg (AV.int _) (by omega) | (first | rfl)
      · rintro ⟨a, y⟩ ⟨ha, hy9, hy⟩
        simp only [go_sem]
        refine fork_intro (fun hd => ?_) (fun hd => ?_)
        · have hd9 := hf.d99 _ hr _ (ix_mem (ix d (j : Int)) (k := a) (by omega))
          have hno : ¬ (ix bs (j : Int) = false /\ now < 2520 * ix (ix d (j : Int)) (a : Int)) -> IsMn y (fun c => brkP o d now bs j c \/ ∃ a' : Nat, a' < a + 1 /\ ix bs (j : Int) = false /\ now < c /\ c = 2520 * ix (ix d (j : Int)) (a' : Int)) := fun h => hy.congr (fun c => or_congr Iff.rfl ⟨fun ⟨a', h1, h2⟩ => ⟨a', by omega, h2⟩, fun ⟨a', h1, h2, h3, h4⟩ => by
            by_cases e : a' = a
            · subst e; exact (h ⟨h2, by omega⟩).elim
            · exact ⟨a', by omega, h2, h3, h4⟩⟩)
          have hyes : ix bs (j : Int) = false /\ now < 2520 * ix (ix d (j : Int)) (a : Int) -> IsMn (mnU y (2520 * ix (ix d (j : Int)) (a : Int))) (fun c => brkP o d now bs j c \/ ∃ a' : Nat, a' < a + 1 /\ ix bs (j : Int) = false /\ now < c /\ c = 2520 * ix (ix d (j : Int)) (a' : Int)) := fun h => hy.upd (by omega) (fun c => by
            rw [or_assoc]
            refine or_congr Iff.rfl ⟨fun ⟨a', h1, h2, h3, h4⟩ => ?_, fun h5 => ?_⟩
            · by_cases e : a' = a
              · subst e; exact .inr h4
              · exact .inl ⟨a', by omega, h2, h3, h4⟩
            · rcases h5 with ⟨a', h1, h2⟩ | rfl
              · exact ⟨a', by omega, h2⟩
              · exact ⟨a, by omega, h.1, h.2, rfl⟩)
          unfold mnU at hyes
          refine ⟨⟨by omega, by omega⟩, by omega, by omega, by omega, partB_intro (fun hs => ?_) (fun hs => ?_)⟩
          · have hz := hno (fun h => by rw [h.1] at hs; cases hs)
            repeat' (first | refine fork_intro (fun hb => ?_) (fun hb => ?_) | refine partB_intro (fun hb => ?_) (fun hb => ?_) | refine And.intro ?_ ?_)
            all_goals first | exact True.intro | omega | with_reducible rfl | exact congrArg (AV.int _) (by omega) | (refine LoopEnd.intro ((a + 1, y)) (by first | omega | (first | exact ⟨by omega, hy9, hz⟩)) (by first | omega | (dsimp only; omega)) (by omega) ?_; simp only [go_sem]; (repeat' (first | refine fork_intro (fun hb => ?_) (fun hb => ?_) | refine partB_intro (fun hb => ?_) (fun hb => ?_) | refine And.intro ?_ ?_)); all_goals first | exact True.intro | omega | with_reducible rfl | exact congrArg (AV.int _) (by omega) | (first | rfl)) | (first | rfl)
          · refine fork_intro (fun hg => fork_intro (fun h4 => ?_) (fun h4 => fork_intro (fun h5 => ?_) (fun h5 => ?_))) (fun hg => ?_)
            · have hz := hyes ⟨hs, by omega⟩
              rw [if_pos (.inl h4)] at hz
              repeat' (first | refine fork_intro (fun hb => ?_) (fun hb => ?_) | refine partB_intro (fun hb => ?_) (fun hb => ?_) | refine And.intro ?_ ?_)
              all_goals first | exact True.intro | omega | with_reducible rfl | exact congrArg (AV.int _) (by omega) | (refine LoopEnd.intro ((a + 1, 2520 * ix (ix d (j : Int)) (a : Int))) (by first | omega | (first | exact ⟨by omega, by omega, hz⟩)) (by first | omega | (dsimp only; omega)) (by omega) ?_; simp only [go_sem]; (repeat' (first | refine fork_intro (fun hb => ?_) (fun hb => ?_) | refine partB_intro (fun hb => ?_) (fun hb => ?_) | refine And.intro ?_ ?_)); all_goals first | exact True.intro | omega | with_reducible rfl | exact congrArg (AV.int _) (by omega) | (first | rfl)) | (first | rfl)
            · have hz := hyes ⟨hs, by omega⟩
              rw [if_pos (.inr h5)] at hz
              repeat' (first | refine fork_intro (fun hb => ?_) (fun hb => ?_) | refine partB_intro (fun hb => ?_) (fun hb => ?_) | refine And.intro ?_ ?_)
              all_goals first | exact True.intro | omega | with_reducible rfl | exact congrArg (AV.int _) (by omega) | (refine LoopEnd.intro ((a + 1, 2520 * ix (ix d (j : Int)) (a : Int))) (by first | omega | (first | exact ⟨by omega, by omega, hz⟩)) (by first | omega | (dsimp only; omega)) (by omega) ?_; simp only [go_sem]; (repeat' (first | refine fork_intro (fun hb => ?_) (fun hb => ?_) | refine partB_intro (fun hb => ?_) (fun hb => ?_) | refine And.intro ?_ ?_)); all_goals first | exact True.intro | omega | with_reducible rfl | exact congrArg (AV.int _) (by omega) | (first | rfl)) | (first | rfl)
            · have hz := hyes ⟨hs, by omega⟩
              rw [if_neg (by omega)] at hz
              repeat' (first | refine fork_intro (fun hb => ?_) (fun hb => ?_) | refine partB_intro (fun hb => ?_) (fun hb => ?_) | refine And.intro ?_ ?_)
              all_goals first | exact True.intro | omega | with_reducible rfl | exact congrArg (AV.int _) (by omega) | (refine LoopEnd.intro ((a + 1, y)) (by first | omega | (first | exact ⟨by omega, hy9, hz⟩)) (by first | omega | (dsimp only; omega)) (by omega) ?_; simp only [go_sem]; (repeat' (first | refine fork_intro (fun hb => ?_) (fun hb => ?_) | refine partB_intro (fun hb => ?_) (fun hb => ?_) | refine And.intro ?_ ?_)); all_goals first | exact True.intro | omega | with_reducible rfl | exact congrArg (AV.int _) (by omega) | (first | rfl)) | (first | rfl)
            · have hz := hno (fun h => by omega)
              repeat' (first | refine fork_intro (fun hb => ?_) (fun hb => ?_) | refine partB_intro (fun hb => ?_) (fun hb => ?_) | refine And.intro ?_ ?_)
              all_goals first | exact True.intro | omega | with_reducible rfl | exact congrArg (AV.int _) (by omega) | (refine LoopEnd.intro ((a + 1, y)) (by first | omega | (first | exact ⟨by omega, hy9, hz⟩)) (by first | omega | (dsimp only; omega)) (by omega) ?_; simp only [go_sem]; (repeat' (first | refine fork_intro (fun hb => ?_) (fun hb => ?_) | refine partB_intro (fun hb => ?_) (fun hb => ?_) | refine And.intro ?_ ?_)); all_goals first | exact True.intro | omega | with_reducible rfl | exact congrArg (AV.int _) (by omega) | (first | rfl)) | (first | rfl)
        · have ea : a = o.length := by omega
          subst ea
          have hz : IsMn y (brkP o d now bs (j + 1)) := hy.congr (fun c => by
            unfold brkP
            constructor
            · rintro (⟨j', h1, h2⟩ | ⟨a', h1, h2⟩)
              · exact ⟨j', by omega, h2⟩
              · exact ⟨j, by omega, a', h1, h2⟩
            · rintro ⟨j', h1, h2⟩
              by_cases e : j' = j
              · subst e; exact .inr h2
              · exact .inl ⟨j', by omega, h2⟩)
          repeat' (first | refine fork_intro (fun hb => ?_) (fun hb => ?_) | refine partB_intro (fun hb => ?_) (fun hb => ?_) | refine And.intro ?_ ?_)
          all_goals first | exact True.intro | omega | with_reducible rfl | exact congrArg (AV.int _) (by omega) | (refine LoopEnd.intro ((j + 1, y)) (by first | omega | (first | exact ⟨by omega, hy9, hz⟩)) (by first | omega | (dsimp only; omega)) (by omega) ?_; simp only [go_sem]; (repeat' (first | refine fork_intro (fun hb => ?_) (fun hb => ?_) | refine partB_intro (fun hb => ?_) (fun hb => ?_) | refine And.intro ?_ ?_)); all_goals first | exact True.intro | omega | with_reducible rfl | exact congrArg (AV.int _) (by omega) | (first | rfl)) | (first | rfl)
    · have ej : j = d.length := by omega
      subst ej
      exact congrArg (AV.int _) (hx.unique hb)
def t_breakS : Table := [(153, pureC g_breakS)]
theorem t_breakS_ok : TabOK Tryz.prog t_breakS := .cons Tryz.func153 (by kernel_rfl) (.pure (by intro args hp; unfold g_breakS at hp ⊢; split at hp <;> first | exact hp.elim | exact breakS_ok _ _ _ _ _ _ _ hp)) (.nil _)
attribute [go_sem] g_breakS_eq t_breakS
def g_earlierS : List AV -> Prop × AV
  | [.agg [.int .i64 now, .ints p, .bools bs, .ints wt, .ints t], .int .i64 a, .int .i64 b] => ((0 <= a /\ a < t.length) /\ 0 <= b /\ b < t.length, .bool (decide (ix t a < ix t b \/ (ix t a = ix t b /\ a < b))))
  | _ => (False, .undef)
theorem g_earlierS_eq (now : Int) (p : List Int) (bs : List Bool) (wt t : List Int) (a b : Int) : g_earlierS [.agg [.int .i64 now, .ints p, .bools bs, .ints wt, .ints t], .int .i64 a, .int .i64 b] = ((0 <= a /\ a < t.length) /\ 0 <= b /\ b < t.length, .bool (decide (ix t a < ix t b \/ (ix t a = ix t b /\ a < b)))) := (rfl)
theorem earlierS_ok (now : Int) (p : List Int) (bs : List Bool) (wt t : List Int) (a b : Int) (hp : (0 <= a /\ a < t.length) /\ 0 <= b /\ b < t.length) : SpecOK Tryz.prog 128 [.agg [.int .i64 now, .ints p, .bools bs, .ints wt, .ints t], .int .i64 a, .int .i64 b] (.bool (decide (ix t a < ix t b \/ (ix t a = ix t b /\ a < b)))) [] := by
  refine fun_ok (C := []) (hint := hintX [] [] 0 [] [] [] []) (TabOK.nil _) mixed Tryz.func128 rfl (by kernel_rfl) rfl ?_
  show codeA _ _ _ _ _ _ _ _
  simp only [go_sem, Tryz.results128]
  obtain ⟨⟨h0, h1⟩, h2, h3⟩ := hp
  repeat' (first | refine fork_intro (fun hb => ?_) (fun hb => ?_) | refine partB_intro (fun hb => ?_) (fun hb => ?_) | refine And.intro ?_ ?_)
  all_goals first | exact True.intro | omega | with_reducible rfl | exact congrArg (AV.int _) (by omega) | (first | rfl | simp [*] | (simp; omega))
def t_earlierS : Table := [(128, pureC g_earlierS)]
theorem t_earlierS_ok : TabOK Tryz.prog t_earlierS := .cons Tryz.func128 (by kernel_rfl) (.pure (by intro args hp; unfold g_earlierS at hp ⊢; split at hp <;> first | exact hp.elim | exact earlierS_ok _ _ _ _ _ _ _ hp)) (.nil _)
attribute [go_sem] g_earlierS_eq t_earlierS
def g_movingS : List AV -> Prop × AV
  | [.agg [.int .i64 now, .ints p, .bools bs, .ints wt, .ints t]] => (bs.length <= 1000, .bool (decide (∃ j, j < bs.length /\ ix bs (j : Int) = false)))
  | _ => (False, .undef)
theorem g_movingS_eq (now : Int) (p : List Int) (bs : List Bool) (wt t : List Int) : g_movingS [.agg [.int .i64 now, .ints p, .bools bs, .ints wt, .ints t]] = (bs.length <= 1000, .bool (decide (∃ j, j < bs.length /\ ix bs (j : Int) = false))) := (rfl)
theorem movingS_ok (now : Int) (p : List Int) (bs : List Bool) (wt t : List Int) (hp : bs.length <= 1000) : SpecOK Tryz.prog 119 [.agg [.int .i64 now, .ints p, .bools bs, .ints wt, .ints t]] (.bool (decide (∃ j, j < bs.length /\ ix bs (j : Int) = false))) [] := by
  refine fun_ok (C := []) (hint := hintX [] [] 0 [] [] [] []) (TabOK.nil _) mixed Tryz.func119 rfl (by kernel_rfl) rfl ?_
  show codeA _ _ _ _ _ _ _ _
  simp only [go_sem, Tryz.results119]
  refine loop_intro (fun j : Nat => [(3, .int .i64 j), (1, .iptr [.int .i64 now, .ints p, .bools bs, .ints wt, .ints t])]) (fun _ => []) 0 (fun j => j <= bs.length /\ ∀ k, k < j -> ix bs (k : Int) = true) (fun j => bs.length - j) 0 ⟨Nat.zero_le _, fun k hk => by omega⟩ (by omega) ?_ ?_
  · simp only [go_sem]
    repeat' (first | refine fork_intro (fun hb => ?_) (fun hb => ?_) | refine partB_intro (fun hb => ?_) (fun hb => ?_) | refine And.intro ?_ ?_)
    all_goals first | exact True.intro | omega | with_reducible rfl | exact congrArg (AV.int _) (by omega) | (first | rfl)
  · rintro j ⟨hj, ht⟩
    simp only [go_sem]
    refine fork_intro (fun hc => ?_) (fun hc => ?_)
    · refine ⟨by omega, partB_intro (fun hb => ?_) (fun hb => ?_)⟩
      · have ht2 : ∀ k, k < j + 1 -> ix bs (k : Int) = true := fun k hk => by
          by_cases e : k = j
          · subst e; exact hb
          · exact ht k (by omega)
        repeat' (first | refine fork_intro (fun hb => ?_) (fun hb => ?_) | refine partB_intro (fun hb => ?_) (fun hb => ?_) | refine And.intro ?_ ?_)
        all_goals first | exact True.intro | omega | with_reducible rfl | exact congrArg (AV.int _) (by omega) | (refine LoopEnd.intro (j + 1) (by first | omega | (first | exact ⟨by omega, ht2⟩)) (by first | omega | (dsimp only; omega)) (by omega) ?_; simp only [go_sem]; (repeat' (first | refine fork_intro (fun hb => ?_) (fun hb => ?_) | refine partB_intro (fun hb => ?_) (fun hb => ?_) | refine And.intro ?_ ?_)); all_goals first | exact True.intro | omega | with_reducible rfl | exact congrArg (AV.int _) (by omega) | (first | rfl)) | (first | rfl)
      · rw [decide_eq_true ⟨j, by omega, hb⟩]
    · rw [decide_eq_false (fun ⟨k, h1, h2⟩ => by rw [ht k (by omega)] at h2; cases h2)]
def t_movingS : Table := [(119, pureC g_movingS)]
theorem t_movingS_ok : TabOK Tryz.prog t_movingS := .cons Tryz.func119 (by kernel_rfl) (.pure (by intro args hp; unfold g_movingS at hp ⊢; split at hp <;> first | exact hp.elim | exact movingS_ok _ _ _ _ _ hp)) (.nil _)
attribute [go_sem] g_movingS_eq t_movingS
end Go.Proofs.YteefjdbdknkcjaaGreat
namespace Go.Proofs.YteefjdbdknkcjaaGreat
open Go.Vc
set_option maxRecDepth 100000
set_option linter.unusedSimpArgs false
set_option linter.unusedVariables false

def g_stepS : List AV -> Prop × AV
  | [.agg [.ints o, .rows d], .agg [.int .i64 now, .ints p, .bools bs, .ints wt, .ints t]] => (∃ s, GInv o d s /\ now = s.now /\ p = (gsett o d s).p /\ bs = stB (gsett o d s).w /\ wt = stW (gsett o d s).w /\ t = (gsett o d s).t, .int .i64 (gstep o d ⟨now, p, unW bs wt, t⟩))
  | _ => (False, .undef)
theorem g_stepS_eq (o : List Int) (d : List (List Int)) (now : Int) (p : List Int) (bs : List Bool) (wt t : List Int) : g_stepS [.agg [.ints o, .rows d], .agg [.int .i64 now, .ints p, .bools bs, .ints wt, .ints t]] = (∃ s, GInv o d s /\ now = s.now /\ p = (gsett o d s).p /\ bs = stB (gsett o d s).w /\ wt = stW (gsett o d s).w /\ t = (gsett o d s).t, .int .i64 (gstep o d ⟨now, p, unW bs wt, t⟩)) := (rfl)
theorem stepS_ok (o : List Int) (d : List (List Int)) (now : Int) (p : List Int) (bs : List Bool) (wt t : List Int) (hp : ∃ s, GInv o d s /\ now = s.now /\ p = (gsett o d s).p /\ bs = stB (gsett o d s).w /\ wt = stW (gsett o d s).w /\ t = (gsett o d s).t) : SpecOK Tryz.prog 120 [.agg [.ints o, .rows d], .agg [.int .i64 now, .ints p, .bools bs, .ints wt, .ints t]] (.int .i64 (gstep o d ⟨now, p, unW bs wt, t⟩)) [] := by
  refine fun_ok (C := t_breakS ++ t_grownS ++ t_speedS ++ t_claimS) (hint := hintX [] [] 0 [] [] [] []) ((((t_breakS_ok).append t_grownS_ok).append t_speedS_ok).append t_claimS_ok) mixed Tryz.func120 rfl (by kernel_rfl) rfl ?_
  show codeA _ _ _ _ _ _ _ _
  simp only [go_sem, Tryz.results120]
  obtain ⟨s, h, rfl, rfl, rfl, rfl, rfl⟩ := hp
  have e0 : St.mk s.now (gsett o d s).p (unW (stB (gsett o d s).w) (stW (gsett o d s).w)) (gsett o d s).t = gsett o d s := h.un2
  rw [e0]
  have hf := h.f
  have hm := hf.m7
  have hn := hf.n7
  have hn0 := h.n0
  have lp : (gsett o d s).p.length = d.length := tab_len _ _
  have lw : (gsett o d s).w.length = d.length := tab_len _ _
  have lt : (gsett o d s).t.length = o.length := tab_len _ _
  have lb : (stB (gsett o d s).w).length = d.length := by rw [stB_len, lw]
  have hstep := h.step_is
  have hclm := h.clm
  rw [<- gpr_gsett (o := o)] at hclm
  have ev : (tab (gsett o d s).p.length fun j => if ix (stB (gsett o d s).w) (j : Int) = true then ix (gsett o d s).p (j : Int) else s.now) = gpr d (gsett o d s) := gpr_view lp lw
  have hbrk : IsMn (mn (brkL o d s.now (stB (gsett o d s).w)) (-1)) (candA o d (gsett o d s) 0) := (brk_is o d _ hn0.1).congr (fun c => by rw [candA_zero]; exact brk_cand (t := gsett o d s) lw c)
  have hnow : (gsett o d s).now = s.now := rfl
  have hquo := fun {a : Nat} (ha : a < o.length) ht hs => h.quo (a := a) ha ht hs
  have hcb := fun {k : Nat} (hk : k <= o.length) {c : Int} hc => h.cand_bd (k := k) hk (c := c) hc
  have hgsp := fun (a : Nat) => (show cN (fun j => !(ix (stB (gsett o d s).w) (j : Int)) && decide (2520 * ix (ix d (j : Int)) (a : Int) <= s.now)) d.length = gsp d (gsett o d s) a from gsp_view (t := gsett o d s) lw a)
  have hs7 := gsp7 hm (gsett o d s)
  have hgcl := fun {a : Nat} (ha : a < o.length) => gcl_bd h ha
  simp only [<- gcl_gsett (o := o) (d := d) (s := s)] at hgcl
  have hopn := fun {a : Nat} (ha : a < o.length) => h.opn ha
  have hlt := gsp_le (d := d) (gsett o d s)
  rw [ev]
  generalize gsett o d s = σ at *
  refine ⟨⟨hf, lb, hn0.1⟩, ⟨by omega, by omega⟩, ?_⟩
  generalize mn (brkL o d s.now (stB σ.w)) (-1) = x0 at *
  refine loop_intro (fun g : Nat × Int => [(5, .int .i64 g.2), (6, .ints (gpr d σ)), (7, .int .i64 g.1), (2, .iptr [.ints o, .rows d]), (3, .iptr [.int .i64 s.now, .ints σ.p, .bools (stB σ.w), .ints (stW σ.w), .ints σ.t])]) (fun _ => []) 0 (fun g => g.1 <= o.length /\ IsMn g.2 (candA o d σ g.1)) (fun g => o.length - g.1) (0, x0) ⟨Nat.zero_le _, hbrk⟩ (by omega) ?_ ?_
  · simp only [go_sem]
    repeat' (first | refine fork_intro (fun hb => ?_) (fun hb => ?_) | refine partB_intro (fun hb => ?_) (fun hb => ?_) | refine And.intro ?_ ?_)
    all_goals first | exact True.intro | omega | with_reducible rfl | exact congrArg (AV.int _) (by omega) | (first | rfl)
  · rintro ⟨a, x⟩ ⟨ha, hx⟩
    have hxl := hx.le (by decide) (fun c hc => hcb ha hc)
    have hxg := hx.ge
    simp only [go_sem]
    refine fork_intro (fun hc => ?_) (fun hc => ?_)
    · have hao : a < o.length := by omega
      have hg := hgcl hao
      have ho := hopn hao
      have h7 := hs7 a
      have er : grest o d σ a = 2520 * ix o (a : Int) - gcl d σ a := rfl
      have ec : clm d (gpr d σ) 2520 (a : Int) = gcl d σ a := rfl
      have hm7 := mul7 (y := x - s.now) h7 (by omega) (by omega)
      simp only [hgsp, ec]
      refine ⟨⟨hf, lb, by omega, by omega⟩, by omega, by omega, ⟨hclm, by omega, by omega⟩, by omega, by omega, ?_⟩
      have hyes : ix σ.t (a : Int) < 0 /\ 0 < gsp d σ a -> ∃ q, (2520 * ix o (a : Int) - gcl d σ a) / (gsp d σ a) = q /\ (1 <= q /\ q <= 249480 /\ 0 <= 2520 * ix o (a : Int) - gcl d σ a) /\ (2520 * ix o (a : Int) - gcl d σ a < (gsp d σ a : Int) * (x - s.now) ↔ s.now + q < x) /\ IsMn (mnU x (s.now + q)) (candA o d σ (a + 1)) := fun hh => by
        obtain ⟨q, e1, e2, e3, _⟩ := hquo hao hh.1 hh.2
        rw [er] at e1 e2
        have hpos : (0 : Int) < (gsp d σ a : Nat) := by omega
        have h5 := Int.mul_le_mul_of_nonneg_right (show (1 : Int) <= (gsp d σ a : Nat) by omega) (show 0 <= q by omega)
        have h0 : 0 <= 2520 * ix o (a : Int) - gcl d σ a := by omega
        rw [Int.tdiv_eq_ediv_of_nonneg h0] at e2
        refine ⟨q, e2, ⟨e3, by omega, h0⟩, ?_, hx.upd (by omega) (fun c => ?_)⟩
        · rw [e1, Int.mul_lt_mul_left hpos]; omega
        · rw [candA_yes hh, er, Int.tdiv_eq_ediv_of_nonneg h0, e2, hnow]
      have hno : ¬ (ix σ.t (a : Int) < 0 /\ 0 < gsp d σ a) -> IsMn x (candA o d σ (a + 1)) := fun hh => hx.congr (candA_no hh)
      unfold mnU at hyes
      refine fork_intro (fun h1 => fork_intro (fun h2 => ?_) (fun h2 => ?_)) (fun h1 => ?_)
      · obtain ⟨q, e1, e2, e3, e4⟩ := hyes ⟨h1, by omega⟩
        simp only [e1]
        refine fork_intro (fun h3 => ?_) (fun h3 => ?_)
        · rw [if_pos (.inl h3)] at e4
          repeat' (first | refine fork_intro (fun hb => ?_) (fun hb => ?_) | refine partB_intro (fun hb => ?_) (fun hb => ?_) | refine And.intro ?_ ?_)
          all_goals first | exact True.intro | omega | with_reducible rfl | exact congrArg (AV.int _) (by omega) | (refine LoopEnd.intro ((a + 1, s.now + q)) (by first | omega | (first | exact ⟨by omega, e4⟩)) (by first | omega | (dsimp only; omega)) (by omega) ?_; simp only [go_sem]; (repeat' (first | refine fork_intro (fun hb => ?_) (fun hb => ?_) | refine partB_intro (fun hb => ?_) (fun hb => ?_) | refine And.intro ?_ ?_)); all_goals first | exact True.intro | omega | with_reducible rfl | exact congrArg (AV.int _) (by omega) | (first | rfl)) | (first | rfl)
        · refine ⟨by omega, by omega, fork_intro (fun h4 => ?_) (fun h4 => ?_)⟩
          · rw [if_pos (.inr (e3.1 h4))] at e4
            repeat' (first | refine fork_intro (fun hb => ?_) (fun hb => ?_) | refine partB_intro (fun hb => ?_) (fun hb => ?_) | refine And.intro ?_ ?_)
            all_goals first | exact True.intro | omega | with_reducible rfl | exact congrArg (AV.int _) (by omega) | (refine LoopEnd.intro ((a + 1, s.now + q)) (by first | omega | (first | exact ⟨by omega, e4⟩)) (by first | omega | (dsimp only; omega)) (by omega) ?_; simp only [go_sem]; (repeat' (first | refine fork_intro (fun hb => ?_) (fun hb => ?_) | refine partB_intro (fun hb => ?_) (fun hb => ?_) | refine And.intro ?_ ?_)); all_goals first | exact True.intro | omega | with_reducible rfl | exact congrArg (AV.int _) (by omega) | (first | rfl)) | (first | rfl)
          · rw [if_neg (fun h => by rcases h with h | h; exact h3 h; exact h4 (e3.2 h))] at e4
            repeat' (first | refine fork_intro (fun hb => ?_) (fun hb => ?_) | refine partB_intro (fun hb => ?_) (fun hb => ?_) | refine And.intro ?_ ?_)
            all_goals first | exact True.intro | omega | with_reducible rfl | exact congrArg (AV.int _) (by omega) | (refine LoopEnd.intro ((a + 1, x)) (by first | omega | (first | exact ⟨by omega, e4⟩)) (by first | omega | (dsimp only; omega)) (by omega) ?_; simp only [go_sem]; (repeat' (first | refine fork_intro (fun hb => ?_) (fun hb => ?_) | refine partB_intro (fun hb => ?_) (fun hb => ?_) | refine And.intro ?_ ?_)); all_goals first | exact True.intro | omega | with_reducible rfl | exact congrArg (AV.int _) (by omega) | (first | rfl)) | (first | rfl)
      · have hz := hno (fun h => by omega)
        repeat' (first | refine fork_intro (fun hb => ?_) (fun hb => ?_) | refine partB_intro (fun hb => ?_) (fun hb => ?_) | refine And.intro ?_ ?_)
        all_goals first | exact True.intro | omega | with_reducible rfl | exact congrArg (AV.int _) (by omega) | (refine LoopEnd.intro ((a + 1, x)) (by first | omega | (first | exact ⟨by omega, hz⟩)) (by first | omega | (dsimp only; omega)) (by omega) ?_; simp only [go_sem]; (repeat' (first | refine fork_intro (fun hb => ?_) (fun hb => ?_) | refine partB_intro (fun hb => ?_) (fun hb => ?_) | refine And.intro ?_ ?_)); all_goals first | exact True.intro | omega | with_reducible rfl | exact congrArg (AV.int _) (by omega) | (first | rfl)) | (first | rfl)
      · have hz := hno (fun h => h1 h.1)
        repeat' (first | refine fork_intro (fun hb => ?_) (fun hb => ?_) | refine partB_intro (fun hb => ?_) (fun hb => ?_) | refine And.intro ?_ ?_)
        all_goals first | exact True.intro | omega | with_reducible rfl | exact congrArg (AV.int _) (by omega) | (refine LoopEnd.intro ((a + 1, x)) (by first | omega | (first | exact ⟨by omega, hz⟩)) (by first | omega | (dsimp only; omega)) (by omega) ?_; simp only [go_sem]; (repeat' (first | refine fork_intro (fun hb => ?_) (fun hb => ?_) | refine partB_intro (fun hb => ?_) (fun hb => ?_) | refine And.intro ?_ ?_)); all_goals first | exact True.intro | omega | with_reducible rfl | exact congrArg (AV.int _) (by omega) | (first | rfl)) | (first | rfl)
    · have ea : a = o.length := by omega
      subst ea
      exact congrArg (AV.int _) (hx.unique hstep)
def t_stepS : Table := [(120, pureC g_stepS)]
theorem t_stepS_ok : TabOK Tryz.prog t_stepS := .cons Tryz.func120 (by kernel_rfl) (.pure (by intro args hp; unfold g_stepS at hp ⊢; split at hp <;> first | exact hp.elim | exact stepS_ok _ _ _ _ _ _ _ hp)) (.nil _)
attribute [go_sem] g_stepS_eq t_stepS
end Go.Proofs.YteefjdbdknkcjaaGreat
