/- Growth as the package keeps it. -/
import Derived.Test.YtgcbdpehnonghaaPlP
namespace Go.Vc
set_option linter.unusedSimpArgs false
set_option linter.unusedVariables false
set_option linter.unusedSectionVars false

theorem set_self {α : Type} [Inhabited α] {xs : List α} {k : Nat} (h : k < xs.length) : xs.set k (ix xs (k : Int)) = xs := by
  refine List.ext_getElem? fun j => ?_
  by_cases e : k = j
  · subst e; rw [List.getElem?_set_self h, ix_some xs h]
  · rw [List.getElem?_set_ne e]
theorem ix_setv {α : Type} [Inhabited α] {xs : List α} {k : Nat} {v : α} (h : k < xs.length) : ix (xs.set k v) (k : Int) = v := by
  have h1 := ix_some (xs.set k v) (k := k) (by simpa using h)
  rw [List.getElem?_set_self h] at h1
  exact (Option.some.inj h1).symm

section
variable {o : List Int} {d : List (List Int)} {s : St}
/-- The candidates among the first sites, and at one site among the first clients. -/
def candI (o : List Int) (d : List (List Int)) (t : St) (k i : Nat) (c : Int) : Prop :=
  (∃ a, a < k /\ ((∃ j, j < d.length /\ ix t.w (j : Int) < 0 /\ t.now < c /\ c = 2520 * ix (ix d (j : Int)) (a : Int)) \/ (ix t.t (a : Int) < 0 /\ 0 < gsp d t a /\ c = t.now + (grest o d t a).tdiv (gsp d t a)))) \/
    ∃ j, j < i /\ ix t.w (j : Int) < 0 /\ t.now < c /\ c = 2520 * ix (ix d (j : Int)) (k : Int)
theorem candI_zero (t : St) (c : Int) : ¬ candI o d t 0 0 c := by unfold candI; simp
theorem candI_no {t : St} {k i : Nat} (h : ¬ (ix t.w (i : Int) < 0 /\ t.now < 2520 * ix (ix d (i : Int)) (k : Int))) (c : Int) : candI o d t k i c ↔ candI o d t k (i + 1) c := by
  unfold candI
  refine or_congr Iff.rfl ⟨fun ⟨j, h1, h2⟩ => ⟨j, by omega, h2⟩, fun ⟨j, h1, h2, h3, h4⟩ => ?_⟩
  by_cases e : j = i
  · subst e; exact (h ⟨h2, by omega⟩).elim
  · exact ⟨j, by omega, h2, h3, h4⟩
theorem candI_yes {t : St} {k i : Nat} (h : ix t.w (i : Int) < 0 /\ t.now < 2520 * ix (ix d (i : Int)) (k : Int)) (c : Int) : candI o d t k (i + 1) c ↔ candI o d t k i c \/ c = 2520 * ix (ix d (i : Int)) (k : Int) := by
  unfold candI
  rw [or_assoc]
  refine or_congr Iff.rfl ⟨fun ⟨j, h1, h2, h3, h4⟩ => ?_, fun h5 => ?_⟩
  · by_cases e : j = i
    · subst e; exact .inr h4
    · exact .inl ⟨j, by omega, h2, h3, h4⟩
  · rcases h5 with ⟨j, h1, h2⟩ | rfl
    · exact ⟨j, by omega, h2⟩
    · exact ⟨i, by omega, h.1, h.2, rfl⟩
theorem candI_row (t : St) (k : Nat) (c : Int) : candI o d t (k + 1) 0 c ↔ candI o d t k d.length c \/ (ix t.t (k : Int) < 0 /\ 0 < gsp d t k /\ c = t.now + (grest o d t k).tdiv (gsp d t k)) := by
  unfold candI
  constructor
  · rintro (⟨a, ha, h⟩ | ⟨j, hj, _⟩)
    · by_cases e : a = k
      · subst e
        rcases h with h | h
        · exact .inl (.inr h)
        · exact .inr h
      · exact .inl (.inl ⟨a, by omega, h⟩)
    · omega
  · rintro ((⟨a, ha, h⟩ | h) | h)
    · exact .inl ⟨a, by omega, h⟩
    · exact .inl ⟨k, by omega, .inl h⟩
    · exact .inl ⟨k, by omega, .inr h⟩
theorem candI_row_yes {t : St} {k : Nat} (h : ix t.t (k : Int) < 0 /\ 0 < gsp d t k) (c : Int) : candI o d t (k + 1) 0 c ↔ candI o d t k d.length c \/ c = t.now + (grest o d t k).tdiv (gsp d t k) := by
  rw [candI_row]; exact or_congr Iff.rfl ⟨fun h2 => h2.2.2, fun h2 => ⟨h.1, h.2, h2⟩⟩
theorem candI_row_no {t : St} {k : Nat} (h : ¬ (ix t.t (k : Int) < 0 /\ 0 < gsp d t k)) (c : Int) : candI o d t k d.length c ↔ candI o d t (k + 1) 0 c := by
  rw [candI_row]; exact ⟨.inl, fun h2 => h2.elim id fun h3 => (h ⟨h3.1, h3.2.1⟩).elim⟩
theorem candI_all (t : St) (c : Int) : candI o d t o.length 0 c ↔ cand1 o d t c \/ cand2 o d t c := by
  unfold candI cand1 cand2
  constructor
  · rintro (⟨a, ha, ⟨j, hj, h1, h2, h3⟩ | h⟩ | ⟨j, hj, _⟩)
    · exact .inl ⟨j, hj, a, ha, h1, h2, h3⟩
    · exact .inr ⟨a, ha, h⟩
    · omega
  · rintro (⟨j, hj, a, ha, h1, h2, h3⟩ | ⟨a, ha, h⟩)
    · exact .inl ⟨a, ha, .inl ⟨j, hj, h1, h2, h3⟩⟩
    · exact .inl ⟨a, ha, .inr h⟩
theorem GInv.candI_bd (h : GInv o d s) {k i : Nat} (hk : k <= o.length) (hk2 : k < o.length \/ i = 0) (hi : i <= d.length) {c : Int} (hc : candI o d (gsett o d s) k i c) : c <= 748440 := by
  refine h.cand_bd (k := o.length) (Nat.le_refl _) ((candA_all o d _ c).2 ?_)
  rcases hc with ⟨a, ha, ⟨j, hj, h1, h2, h3⟩ | h1⟩ | ⟨j, hj, h1, h2, h3⟩
  · exact .inl ⟨j, hj, a, by omega, h1, h2, h3⟩
  · exact .inr ⟨a, by omega, h1⟩
  · exact .inl ⟨j, by omega, k, by omega, h1, h2, h3⟩
/-- Where a client has stopped, its price is the price at the time. -/
theorem GInv.stop_p (h : GInv o d s) {j : Nat} (hj : j < d.length) (hw : 0 <= ix (gsett o d s).w (j : Int)) : ix (gpr d s) (j : Int) = ix (gsett o d s).p (j : Int) := by
  rw [set_w hj] at hw
  rw [set_p hj, gpr_ix hj]
  by_cases h1 : ix s.w (j : Int) < 0
  · rw [if_pos h1] at hw ⊢
    rw [if_pos ⟨h1, hw⟩]
  · rw [if_neg h1, if_neg (fun hh => h1 hh.1)]
theorem GInv.stop_all (h : GInv o d s) (hm : ¬ movingP d (gsett o d s)) : gpr d s = (gsett o d s).p := by
  refine ix_ext (by rw [gpr_len]; exact (tab_len _ _).symm) (fun j hj => ?_)
  rw [gpr_len] at hj
  exact h.stop_p hj (Int.not_lt.1 fun hh => hm ⟨j, hj, hh⟩)
theorem cN_congr {f g : Nat -> Bool} : ∀ {n : Nat}, (∀ j, j < n -> f j = g j) -> cN f n = cN g n
  | 0, _ => rfl
  | n + 1, h => by simp only [cN]; rw [cN_congr (n := n) (fun j hj => h j (by omega)), h n (by omega)]
/-- A quotient rounded up where there is nothing to round. -/
theorem ceil_exact {r q : Int} {m : Nat} (hm : 0 < m) (h : r = m * q) (hq : 1 <= q) : (r + m - 1) / (m : Int) = q := by
  rw [show r + m - 1 = ((m : Int) - 1) + m * q by omega, Int.add_mul_ediv_left _ _ (by omega), Int.ediv_eq_zero_of_lt (by omega) (by omega)]
  omega
theorem runF_stop {o : List Int} {d : List (List Int)} : ∀ (k : Nat) (s : St), GInv o d s -> 498961 - s.now <= k -> ¬ movingP d (runF o d k s)
  | 0, s, h, hk => by have := h.n0; omega
  | k + 1, s, h, hk => by
    unfold runF
    split
    · rename_i hm
      obtain ⟨h1, h2⟩ := h.adv hm
      exact runF_stop k _ h1 (by omega)
    · rename_i hm; exact hm
theorem grown_stop {o : List Int} {d : List (List Int)} (hf : FieldOK o d) : ¬ movingP d (grown o d) := runF_stop 1000000 _ (st0_inv hf) (by show (498961 : Int) - 0 <= _; omega)
theorem runF_w {o : List Int} {d : List (List Int)} : ∀ (k : Nat) (s : St), s.w.length = d.length -> (runF o d k s).w.length = d.length
  | 0, s, h => h
  | k + 1, s, h => by
    unfold runF
    split
    · exact runF_w k _ (tab_len _ _)
    · exact tab_len _ _
theorem grown_stW {o : List Int} {d : List (List Int)} (hf : FieldOK o d) : stW (grown o d).w = (grown o d).w := by
  have hl : (grown o d).w.length = d.length := runF_w _ _ (by show (List.replicate _ _).length = _; simp)
  refine ix_ext (by rw [stW_len]) (fun j hj => ?_)
  rw [stW_len] at hj
  rw [stW_ix hj]
  have := Int.not_lt.1 fun hh => grown_stop hf ⟨j, by omega, hh⟩
  omega
theorem runF_p {o : List Int} {d : List (List Int)} : ∀ (k : Nat) (s : St), s.p.length = d.length -> (runF o d k s).p.length = d.length
  | 0, s, h => h
  | k + 1, s, h => by
    unfold runF
    split
    · exact runF_p k _ (tab_len _ _)
    · exact tab_len _ _
theorem runF_t {o : List Int} {d : List (List Int)} : ∀ (k : Nat) (s : St), s.t.length = o.length -> (runF o d k s).t.length = o.length
  | 0, s, h => h
  | k + 1, s, h => by
    unfold runF
    split
    · exact runF_t k _ (tab_len _ _)
    · exact tab_len _ _
theorem grown_lens (o : List Int) (d : List (List Int)) : (grown o d).p.length = d.length /\ (grown o d).t.length = o.length /\ (grown o d).w.length = d.length :=
  ⟨runF_p _ _ (by show (List.replicate _ _).length = _; simp), runF_t _ _ (by show (List.replicate _ _).length = _; simp), runF_w _ _ (by show (List.replicate _ _).length = _; simp)⟩
theorem good_p (o : List Int) (d : List (List Int)) : (bif good o d then (grown o d).p else []).length <= 7 /\ (bif good o d then (grown o d).t else []).length <= 7 /\ (bif good o d then (grown o d).w else []).length <= 7 := by
  cases hg : good o d with
  | false => simp
  | true =>
    have hf := good_iff.1 hg
    obtain ⟨h1, h2, h3⟩ := grown_lens o d
    have := hf.n7; have := hf.m7
    simp only [cond_true]
    omega
end
end Go.Vc
