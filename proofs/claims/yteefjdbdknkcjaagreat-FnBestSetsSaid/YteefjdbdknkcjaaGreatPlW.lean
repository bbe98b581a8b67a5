/- Fair prices against sets, in plain lists: no program in sight. -/
import Derived.Test.YteefjdbdknkcjaaGreatPlB
import Derived.Test.YteefjdbdknkcjaaGreatPlA
namespace Go.Vc
set_option linter.unusedSimpArgs false
set_option linter.unusedVariables false

/-! sums over lists of sites -/
def sumL (f : Int -> Int) : List Int -> Int
  | [] => 0
  | x :: r => f x + sumL f r
theorem pay_sumL (o : List Int) : ∀ xs : List Int, pay o xs = sumL (fun a => ix o a) xs
  | [] => rfl
  | x :: r => by
    have e : pay o (x :: r) = ix o x + pay o r := by simp [pay]
    rw [e, pay_sumL o r]; rfl
theorem sumL_congr {f g : Int -> Int} : ∀ {xs : List Int}, (∀ x ∈ xs, f x = g x) -> sumL f xs = sumL g xs
  | [], _ => rfl
  | x :: r, h => by rw [sumL, sumL, h x List.mem_cons_self, sumL_congr (fun y hy => h y (List.mem_cons_of_mem _ hy))]
theorem sumL_sub (f g : Int -> Int) : ∀ xs : List Int, sumL (fun x => f x - g x) xs = sumL f xs - sumL g xs
  | [] => rfl
  | x :: r => by simp only [sumL]; rw [sumL_sub f g r]; omega
theorem sumL_le {f g : Int -> Int} : ∀ {xs : List Int}, (∀ x ∈ xs, f x <= g x) -> sumL f xs <= sumL g xs
  | [], _ => Int.le_refl _
  | x :: r, h => by
    have h1 := h x List.mem_cons_self
    have h2 := sumL_le (xs := r) (fun y hy => h y (List.mem_cons_of_mem _ hy))
    simp only [sumL]; omega
theorem sumL_nn {f : Int -> Int} : ∀ {xs : List Int}, (∀ x ∈ xs, 0 <= f x) -> 0 <= sumL f xs
  | [], _ => Int.le_refl _
  | x :: r, h => by
    have h1 := h x List.mem_cons_self
    have h2 := sumL_nn (xs := r) (fun y hy => h y (List.mem_cons_of_mem _ hy))
    simp only [sumL]; omega
theorem sumL_get {f : Int -> Int} : ∀ {xs : List Int}, (∀ x ∈ xs, 0 <= f x) -> ∀ {a : Int}, a ∈ xs -> f a <= sumL f xs
  | [], _, a, ha => by cases ha
  | x :: r, h, a, ha => by
    have h1 := h x List.mem_cons_self
    have h3 : ∀ y ∈ r, 0 <= f y := fun y hy => h y (List.mem_cons_of_mem _ hy)
    have h2 := sumL_nn h3
    simp only [sumL]
    rcases List.mem_cons.1 ha with rfl | ha
    · omega
    · have := sumL_get h3 ha; omega
theorem sumL_zero {f : Int -> Int} {xs : List Int} (h : ∀ x ∈ xs, 0 <= f x) : sumL f xs = 0 ↔ ∀ x ∈ xs, f x = 0 := by
  constructor
  · intro h0 x hx
    have := sumL_get h hx
    have := h x hx
    omega
  · intro h0
    have := sumL_le (f := f) (g := fun _ => 0) (xs := xs) (fun x hx => by have := h0 x hx; omega)
    have e : sumL (fun _ => 0) xs = 0 := by
      clear h h0 this
      induction xs with
      | nil => rfl
      | cons x r ih => simp only [sumL]; omega
    have := sumL_nn h
    omega
theorem sumL_sumN (g : Int -> Nat -> Int) (m : Nat) : ∀ xs : List Int, sumL (fun a => sumN (g a) m) xs = sumN (fun j => sumL (fun a => g a j) xs) m
  | [] => (sumN_zero (fun _ _ => rfl)).symm
  | x :: r => by
    simp only [sumL]
    rw [sumN_add, sumL_sumN g m r]
theorem without_id {xs : List Int} {a : Int} (h : a ∉ xs) : without xs a = xs := by
  unfold without
  rw [List.filter_eq_self]
  intro x hx
  exact decide_eq_true (fun e => h (e ▸ hx))
theorem sumL_without {f : Int -> Int} : ∀ {xs : List Int}, Up xs -> ∀ {a : Int}, a ∈ xs -> sumL f xs = f a + sumL f (without xs a)
  | [], _, a, ha => by cases ha
  | x :: r, h, a, ha => by
    obtain ⟨h1, h2⟩ := List.pairwise_cons.1 h
    by_cases e : x = a
    · subst e
      have hx : x ∉ r := fun hm => by have := h1 x hm; omega
      have : without (x :: r) x = r := by
        unfold without
        rw [List.filter_cons, if_neg (by simp)]
        exact without_id hx
      rw [this]; rfl
    · have ha' : a ∈ r := by
        rcases List.mem_cons.1 ha with e' | h'
        · exact (e e'.symm).elim
        · exact h'
      have : without (x :: r) a = x :: without r a := by
        unfold without
        rw [List.filter_cons, if_pos (by simpa using e)]
      rw [this, sumL, sumL, sumL_without h2 ha']
      omega
theorem sumL_put {f : Int -> Int} {n : Int} : ∀ {xs : List Int}, n ∉ xs -> sumL f (putF xs n) = f n + sumL f xs
  | [], _ => rfl
  | x :: r, h => by
    have h1 : n ≠ x := fun e => h (e ▸ List.mem_cons_self)
    have h2 : n ∉ r := fun h' => h (List.mem_cons_of_mem _ h')
    unfold putF
    by_cases e : x < n
    · rw [if_pos e, sumL, sumL, sumL_put h2]; omega
    · rw [if_neg e, if_neg (fun e' => h1 e'.symm)]
      simp only [sumL]
theorem put_id {xs : List Int} {n : Int} (hu : Up xs) (h : n ∈ xs) : putF xs n = xs :=
  up_ext (up_putF hu) hu (fun a => by rw [mem_putF]; exact ⟨fun h' => h'.elim (fun e => e ▸ h) id, .inr⟩)
theorem sumN_sub (f g : Nat -> Int) : ∀ n : Nat, sumN (fun i => f i - g i) n = sumN f n - sumN g n
  | 0 => rfl
  | n + 1 => by simp only [sumN]; rw [sumN_sub f g n]; omega
theorem sumN_mono {f g : Nat -> Int} : ∀ {n : Nat}, (∀ i, i < n -> f i <= g i) -> sumN f n <= sumN g n
  | 0, _ => Int.le_refl _
  | n + 1, h => by
    have h1 := sumN_mono (n := n) (fun i hi => h i (by omega))
    have h2 := h n (by omega)
    simp only [sumN]; omega
theorem sumN_nn {f : Nat -> Int} : ∀ {n : Nat}, (∀ i, i < n -> 0 <= f i) -> 0 <= sumN f n
  | 0, _ => Int.le_refl _
  | n + 1, h => by
    have h1 := sumN_nn (n := n) (fun i hi => h i (by omega))
    have h2 := h n (by omega)
    simp only [sumN]; omega
theorem sumN_zero_iff {f : Nat -> Int} : ∀ {n : Nat}, (∀ i, i < n -> 0 <= f i) -> (sumN f n = 0 ↔ ∀ i, i < n -> f i = 0)
  | 0, _ => ⟨fun _ i hi => by omega, fun _ => rfl⟩
  | n + 1, h => by
    have h1 := sumN_nn (n := n) (fun i hi => h i (by omega))
    have h2 := h n (by omega)
    have ih := sumN_zero_iff (n := n) (fun i hi => h i (by omega))
    simp only [sumN]
    constructor
    · intro h0 i hi
      have e1 : sumN f n = 0 := by omega
      rcases Nat.lt_succ_iff_lt_or_eq.1 hi with hl | rfl
      · exact ih.1 e1 i hl
      · omega
    · intro h0
      rw [ih.2 (fun i hi => h0 i (by omega)), h0 n (by omega)]; rfl

/-! the server is nearest -/
theorem srvF_le (row : List Int) : ∀ (xs : List Int) (b : Int), ix row (srvF row b xs) <= ix row b /\ ∀ x ∈ xs, ix row (srvF row b xs) <= ix row x
  | [], b => ⟨Int.le_refl _, fun x hx => by cases hx⟩
  | x :: r, b => by
    rw [srvF]
    obtain ⟨h1, h2⟩ := srvF_le row r (if ix row x < ix row b then x else b)
    by_cases e : ix row x < ix row b
    · rw [if_pos e] at h1 h2 ⊢
      refine ⟨by omega, fun y hy => ?_⟩
      rcases List.mem_cons.1 hy with rfl | hy
      · exact h1
      · exact h2 y hy
    · rw [if_neg e] at h1 h2 ⊢
      refine ⟨h1, fun y hy => ?_⟩
      rcases List.mem_cons.1 hy with rfl | hy
      · omega
      · exact h2 y hy
theorem near_le {row set : List Int} {x : Int} (hx : x ∈ set) : near row set <= ix row x := (srvF_le row set (ix set 0)).2 x hx
theorem near_get {row set : List Int} (h : 0 < set.length) : ∃ x ∈ set, near row set = ix row x := ⟨_, srv_mem row h, rfl⟩
theorem near_mono {row s t : List Int} (hs : 0 < s.length) (h : ∀ x ∈ s, ∃ y ∈ t, ix row y <= ix row x) : near row t <= near row s := by
  obtain ⟨x, hx, e⟩ := near_get (row := row) hs
  obtain ⟨y, hy, e2⟩ := h x hx
  have := near_le (row := row) hy
  omega

/-! the total less the prices -/
theorem sum_ix (ps : List Int) : ps.sum = sumN (fun j => ix ps (j : Int)) ps.length := by
  have h := sum_tab (fun j => ix ps (j : Int)) ps.length
  rw [tab_of] at h; exact h
def dueS (o : List Int) (d : List (List Int)) (ps : List Int) (a : Int) : Int := ix o a - clm d ps 1 a
def dueC (d : List (List Int)) (ps set : List Int) (j : Nat) : Int := near (ix d (j : Int)) set - ix ps (j : Int) + sumL (fun a => clmT d ps 1 a j) set
theorem gap_split {o : List Int} {d : List (List Int)} {ps : List Int} (hl : ps.length = d.length) (set : List Int) :
    total o d set - ps.sum = sumL (dueS o d ps) set + sumN (dueC d ps set) d.length := by
  have e1 : sumL (dueS o d ps) set = pay o set - sumL (fun a => clm d ps 1 a) set := by rw [pay_sumL]; exact sumL_sub _ _ set
  have e2 : sumL (fun a => clm d ps 1 a) set = sumN (fun j => sumL (fun a => clmT d ps 1 a j) set) d.length := by
    unfold clm; rw [hl]; exact sumL_sumN _ _ _
  have e3 : sumN (dueC d ps set) d.length = svc d set - ps.sum + sumN (fun j => sumL (fun a => clmT d ps 1 a j) set) d.length := by
    unfold dueC
    rw [sumN_add, sumN_sub, sum_ix ps, hl]; rfl
  unfold total
  omega
theorem dueC_nn {o : List Int} {d : List (List Int)} {ps set : List Int} (h : OpenOK o d set) (j : Nat) : 0 <= dueC d ps set j := by
  have h1 := sumL_get (f := fun a => clmT d ps 1 a j) (xs := set) (fun x _ => clmT_nn _ _ _ _ _) (srv_mem (ix d (j : Int)) h.pos)
  have h2 : ix ps (j : Int) - near (ix d (j : Int)) set <= clmT d ps 1 (srv (ix d (j : Int)) set) j := by
    unfold clmT near; omega
  unfold dueC
  omega
theorem dueC_zero {o : List Int} {d : List (List Int)} {ps set : List Int} (h : OpenOK o d set) (hu : Up set) (j : Nat) : dueC d ps set j = 0 ↔ meet1 d set (ix ps (j : Int)) j = true := by
  have hs := srv_mem (ix d (j : Int)) h.pos
  have e := sumL_without (f := fun a => clmT d ps 1 a j) hu hs
  have hn : near (ix d (j : Int)) set = ix (ix d (j : Int)) (srv (ix d (j : Int)) set) := rfl
  have e1 : clmT d ps 1 (srv (ix d (j : Int)) set) j = max 0 (ix ps (j : Int) - near (ix d (j : Int)) set) := by unfold clmT; rw [hn]; omega
  have hnn := sumL_nn (f := fun a => clmT d ps 1 a j) (xs := without set (srv (ix d (j : Int)) set)) (fun x _ => clmT_nn _ _ _ _ _)
  have hz := sumL_zero (f := fun a => clmT d ps 1 a j) (xs := without set (srv (ix d (j : Int)) set)) (fun x _ => clmT_nn _ _ _ _ _)
  rw [e1] at e
  have key : dueC d ps set j = 0 ↔ near (ix d (j : Int)) set <= ix ps (j : Int) /\ ∀ x ∈ without set (srv (ix d (j : Int)) set), clmT d ps 1 x j = 0 := by
    rw [<- hz]
    unfold dueC
    rw [e]
    constructor
    · intro h0; omega
    · intro h0; omega
  rw [key]
  unfold meet1
  rw [Bool.and_eq_true, allN_iff, decide_eq_true_eq]
  refine and_congr_right (fun _ => ?_)
  constructor
  · intro h1 k hk
    have hm := ix_mem set hk
    by_cases e2 : ix set (k : Int) = srv (ix d (j : Int)) set
    · simp [e2]
    · have h2 := h1 _ (mem_without.2 ⟨hm, e2⟩)
      have h3 : ix ps (j : Int) <= ix (ix d (j : Int)) (ix set (k : Int)) := by unfold clmT at h2; omega
      rw [decide_eq_false (show ¬ ix (ix d (j : Int)) (ix set (k : Int)) < ix ps (j : Int) by omega)]
      simp
  · intro h1 x hx
    obtain ⟨hx1, hx2⟩ := mem_without.1 hx
    obtain ⟨k, hk, rfl⟩ := mem_ix hx1
    have h2 := h1 k hk
    rw [decide_eq_true hx2, Bool.true_and, Bool.not_eq_true', decide_eq_false_iff_not] at h2
    unfold clmT
    omega
section
variable {o : List Int} {d : List (List Int)} {ps set : List Int}
theorem fair_due (hf : fairB o d ps = true) {a : Int} (h0 : 0 <= a) (h1 : a < o.length) : 0 <= dueS o d ps a := by
  have := of_decide_eq_true (allN_iff.1 hf a.toNat (by omega))
  rw [show ((a.toNat : Nat) : Int) = a by omega] at this
  unfold dueS; omega
theorem due_set (h : OpenOK o d set) (hf : fairB o d ps = true) : ∀ x ∈ set, 0 <= dueS o d ps x := fun x hx => by
  obtain ⟨k, hk, rfl⟩ := mem_ix hx
  exact fair_due hf (h.xin k hk).1 (h.xin k hk).2
theorem gap_nn (h : OpenOK o d set) (hl : ps.length = d.length) (hf : fairB o d ps = true) : ps.sum <= total o d set := by
  have e := gap_split (o := o) hl set
  have h1 := sumL_nn (due_set h hf)
  have h2 := sumN_nn (f := dueC d ps set) (n := d.length) (fun j _ => dueC_nn h j)
  omega
/-- A set's total is at least the prices and the rest of any of its sites. -/
theorem gap_rest (h : OpenOK o d set) (hl : ps.length = d.length) (hf : fairB o d ps = true) {a : Int} (ha : a ∈ set) : ps.sum + dueS o d ps a <= total o d set := by
  have e := gap_split (o := o) hl set
  have h1 := sumL_get (due_set h hf) ha
  have h2 := sumN_nn (f := dueC d ps set) (n := d.length) (fun j _ => dueC_nn h j)
  omega
theorem gap_zero (h : OpenOK o d set) (hu : Up set) (hl : ps.length = d.length) (hf : fairB o d ps = true) : total o d set - ps.sum = 0 ↔ meetB o d ps set = true := by
  have h1 := sumL_nn (due_set h hf)
  have h2 := sumN_nn (f := dueC d ps set) (n := d.length) (fun j _ => dueC_nn h j)
  have z1 := sumL_zero (due_set h hf)
  have z2 := sumN_zero_iff (f := dueC d ps set) (n := d.length) (fun j _ => dueC_nn h j)
  have key : total o d set - ps.sum = 0 ↔ (∀ x ∈ set, dueS o d ps x = 0) /\ ∀ j, j < d.length -> dueC d ps set j = 0 := by
    rw [gap_split (o := o) hl set, <- z1, <- z2]
    constructor <;> intro <;> omega
  rw [key]
  unfold meetB
  rw [Bool.and_eq_true, allN_iff, allN_iff]
  refine and_congr ⟨fun h3 k hk => ?_, fun h3 x hx => ?_⟩ (forall_congr' fun j => forall_congr' fun _ => dueC_zero h hu j)
  · have := h3 _ (ix_mem set hk)
    exact decide_eq_true (by unfold dueS at this; omega)
  · obtain ⟨k, hk, rfl⟩ := mem_ix hx
    have := of_decide_eq_true (h3 k hk)
    unfold dueS; omega
end

/-! the ascent ends where no price can be raised -/
theorem minN_get {f : Nat -> Int} : ∀ {k : Nat}, 0 < k -> (∀ a, a < k -> 0 <= f a) -> ∃ a, a < k /\ minN f k = f a
  | 1, _, h => ⟨0, by omega, by
    show (if (-1 : Int) < 0 \/ f 0 < -1 then f 0 else -1) = f 0
    rw [if_pos (.inl (by decide))]⟩
  | k + 2, _, h => by
    obtain ⟨a, ha, e⟩ := minN_get (f := f) (k := k + 1) (by omega) (fun a ha => h a (by omega))
    rw [minN]
    split
    · exact ⟨k + 1, by omega, rfl⟩
    · exact ⟨a, by omega, e⟩
theorem psum_pass {o : List Int} {d : List (List Int)} {p : List Int} (h : AscOK o d p) : ∀ {j : Nat}, j <= d.length -> psum p <= psum (passA o d p j) /\ (psum (passA o d p j) = psum p -> passA o d p j = p /\ ∀ i, i < j -> stepA o d p i = 0)
  | 0, _ => ⟨Int.le_refl _, fun _ => ⟨rfl, fun i hi => by omega⟩⟩
  | j + 1, hj => by
    obtain ⟨h1, h2⟩ := psum_pass h (j := j) (by omega)
    have hp := h.pass (j := j) (by omega)
    have hs := hp.step_nn j
    have e := psum_raise (o := o) (d := d) (p := passA o d p j) (j := j) (by rw [hp.len]; omega)
    have e2 : passA o d p (j + 1) = raise o d (passA o d p j) j := rfl
    rw [e2]
    refine ⟨by omega, fun h0 => ?_⟩
    obtain ⟨h3, h4⟩ := h2 (by omega)
    have h5 : stepA o d (passA o d p j) j = 0 := by omega
    rw [h3] at h5
    refine ⟨by rw [h3, raise_zero (by rw [h.len]; omega) h5], fun i hi => ?_⟩
    rcases Nat.lt_succ_iff_lt_or_eq.1 hi with hl | rfl
    · exact h4 i hl
    · exact h5
theorem asc_end {o : List Int} {d : List (List Int)} (hf : FieldOK o d) : AscOK o d (ascentL o d (firstP d)) /\ ∀ j, j < d.length -> stepA o d (ascentL o d (firstP d)) j = 0 := by
  have h := firstP_ok hf
  have ex : ∃ k, k < 1500 /\ passA o d (passes o d (firstP d) k) d.length = passes o d (firstP d) k := by
    refine Classical.byContradiction (fun hno => ?_)
    have key : ∀ k : Nat, k <= 1500 -> (k : Int) <= psum (passes o d (firstP d) k) := by
      intro k
      induction k with
      | zero => intro _; exact (h.passes 0).psum.1
      | succ k ih =>
        intro hk
        have h1 := ih (by omega)
        obtain ⟨h2, h3⟩ := psum_pass (h.passes k) (Nat.le_refl _)
        have e : passes o d (firstP d) (k + 1) = passA o d (passes o d (firstP d) k) d.length := rfl
        rw [e]
        by_cases e2 : psum (passA o d (passes o d (firstP d) k) d.length) = psum (passes o d (firstP d) k)
        · exact (hno ⟨k, by omega, (h3 e2).1⟩).elim
        · omega
    have h1 := key 1500 (Nat.le_refl _)
    have h2 := (h.passes 1500).psum
    omega
  obtain ⟨k, hk, e⟩ := ex
  rw [ascentL_eq hk e]
  refine ⟨h.passes k, ?_⟩
  have := (psum_pass (h.passes k) (Nat.le_refl d.length)).2 (by rw [e])
  exact this.2
/-- A price raised alone is not fair. -/
theorem asc_more {o : List Int} {d : List (List Int)} {p : List Int} (h : AscOK o d p) {j : Nat} (hj : j < d.length) (hz : stepA o d p j = 0) :
    pricesOK o d (p.set j (ix p (j : Int) + 1)) = true /\ fairB o d (p.set j (ix p (j : Int) + 1)) = false := by
  have hl := h.len
  have hlr : (p.set j (ix p (j : Int) + 1)).length = p.length := by simp
  have hix : ∀ i : Nat, ix (p.set j (ix p (j : Int) + 1)) (i : Int) = if i = j then ix p (j : Int) + 1 else ix p (i : Int) := fun i => ix_set p _ (by omega) i
  constructor
  · unfold pricesOK
    simp only [Bool.and_eq_true, decide_eq_true_eq]
    refine ⟨rowOK_iff.2 (fun x hx => ?_), good_iff.2 h.f, by rw [hlr]; omega⟩
    obtain ⟨i, hi, rfl⟩ := mem_ix hx
    rw [hlr] at hi
    rw [hix]
    have h1 := h.bd (j := i) (by omega)
    have h2 := h.bd hj
    split <;> omega
  · obtain ⟨a, ha, e⟩ := minN_get (f := gapA o d p j) h.f.n1 (fun a ha => h.gap_nn j ha)
    have e0 : gapA o d p j a = 0 := by rw [<- e]; exact hz
    refine allN_f ha (decide_eq_false ?_)
    have e1 : clm d (p.set j (ix p (j : Int) + 1)) 1 (a : Int) = clm d p 1 (a : Int) - clmT d p 1 (a : Int) j + clmT d (p.set j (ix p (j : Int) + 1)) 1 (a : Int) j := by
      unfold clm
      rw [hlr]
      refine sumN_set (by omega) (fun i hi he => ?_)
      unfold clmT
      rw [hix, if_neg he]
    have e2 : clmT d (p.set j (ix p (j : Int) + 1)) 1 (a : Int) j = max 0 (ix p (j : Int) + 1 - 1 * ix (ix d (j : Int)) (a : Int)) := by
      unfold clmT
      rw [hix, if_pos rfl]
    have e3 : clmT d p 1 (a : Int) j = max 0 (ix p (j : Int) - 1 * ix (ix d (j : Int)) (a : Int)) := rfl
    unfold gapA at e0
    split at e0 <;> omega
theorem asc_fair {o : List Int} {d : List (List Int)} {p : List Int} (h : AscOK o d p) : pricesOK o d p = true /\ fairB o d p = true := by
  have hl := h.len
  constructor
  · unfold pricesOK
    simp only [Bool.and_eq_true, decide_eq_true_eq]
    refine ⟨rowOK_iff.2 (fun x hx => ?_), good_iff.2 h.f, by omega⟩
    obtain ⟨i, hi, rfl⟩ := mem_ix hx
    have h1 := h.bd (j := i) (by omega)
    omega
  · exact allN_t (fun a ha => decide_eq_true (h.fair a ha))
end Go.Vc
