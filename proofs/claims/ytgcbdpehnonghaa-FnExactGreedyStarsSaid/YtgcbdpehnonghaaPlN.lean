/- Growth: how prices grow, in plain lists; that the times are whole. -/
import Derived.Test.YtgcbdpehnonghaaPlA
import Derived.Test.YtgcbdpehnonghaaPlC
namespace Go.Vc
set_option linter.unusedSimpArgs false
set_option linter.unusedVariables false
set_option linter.unusedSectionVars false

/-! counting -/
def cN (f : Nat -> Bool) : Nat -> Nat
  | 0 => 0
  | k + 1 => cN f k + (if f k then 1 else 0)
theorem cN_le (f : Nat -> Bool) : ∀ n, cN f n <= n
  | 0 => Nat.le_refl _
  | n + 1 => by have := cN_le f n; simp only [cN]; split <;> omega
theorem cN_add {f g h : Nat -> Bool} : ∀ {n : Nat}, (∀ j, j < n -> (if f j then 1 else 0) + (if g j then 1 else 0) <= (if h j then 1 else 0)) -> cN f n + cN g n <= cN h n
  | 0, _ => Nat.le_refl _
  | n + 1, H => by
    have h1 := cN_add (n := n) (fun j hj => H j (by omega))
    have h2 := H n (by omega)
    simp only [cN]; omega
theorem cN_pos {f : Nat -> Bool} : ∀ {n j : Nat}, j < n -> f j = true -> 0 < cN f n
  | 0, _, h, _ => by omega
  | n + 1, j, h, hf => by
    simp only [cN]
    by_cases e : j = n
    · subst e; rw [if_pos hf]; omega
    · have := cN_pos (n := n) (j := j) (by omega) hf; omega
theorem sumN_cN (f : Nat -> Bool) (c : Int) : ∀ n, sumN (fun j => if f j then c else 0) n = (cN f n : Int) * c
  | 0 => by simp [sumN, cN]
  | n + 1 => by
    have h := sumN_cN f c n
    simp only [sumN, cN, h]
    split
    · rw [Int.natCast_add, Int.add_mul]; simp
    · simp
theorem sumN_dvd {f : Nat -> Int} {c : Int} : ∀ {n : Nat}, (∀ j, j < n -> c ∣ f j) -> c ∣ sumN f n
  | 0, _ => Int.dvd_zero _
  | n + 1, h => by
    simp only [sumN]
    exact Int.dvd_add (sumN_dvd (n := n) fun j hj => h j (by omega)) (h n (by omega))

/-! the least of some numbers, -1 if there is none -/
def IsMn (x : Int) (P : Int -> Prop) : Prop := (x = -1 /\ ∀ c, ¬ P c) \/ (0 <= x /\ P x /\ ∀ c, P c -> x <= c)
def mnU (x c : Int) : Int := if x < 0 \/ c < x then c else x
theorem IsMn.unique {x y : Int} {P : Int -> Prop} (h : IsMn x P) (k : IsMn y P) : x = y := by
  rcases h with ⟨rfl, h⟩ | ⟨_, h1, h2⟩ <;> rcases k with ⟨rfl, k⟩ | ⟨_, k1, k2⟩
  · rfl
  · exact (h _ k1).elim
  · exact (k _ h1).elim
  · have := h2 _ k1; have := k2 _ h1; omega
theorem IsMn.congr {x : Int} {P Q : Int -> Prop} (h : IsMn x P) (e : ∀ c, P c ↔ Q c) : IsMn x Q := by
  have : P = Q := funext fun c => propext (e c)
  rwa [<- this]
theorem IsMn.upd {x c : Int} {P Q : Int -> Prop} (h : IsMn x P) (hc : 0 <= c) (e : ∀ y, Q y ↔ P y \/ y = c) : IsMn (mnU x c) Q := by
  refine IsMn.congr (P := fun y => P y \/ y = c) ?_ (fun y => (e y).symm)
  unfold mnU
  rcases h with ⟨rfl, h⟩ | ⟨h0, h1, h2⟩
  · rw [if_pos (.inl (by omega))]
    exact .inr ⟨hc, .inr rfl, fun y hy => by rcases hy with hy | hy; exact (h _ hy).elim; omega⟩
  · split
    · exact .inr ⟨hc, .inr rfl, fun y hy => by rcases hy with hy | hy; have := h2 _ hy; omega; omega⟩
    · exact .inr ⟨h0, .inl h1, fun y hy => by rcases hy with hy | hy; exact h2 _ hy; omega⟩
theorem IsMn.none : IsMn (-1) (fun _ => False) := .inl ⟨rfl, fun _ h => h⟩
def mn : List Int -> Int -> Int
  | [], x => x
  | c :: l, x => mn l (mnU x c)
theorem mn_is : ∀ (l : List Int) (x : Int) (P : Int -> Prop), IsMn x P -> (∀ c ∈ l, 0 <= c) -> IsMn (mn l x) (fun y => P y \/ y ∈ l)
  | [], x, P, h, _ => h.congr (fun c => by simp)
  | c :: l, x, P, h, hc => by
    have h1 := IsMn.upd (Q := fun y => P y \/ y = c) h (hc c (by simp)) (fun _ => Iff.rfl)
    exact (mn_is l _ _ h1 (fun y hy => hc y (by simp [hy]))).congr (fun y => by simp only [List.mem_cons]; rw [or_assoc])

/-! which numbers divide which -/
def LL : Nat -> Int
  | 0 => 1 | 1 => 1 | 2 => 2 | 3 => 6 | 4 => 12 | 5 => 60 | 6 => 360 | _ => 2520
theorem LL_mono : ∀ r : Nat, r < 8 -> ∀ q : Nat, q < r + 1 -> LL q ∣ LL r := by decide
theorem LL_step : ∀ r : Nat, r < 8 -> ∀ s : Nat, s < r + 1 -> 1 <= s -> (s : Int) * LL (r - s) ∣ LL r := by decide
theorem LL_unit : ∀ r : Nat, r < 8 -> LL r ∣ 2520 := by decide

/-! growth -/
structure St where
  now : Int
  p : List Int
  w : List Int
  t : List Int
section
variable (o : List Int) (d : List (List Int)) (s : St)
/-- The prices at the time. -/
def gpr : List Int := tab d.length fun j => if ix s.w (j : Int) < 0 then s.now else ix s.p (j : Int)
def gcl (a : Nat) : Int := clm d (gpr d s) 2520 (a : Int)
def gti : List Int := tab o.length fun a => if ix s.t (a : Int) < 0 /\ gcl d s a = 2520 * ix o (a : Int) then s.now else ix s.t (a : Int)
/-- The witness among the first sites. -/
def witF (now : Int) (t : List Int) (row : List Int) : Nat -> Int
  | 0 => -1
  | a + 1 => if (0 <= ix t (a : Int) /\ 2520 * ix row (a : Int) <= now) /\ (witF now t row a < 0 \/ ix t (a : Int) < ix t (witF now t row a)) then a else witF now t row a
def wit (j : Nat) : Int := witF s.now (gti o d s) (ix d (j : Int)) o.length
def gsett : St := ⟨s.now, tab d.length fun j => if ix s.w (j : Int) < 0 /\ 0 <= wit o d s j then s.now else ix s.p (j : Int),
  tab d.length fun j => if ix s.w (j : Int) < 0 then wit o d s j else ix s.w (j : Int), gti o d s⟩
def movingP : Prop := ∃ j, j < d.length /\ ix s.w (j : Int) < 0
instance : Decidable (movingP d s) := by unfold movingP; infer_instance
def gspB (a : Nat) (j : Nat) : Bool := decide (ix s.w (j : Int) < 0 /\ 2520 * ix (ix d (j : Int)) (a : Int) <= s.now)
def gsp (a : Nat) : Nat := cN (gspB d s a) d.length
def grest (a : Nat) : Int := 2520 * ix o (a : Int) - gcl d s a
def cand1 (c : Int) : Prop := ∃ j, j < d.length /\ ∃ a, a < o.length /\ ix s.w (j : Int) < 0 /\ s.now < c /\ c = 2520 * ix (ix d (j : Int)) (a : Int)
def cand2 (c : Int) : Prop := ∃ a, a < o.length /\ ix s.t (a : Int) < 0 /\ 0 < gsp d s a /\ c = s.now + (grest o d s a).tdiv (gsp d s a)
def candL : List Int := ((List.range d.length).flatMap fun (j : Nat) => (List.range o.length).filterMap fun (a : Nat) => if ix s.w (j : Int) < 0 /\ s.now < 2520 * ix (ix d (j : Int)) (a : Int) then some (2520 * ix (ix d (j : Int)) (a : Int)) else none) ++
  (List.range o.length).filterMap fun (a : Nat) => if ix s.t (a : Int) < 0 /\ 0 < gsp d s a then some (s.now + (grest o d s a).tdiv (gsp d s a)) else none
theorem candL_mem (c : Int) : c ∈ candL o d s ↔ cand1 o d s c \/ cand2 o d s c := by
  unfold candL cand1 cand2
  rw [List.mem_append]
  refine or_congr ⟨fun h => ?_, ?_⟩ ⟨fun h => ?_, ?_⟩
  · obtain ⟨j, hj, h⟩ := List.mem_flatMap.1 h
    obtain ⟨a, ha, h⟩ := List.mem_filterMap.1 h
    split at h
    · rename_i hc; cases h; exact ⟨j, List.mem_range.1 hj, a, List.mem_range.1 ha, hc.1, hc.2, rfl⟩
    · cases h
  · rintro ⟨j, hj, a, ha, h1, h2, rfl⟩
    exact List.mem_flatMap.2 ⟨j, List.mem_range.2 hj, List.mem_filterMap.2 ⟨a, List.mem_range.2 ha, by rw [if_pos ⟨h1, h2⟩]⟩⟩
  · obtain ⟨a, ha, h⟩ := List.mem_filterMap.1 h
    split at h
    · rename_i hc; cases h; exact ⟨a, List.mem_range.1 ha, hc.1, hc.2, rfl⟩
    · cases h
  · rintro ⟨a, ha, h1, h2, rfl⟩
    exact List.mem_filterMap.2 ⟨a, List.mem_range.2 ha, by rw [if_pos ⟨h1, h2⟩]⟩
def gstep : Int := mn (candL o d s) (-1)
def adv : St := ⟨gstep o d s, s.p, s.w, s.t⟩
end
def runF (o : List Int) (d : List (List Int)) : Nat -> St -> St
  | 0, s => s
  | k + 1, s => if movingP d (gsett o d s) then runF o d k (adv o d (gsett o d s)) else gsett o d s
def st0 (n m : Nat) : St := ⟨0, List.replicate m 0, List.replicate m (-1), List.replicate n (-1)⟩
def grown (o : List Int) (d : List (List Int)) : St := runF o d 1000000 (st0 o.length d.length)

structure GInv (o : List Int) (d : List (List Int)) (s : St) : Prop where
  f : FieldOK o d
  lp : s.p.length = d.length
  lw : s.w.length = d.length
  lt : s.t.length = o.length
  n0 : 0 <= s.now /\ s.now <= 498960
  ws : ∀ j, j < d.length -> -1 <= ix s.w (j : Int) /\ ix s.w (j : Int) < o.length
  pz : ∀ j, j < d.length -> ix s.w (j : Int) < 0 -> ix s.p (j : Int) = 0
  ps : ∀ j, j < d.length -> 0 <= ix s.w (j : Int) -> 0 <= ix s.p (j : Int) /\ ix s.p (j : Int) < s.now
  ts : ∀ a, a < o.length -> -1 <= ix s.t (a : Int) /\ ix s.t (a : Int) <= s.now
  ub : ∀ a, a < o.length -> ix s.t (a : Int) < 0 -> gcl d s a <= 2520 * ix o (a : Int)
  dv : LL (cN (fun j => decide (ix (gsett o d s).w (j : Int) < 0)) d.length) ∣ s.now /\ ∀ j, j < d.length -> 0 <= ix s.w (j : Int) -> LL (cN (fun j => decide (ix (gsett o d s).w (j : Int) < 0)) d.length) ∣ ix s.p (j : Int)

section
variable {o : List Int} {d : List (List Int)} {s : St}
theorem gpr_len : (gpr d s).length = d.length := tab_len _ _
theorem gpr_ix {j : Nat} (hj : j < d.length) : ix (gpr d s) (j : Int) = if ix s.w (j : Int) < 0 then s.now else ix s.p (j : Int) := tab_ix hj
theorem gti_ix {a : Nat} (ha : a < o.length) : ix (gti o d s) (a : Int) = if ix s.t (a : Int) < 0 /\ gcl d s a = 2520 * ix o (a : Int) then s.now else ix s.t (a : Int) := tab_ix ha
theorem set_w {j : Nat} (hj : j < d.length) : ix (gsett o d s).w (j : Int) = if ix s.w (j : Int) < 0 then wit o d s j else ix s.w (j : Int) := tab_ix hj
theorem set_p {j : Nat} (hj : j < d.length) : ix (gsett o d s).p (j : Int) = if ix s.w (j : Int) < 0 /\ 0 <= wit o d s j then s.now else ix s.p (j : Int) := tab_ix hj
theorem witF_bd (now : Int) (t row : List Int) : ∀ n, -1 <= witF now t row n /\ witF now t row n < n
  | 0 => by simp [witF]
  | n + 1 => by have := witF_bd now t row n; unfold witF; split <;> omega
theorem witF_pos {now : Int} {t row : List Int} {a : Nat} (h : 0 <= ix t (a : Int) /\ 2520 * ix row (a : Int) <= now) : ∀ {n : Nat}, a < n -> 0 <= witF now t row n
  | 0, hn => by omega
  | n + 1, hn => by
    unfold witF
    by_cases e : a = n
    · subst e
      split
      · omega
      · rename_i hc
        by_cases hw : witF now t row a < 0
        · exact (hc ⟨h, .inl hw⟩).elim
        · omega
    · have := witF_pos h (n := n) (by omega)
      split <;> omega
theorem witF_no {now : Int} {t row : List Int} : ∀ {n : Nat}, 0 <= witF now t row n -> ∃ a, a < n /\ witF now t row n = a /\ 0 <= ix t (a : Int) /\ 2520 * ix row (a : Int) <= now
  | 0, h => by simp [witF] at h
  | n + 1, h => by
    unfold witF at h ⊢
    split at h
    · rename_i hc; rw [if_pos hc]; exact ⟨n, by omega, rfl, hc.1⟩
    · rename_i hc; rw [if_neg hc]
      obtain ⟨a, h1, h2⟩ := witF_no (n := n) h
      exact ⟨a, by omega, h2⟩
theorem wit_bd (j : Nat) : -1 <= wit o d s j /\ wit o d s j < o.length := witF_bd _ _ _ _
/-- Settling changes no price. -/
theorem gpr_gsett : gpr d (gsett o d s) = gpr d s := by
  refine tab_congr (fun j hj => ?_)
  rw [set_w hj, set_p hj]
  show (if _ then s.now else _) = _
  by_cases h : ix s.w (j : Int) < 0
  · by_cases h2 : 0 <= wit o d s j
    · simp [h, h2]
    · have := (wit_bd (o := o) (d := d) (s := s) j).1
      simp [h, h2]
  · simp [h]
theorem gcl_gsett (a : Nat) : gcl d (gsett o d s) a = gcl d s a := by unfold gcl; rw [gpr_gsett]

theorem GInv.clm (h : GInv o d s) : ClmOK o d (gpr d s) 2520 :=
  ⟨h.f, gpr_len, fun k hk => by
    rw [gpr_len] at hk
    rw [gpr_ix hk]
    have := h.n0
    split
    · omega
    · have := h.ps k hk (by omega); omega, by omega⟩
/-- A site whose claim is less than its cost, behind settling. -/
theorem GInv.less (h : GInv o d s) {a : Nat} (ha : a < o.length) (ht : ix (gti o d s) (a : Int) < 0) : ix s.t (a : Int) < 0 /\ gcl d s a < 2520 * ix o (a : Int) := by
  rw [gti_ix ha] at ht
  have h0 := h.n0
  split at ht
  · omega
  · rename_i hc
    have := h.ub a ha ht
    exact ⟨ht, by have hne : gcl d s a ≠ 2520 * ix o (a : Int) := fun e => hc ⟨ht, e⟩; omega⟩
/-- What the impl asks is what the spec asks. -/
theorem GInv.reach (h : GInv o d s) {a : Nat} (ha : a < o.length) (ht : ix s.t (a : Int) < 0) : gcl d s a ≥ ix o (a : Int) * 2520 ↔ gcl d s a = 2520 * ix o (a : Int) := by
  have := h.ub a ha ht
  constructor <;> intro <;> omega
theorem GInv.ent (h : GInv o d s) {j a : Nat} (hj : j < d.length) (ha : a < o.length) : 0 <= ix (ix d (j : Int)) (a : Int) /\ ix (ix d (j : Int)) (a : Int) <= 99 := by
  have hr := ix_mem d hj
  have := h.f.len _ hr
  exact h.f.d99 _ hr _ (ix_mem _ (by omega))
theorem GInv.opn (h : GInv o d s) {a : Nat} (ha : a < o.length) : 0 <= ix o (a : Int) /\ ix o (a : Int) <= 99 := h.f.o99 _ (ix_mem o ha)
theorem GInv.gcl0 (h : GInv o d s) (a : Nat) : 0 <= gcl d s a := by
  unfold gcl Go.Vc.clm
  have := sumN_le (f := fun _ => 0) (g := clmT d (gpr d s) 2520 (a : Int)) (n := (gpr d s).length) (fun j _ => clmT_nn _ _ _ _ _)
  rw [sumN_zero (fun _ _ => rfl)] at this; exact this
theorem GInv.gclT (h : GInv o d s) (a : Nat) {j : Nat} (hj : j < d.length) (hw : ix s.w (j : Int) < 0) : s.now - 2520 * ix (ix d (j : Int)) (a : Int) <= gcl d s a := by
  have h1 : clmT d (gpr d s) 2520 (a : Int) j <= gcl d s a := sumN_get (clmT_nn _ _ _ _) (by rw [gpr_len]; exact hj)
  have h2 : clmT d (gpr d s) 2520 (a : Int) j = max 0 (ix (gpr d s) (j : Int) - 2520 * ix (ix d (j : Int)) (a : Int)) := rfl
  rw [gpr_ix hj, if_pos hw] at h2
  omega
theorem dvd_max0 {c x y : Int} (h1 : c ∣ x) (h2 : c ∣ y) : c ∣ max 0 (x - y) := by
  rcases Int.le_total (x - y) 0 with h | h
  · rw [show max 0 (x - y) = 0 by omega]; exact Int.dvd_zero _
  · rw [show max 0 (x - y) = x - y by omega]; exact Int.dvd_sub h1 h2
def gcnt (d : List (List Int)) (s : St) : Nat := cN (fun j => decide (ix s.w (j : Int) < 0)) d.length
theorem GInv.cnt8 (h : GInv o d s) (t : St) : gcnt d t < 8 := by have := cN_le (fun j => decide (ix t.w (j : Int) < 0)) d.length; have := h.f.m7; unfold gcnt; omega
theorem GInv.sw (h : GInv o d s) {j : Nat} (hj : j < d.length) : -1 <= ix (gsett o d s).w (j : Int) /\ ix (gsett o d s).w (j : Int) < o.length := by
  rw [set_w hj]; have := h.ws j hj; have := wit_bd (o := o) (d := d) (s := s) j
  split <;> omega
theorem GInv.sp (h : GInv o d s) {j : Nat} (hj : j < d.length) (hw : 0 <= ix (gsett o d s).w (j : Int)) :
    (0 <= ix (gsett o d s).p (j : Int) /\ ix (gsett o d s).p (j : Int) <= s.now) /\ LL (gcnt d (gsett o d s)) ∣ ix (gsett o d s).p (j : Int) := by
  rw [set_w hj] at hw
  rw [set_p hj]
  have hn := h.n0
  by_cases h1 : ix s.w (j : Int) < 0
  · rw [if_pos h1] at hw
    rw [if_pos ⟨h1, hw⟩]
    exact ⟨by omega, h.dv.1⟩
  · rw [if_neg (fun h => h1 h.1)]
    have := h.ps j hj (by omega)
    exact ⟨by omega, h.dv.2 j hj (by omega)⟩
theorem GInv.sz (h : GInv o d s) {j : Nat} (hj : j < d.length) (hw : ix (gsett o d s).w (j : Int) < 0) : ix s.w (j : Int) < 0 /\ ix (gsett o d s).p (j : Int) = 0 := by
  have h0 := h.ws j hj
  rw [set_w hj] at hw
  rw [set_p hj]
  split at hw
  · rename_i h1; rw [if_neg (by omega)]; exact ⟨h1, h.pz j hj h1⟩
  · omega
theorem GInv.gdv (h : GInv o d s) (a : Nat) : LL (gcnt d (gsett o d s)) ∣ grest o d (gsett o d s) a := by
  have hu := LL_unit _ (h.cnt8 (gsett o d s))
  refine Int.dvd_sub (Int.dvd_trans hu (Int.dvd_mul_right _ _)) (sumN_dvd (fun j hj => ?_))
  rw [gpr_len] at hj
  refine dvd_max0 ?_ (Int.dvd_trans hu (Int.dvd_mul_right _ _))
  rw [gpr_ix hj]
  split
  · exact h.dv.1
  · exact (h.sp hj (by omega)).2
theorem gsp_le (t : St) (a : Nat) : gsp d t a <= gcnt d t := by
  have := cN_add (f := gspB d t a) (g := fun _ => false) (h := fun j => decide (ix t.w (j : Int) < 0)) (n := d.length) (fun j _ => by
    unfold gspB
    by_cases h : ix t.w (j : Int) < 0 <;> simp [h]
    split <;> omega)
  unfold gsp gcnt; omega
theorem GInv.quo (h : GInv o d s) {a : Nat} (ha : a < o.length) (ht : ix (gsett o d s).t (a : Int) < 0) (hs : 0 < gsp d (gsett o d s) a) :
    ∃ q, grest o d (gsett o d s) a = gsp d (gsett o d s) a * q /\ (grest o d (gsett o d s) a).tdiv (gsp d (gsett o d s) a) = q /\ 1 <= q /\ LL (gcnt d (gsett o d s) - gsp d (gsett o d s) a) ∣ q := by
  have h8 := h.cnt8 (gsett o d s)
  have hle := gsp_le (d := d) (gsett o d s) a
  have hdv := h.gdv a
  have hless := (h.less ha ht).2
  rw [<- gcl_gsett (o := o)] at hless
  have hr : 0 < grest o d (gsett o d s) a := by unfold grest; omega
  obtain ⟨k, hk⟩ := Int.dvd_trans (LL_step _ h8 _ (by omega) hs) hdv
  generalize gsp d (gsett o d s) a = sp at *
  generalize grest o d (gsett o d s) a = g at *
  generalize LL (gcnt d (gsett o d s) - sp) = l at *
  rw [Int.mul_assoc] at hk
  refine ⟨l * k, hk, by rw [hk]; exact Int.mul_tdiv_cancel_left _ (by omega), ?_, Int.dvd_mul_right _ _⟩
  generalize l * k = q at *
  refine Int.not_lt.1 (fun hq => ?_)
  have : (sp : Int) * q <= 0 := Int.mul_nonpos_of_nonneg_of_nonpos (by omega) (by omega)
  omega
theorem GInv.cpos (h : GInv o d s) {c : Int} (hc : cand1 o d (gsett o d s) c \/ cand2 o d (gsett o d s) c) : s.now < c := by
  rcases hc with ⟨j, hj, a, ha, _, h2, _⟩ | ⟨a, ha, ht, hs, rfl⟩
  · exact h2
  · obtain ⟨q, _, e, h1, _⟩ := h.quo ha ht hs
    rw [e]; show s.now < s.now + q; omega
theorem GInv.step_is (h : GInv o d s) : IsMn (gstep o d (gsett o d s)) (fun c => cand1 o d (gsett o d s) c \/ cand2 o d (gsett o d s) c) := by
  have := mn_is (candL o d (gsett o d s)) (-1) _ IsMn.none (fun c hc => by have := h.cpos ((candL_mem o d _ c).1 hc); have := h.n0; omega)
  exact this.congr (fun c => by rw [candL_mem]; simp)
theorem GInv.some_cand (h : GInv o d s) (hm : movingP d (gsett o d s)) : ∃ c, cand1 o d (gsett o d s) c \/ cand2 o d (gsett o d s) c := by
  obtain ⟨j, hj, hw⟩ := hm
  by_cases hb : ∃ a, a < o.length /\ s.now < 2520 * ix (ix d (j : Int)) (a : Int)
  · obtain ⟨a, ha, hb⟩ := hb
    exact ⟨_, .inl ⟨j, hj, a, ha, hw, hb, rfl⟩⟩
  · have hn := h.f.n1
    have h0 : 2520 * ix (ix d (j : Int)) ((0 : Nat) : Int) <= s.now := Int.not_lt.1 (fun hh => hb ⟨0, hn, hh⟩)
    have hs : 0 < gsp d (gsett o d s) 0 := cN_pos hj (decide_eq_true ⟨hw, h0⟩)
    refine ⟨_, .inr ⟨0, hn, Int.not_le.1 (fun ht => ?_), hs, rfl⟩⟩
    have h1 := h.sz hj hw
    have h2 := set_w (o := o) (s := s) hj
    rw [if_pos h1.1] at h2
    have h3 : 0 <= wit o d s j := witF_pos (a := 0) ⟨ht, h0⟩ hn
    omega
theorem GInv.lin (h : GInv o d s) {y : Int} (h0 : s.now <= y) (hy : ∀ j, j < d.length -> ix (gsett o d s).w (j : Int) < 0 -> ∀ a, a < o.length -> s.now < 2520 * ix (ix d (j : Int)) (a : Int) -> y <= 2520 * ix (ix d (j : Int)) (a : Int))
    {a : Nat} (ha : a < o.length) : gcl d ⟨y, (gsett o d s).p, (gsett o d s).w, (gsett o d s).t⟩ a = gcl d (gsett o d s) a + gsp d (gsett o d s) a * (y - s.now) := by
  unfold gcl Go.Vc.clm gsp
  rw [gpr_len, gpr_len, <- sumN_cN, <- sumN_add]
  refine sumN_congr (fun j hj => ?_)
  unfold clmT
  rw [gpr_ix hj, gpr_ix hj]
  unfold gspB
  have hn : (gsett o d s).now = s.now := rfl
  simp only [hn]
  by_cases hw : ix (gsett o d s).w (j : Int) < 0
  · simp only [hw, if_true, true_and, decide_eq_true_eq]
    have := hy j hj hw a ha
    split <;> omega
  · simp [hw]
theorem GInv.adv (h : GInv o d s) (hm : movingP d (gsett o d s)) : GInv o d (adv o d (gsett o d s)) /\ s.now < (Go.Vc.adv o d (gsett o d s)).now := by
  have hmn := h.step_is
  obtain ⟨c0, hc0⟩ := h.some_cand hm
  have hn0 := h.n0
  obtain ⟨hx0, hxc, hxm⟩ : 0 <= gstep o d (gsett o d s) /\ (cand1 o d (gsett o d s) (gstep o d (gsett o d s)) \/ cand2 o d (gsett o d s) (gstep o d (gsett o d s))) /\ ∀ c, (cand1 o d (gsett o d s) c \/ cand2 o d (gsett o d s) c) -> gstep o d (gsett o d s) <= c := by
    rcases hmn with ⟨_, hno⟩ | h3
    · exact (hno _ hc0).elim
    · exact h3
  have hX : Go.Vc.adv o d (gsett o d s) = ⟨gstep o d (gsett o d s), (gsett o d s).p, (gsett o d s).w, (gsett o d s).t⟩ := rfl
  rw [hX]
  generalize gstep o d (gsett o d s) = X at *
  have hNX := h.cpos hxc
  have hlin := fun {a : Nat} (ha : a < o.length) => h.lin (y := X) (by omega) (fun j hj hw a ha hb => hxm _ (.inl ⟨j, hj, a, ha, hw, hb, rfl⟩)) ha
  have hub : ∀ a, a < o.length -> ix (gsett o d s).t (a : Int) < 0 -> gcl d ⟨X, (gsett o d s).p, (gsett o d s).w, (gsett o d s).t⟩ a <= 2520 * ix o (a : Int) := fun a ha ht => by
    rw [hlin ha]
    have hl := (h.less ha ht).2
    rw [<- gcl_gsett (o := o)] at hl
    by_cases hs : 0 < gsp d (gsett o d s) a
    · obtain ⟨q, e1, e2, _, _⟩ := h.quo ha ht hs
      have hq := hxm _ (.inr ⟨a, ha, ht, hs, rfl⟩)
      rw [e2] at hq
      have hq : X - s.now <= q := by have : X <= s.now + q := hq; omega
      have := Int.mul_le_mul_of_nonneg_left hq (show (0 : Int) <= (gsp d (gsett o d s) a : Nat) by omega)
      unfold grest at e1
      omega
    · rw [show gsp d (gsett o d s) a = 0 by omega]
      simp; omega
  have htb : ∀ a, a < o.length -> -1 <= ix (gsett o d s).t (a : Int) /\ ix (gsett o d s).t (a : Int) <= s.now := fun a ha => by
    have e := gti_ix (d := d) (s := s) ha
    have e2 : ix (gsett o d s).t (a : Int) = ix (gti o d s) (a : Int) := rfl
    have := h.ts a ha
    rw [e2, e]; split <;> omega
  have hbd : X <= 498960 := by
    obtain ⟨j, hj, hw⟩ := hm
    by_cases hb : ∃ a, a < o.length /\ s.now < 2520 * ix (ix d (j : Int)) (a : Int)
    · obtain ⟨a, ha, hb⟩ := hb
      have := hxm _ (.inl ⟨j, hj, a, ha, hw, hb, rfl⟩)
      have := h.ent hj ha
      omega
    · have hn := h.f.n1
      have h0 : 2520 * ix (ix d (j : Int)) ((0 : Nat) : Int) <= s.now := Int.not_lt.1 (fun hh => hb ⟨0, hn, hh⟩)
      have ht : ix (gsett o d s).t ((0 : Nat) : Int) < 0 := Int.not_le.1 (fun ht => by
        have h1 := h.sz hj hw
        have h2 := set_w (o := o) (s := s) hj
        rw [if_pos h1.1] at h2
        have h3 : 0 <= wit o d s j := witF_pos (a := 0) ⟨ht, h0⟩ hn
        omega)
      have h1 := hub 0 hn ht
      have h2 : clmT d (gpr d ⟨X, (gsett o d s).p, (gsett o d s).w, (gsett o d s).t⟩) 2520 ((0 : Nat) : Int) j <= gcl d ⟨X, (gsett o d s).p, (gsett o d s).w, (gsett o d s).t⟩ 0 := sumN_get (clmT_nn _ _ _ _) (by rw [gpr_len]; exact hj)
      have h3 : clmT d (gpr d ⟨X, (gsett o d s).p, (gsett o d s).w, (gsett o d s).t⟩) 2520 ((0 : Nat) : Int) j = max 0 (ix (gpr d ⟨X, (gsett o d s).p, (gsett o d s).w, (gsett o d s).t⟩) (j : Int) - 2520 * ix (ix d (j : Int)) ((0 : Nat) : Int)) := rfl
      rw [gpr_ix hj] at h3
      simp only [hw, if_true] at h3
      have := h.ent hj hn
      have := h.opn hn
      omega
  refine ⟨⟨h.f, tab_len _ _, tab_len _ _, tab_len _ _, ⟨by omega, hbd⟩, fun j hj => h.sw hj, fun j hj hw => (h.sz hj hw).2, fun j hj hw => ?_, fun a ha => ?_, hub, ?_⟩, hNX⟩
  · have := (h.sp hj hw).1; exact ⟨this.1, Int.lt_of_le_of_lt this.2 hNX⟩
  · have := htb a ha; exact ⟨this.1, Int.le_of_lt (Int.lt_of_le_of_lt this.2 hNX)⟩
  · -- what divides
    have h8 := h.cnt8 (gsett o d s)
    have hle1 : ∀ j, j < d.length -> (ix (gsett o d ⟨X, (gsett o d s).p, (gsett o d s).w, (gsett o d s).t⟩).w (j : Int) < 0 -> ix (gsett o d s).w (j : Int) < 0) := fun j hj hw => by
      rw [set_w hj] at hw
      have e : ix (gsett o d s).w (j : Int) = ix (St.mk X (gsett o d s).p (gsett o d s).w (gsett o d s).t).w (j : Int) := rfl
      split at hw
      · rename_i h1; exact h1
      · exact hw
    have hmono : gcnt d (gsett o d ⟨X, (gsett o d s).p, (gsett o d s).w, (gsett o d s).t⟩) <= gcnt d (gsett o d s) := by
      have := cN_add (f := fun j => decide (ix (gsett o d ⟨X, (gsett o d s).p, (gsett o d s).w, (gsett o d s).t⟩).w (j : Int) < 0)) (g := fun _ => false) (h := fun j => decide (ix (gsett o d s).w (j : Int) < 0)) (n := d.length) (fun j hj => by
        by_cases h1 : ix (gsett o d ⟨X, (gsett o d s).p, (gsett o d s).w, (gsett o d s).t⟩).w (j : Int) < 0
        · simp [h1, hle1 j hj h1]
        · simp [h1])
      unfold gcnt; omega
    have hgoal : ∀ r1, gcnt d (gsett o d ⟨X, (gsett o d s).p, (gsett o d s).w, (gsett o d s).t⟩) = r1 -> LL r1 ∣ X /\ ∀ j, j < d.length -> 0 <= ix (gsett o d s).w (j : Int) -> LL r1 ∣ ix (gsett o d s).p (j : Int) := fun r1 hr1 => by
      rw [hr1] at hmono
      have hd1 := LL_mono _ h8 r1 (by omega)
      refine ⟨?_, fun j hj hw => Int.dvd_trans hd1 (h.sp hj hw).2⟩
      rcases hxc with ⟨j, hj, a, ha, hw, _, e⟩ | ⟨a, ha, ht, hs, e⟩
      · rw [e]; exact Int.dvd_trans (LL_unit _ (by omega)) (Int.dvd_mul_right _ _)
      · obtain ⟨q, e1, e2, e3, e4⟩ := h.quo ha ht hs
        rw [e2] at e
        have hXe : X = s.now + q := e
        have hle := gsp_le (d := d) (gsett o d s) a
        have hcl : gcl d ⟨X, (gsett o d s).p, (gsett o d s).w, (gsett o d s).t⟩ a = 2520 * ix o (a : Int) := by
          rw [hlin ha, show X - s.now = q by omega, <- e1]; unfold grest; omega
        have htight : 0 <= ix (gti o d ⟨X, (gsett o d s).p, (gsett o d s).w, (gsett o d s).t⟩) (a : Int) := by
          rw [gti_ix ha, if_pos ⟨ht, hcl⟩]; show 0 <= X; omega
        have hcnt : r1 + gsp d (gsett o d s) a <= gcnt d (gsett o d s) := by
          rw [<- hr1]
          refine cN_add (fun j hj => ?_)
          by_cases hg : gspB d (gsett o d s) a j = true
          · have hg2 := hg
            unfold gspB at hg2
            have hg2 := of_decide_eq_true hg2
            have hle2 : 2520 * ix (ix d (j : Int)) (a : Int) <= s.now := hg2.2
            have hst : 0 <= ix (gsett o d ⟨X, (gsett o d s).p, (gsett o d s).w, (gsett o d s).t⟩).w (j : Int) := by
              rw [set_w hj, if_pos hg2.1]
              exact witF_pos (a := a) ⟨htight, by show _ <= X; omega⟩ ha
            have hst' : ¬ ix (gsett o d ⟨X, (gsett o d s).p, (gsett o d s).w, (gsett o d s).t⟩).w (j : Int) < 0 := by omega
            simp only [hst', decide_false, hg, hg2.1, decide_true]
            decide
          · have hg : gspB d (gsett o d s) a j = false := by simpa using hg
            by_cases h1 : ix (gsett o d ⟨X, (gsett o d s).p, (gsett o d s).w, (gsett o d s).t⟩).w (j : Int) < 0
            · simp [h1, hle1 j hj h1, hg]
            · simp [h1, hg]
        have hd2 := LL_mono _ h8 (gcnt d (gsett o d s) - gsp d (gsett o d s) a) (by omega)
        have hd3 := LL_mono (gcnt d (gsett o d s) - gsp d (gsett o d s) a) (by omega) r1 (by omega)
        rw [hXe]
        exact Int.dvd_add (Int.dvd_trans hd1 h.dv.1) (Int.dvd_trans hd3 e4)
    exact hgoal _ rfl
theorem st0_inv {o : List Int} {d : List (List Int)} (hf : FieldOK o d) : GInv o d (st0 o.length d.length) := by
  refine ⟨hf, List.length_replicate, List.length_replicate, List.length_replicate, by show (0 : Int) <= 0 /\ (0 : Int) <= 498960; omega, fun j hj => ?_, fun j hj _ => ?_, fun j hj hw => ?_, fun a ha => ?_, fun a ha _ => ?_, Int.dvd_zero _, fun j hj hw => ?_⟩
  · rw [show ix (st0 o.length d.length).w (j : Int) = -1 from ix_replicate _ _ hj]; have := hf.n1; omega
  · exact ix_replicate _ _ hj
  · rw [show ix (st0 o.length d.length).w (j : Int) = -1 from ix_replicate _ _ hj] at hw; omega
  · rw [show ix (st0 o.length d.length).t (a : Int) = -1 from ix_replicate _ _ ha]; show _ /\ _ <= (0 : Int); omega
  · have e : gcl d (st0 o.length d.length) a = 0 := by
      refine sumN_zero (fun j hj => ?_)
      rw [gpr_len] at hj
      unfold clmT
      rw [gpr_ix hj, show ix (st0 o.length d.length).w (j : Int) = -1 from ix_replicate _ _ hj, if_pos (by omega)]
      have hr := ix_mem d hj
      have := hf.len _ hr
      have := hf.d99 _ hr _ (ix_mem (ix d (j : Int)) (k := a) (by omega))
      show max 0 (0 - _) = 0
      omega
    rw [e]
    have := hf.o99 _ (ix_mem o ha)
    omega
  · rw [show ix (st0 o.length d.length).w (j : Int) = -1 from ix_replicate _ _ hj] at hw; omega
/-- A growth that has begun, with the steps that are left. -/
def Going (o : List Int) (d : List (List Int)) (s : St) : Prop := GInv o d s /\ ∃ k : Nat, (k : Int) <= s.now /\ runF o d (1000000 - k) s = grown o d
theorem going0 {o : List Int} {d : List (List Int)} (hf : FieldOK o d) : Going o d (st0 o.length d.length) := ⟨st0_inv hf, 0, Int.le_refl _, rfl⟩
theorem Going.next {o : List Int} {d : List (List Int)} {s : St} (h : Going o d s) (hm : movingP d (gsett o d s)) : Going o d (Go.Vc.adv o d (gsett o d s)) /\ s.now < (Go.Vc.adv o d (gsett o d s)).now := by
  obtain ⟨hi, k, hk, e⟩ := h
  obtain ⟨h1, h2⟩ := hi.adv hm
  have hn := hi.n0
  refine ⟨⟨h1, k + 1, by omega, ?_⟩, h2⟩
  rw [<- e, show 1000000 - k = (1000000 - (k + 1)) + 1 by omega]
  show _ = if movingP d (gsett o d s) then _ else _
  rw [if_pos hm]
theorem Going.done {o : List Int} {d : List (List Int)} {s : St} (h : Going o d s) (hm : ¬ movingP d (gsett o d s)) : gsett o d s = grown o d := by
  obtain ⟨hi, k, hk, e⟩ := h
  have hn := hi.n0
  rw [<- e, show 1000000 - k = (1000000 - (k + 1)) + 1 by omega]
  show _ = if movingP d (gsett o d s) then _ else _
  rw [if_neg hm]
end
end Go.Vc
