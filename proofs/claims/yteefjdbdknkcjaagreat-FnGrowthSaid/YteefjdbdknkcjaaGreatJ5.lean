/- Texts joined: PlN PlO PlP PlM XT PlR. -/
import Derived.Test.YteefjdbdknkcjaaGreatJ4
import Derived.Sort.Statements
import Derived.Test.YteefjdbdknkcjaaGreatTy
import Derived.WalkKit
import Derived.Deep.OwnRows
import Derived.Deep.LoopGhost
import Derived.Shelf.Abstract
import Derived.BigGuard
import Derived.BigCall
import Derived.CellFam
import Derived.Deep.Draws
import Derived.Deep.QuietTactic
import Derived.BigQuiet
namespace Go.Vc
set_option linter.unusedSimpArgs false
set_option linter.unusedVariables false
set_option linter.unusedSectionVars false

/-! counting -/
def cN (f : Nat -> Bool) : Nat -> Nat
  | 0 => 0
  | k + 1 => cN f k + (if f k then 1 else 0)
theorem cN_le (f : Nat -> Bool) : ∀ n, cN f n <= n
  | 0 => Nat.le_refl _
  | n + 1 => by have := cN_le f n; simp only [cN]; split <;> omega
theorem cN_add {f g h : Nat -> Bool} : ∀ {n : Nat}, (∀ j, j < n -> (if f j then 1 else 0) + (if g j then 1 else 0) <= (if h j then 1 else 0)) -> cN f n + cN g n <= cN h n
  | 0, _ => Nat.le_refl _
  | n + 1, H => by
    have h1 := cN_add (n := n) (fun j hj => H j (by omega))
    have h2 := H n (by omega)
    simp only [cN]; omega
theorem cN_pos {f : Nat -> Bool} : ∀ {n j : Nat}, j < n -> f j = true -> 0 < cN f n
  | 0, _, h, _ => by omega
  | n + 1, j, h, hf => by
    simp only [cN]
    by_cases e : j = n
    · subst e; rw [if_pos hf]; omega
    · have := cN_pos (n := n) (j := j) (by omega) hf; omega
theorem sumN_cN (f : Nat -> Bool) (c : Int) : ∀ n, sumN (fun j => if f j then c else 0) n = (cN f n : Int) * c
  | 0 => by simp [sumN, cN]
  | n + 1 => by
    have h := sumN_cN f c n
    simp only [sumN, cN, h]
    split
    · rw [Int.natCast_add, Int.add_mul]; simp
    · simp
theorem sumN_dvd {f : Nat -> Int} {c : Int} : ∀ {n : Nat}, (∀ j, j < n -> c ∣ f j) -> c ∣ sumN f n
  | 0, _ => Int.dvd_zero _
  | n + 1, h => by
    simp only [sumN]
    exact Int.dvd_add (sumN_dvd (n := n) fun j hj => h j (by omega)) (h n (by omega))

/-! the least of some numbers, -1 if there is none -/
def IsMn (x : Int) (P : Int -> Prop) : Prop := (x = -1 /\ ∀ c, ¬ P c) \/ (0 <= x /\ P x /\ ∀ c, P c -> x <= c)
def mnU (x c : Int) : Int := if x < 0 \/ c < x then c else x
theorem IsMn.unique {x y : Int} {P : Int -> Prop} (h : IsMn x P) (k : IsMn y P) : x = y := by
  rcases h with ⟨rfl, h⟩ | ⟨_, h1, h2⟩ <;> rcases k with ⟨rfl, k⟩ | ⟨_, k1, k2⟩
  · rfl
  · exact (h _ k1).elim
  · exact (k _ h1).elim
  · have := h2 _ k1; have := k2 _ h1; omega
theorem IsMn.congr {x : Int} {P Q : Int -> Prop} (h : IsMn x P) (e : ∀ c, P c ↔ Q c) : IsMn x Q := by
  have : P = Q := funext fun c => propext (e c)
  rwa [<- this]
theorem IsMn.upd {x c : Int} {P Q : Int -> Prop} (h : IsMn x P) (hc : 0 <= c) (e : ∀ y, Q y ↔ P y \/ y = c) : IsMn (mnU x c) Q := by
  refine IsMn.congr (P := fun y => P y \/ y = c) ?_ (fun y => (e y).symm)
  unfold mnU
  rcases h with ⟨rfl, h⟩ | ⟨h0, h1, h2⟩
  · rw [if_pos (.inl (by omega))]
    exact .inr ⟨hc, .inr rfl, fun y hy => by rcases hy with hy | hy; exact (h _ hy).elim; omega⟩
  · split
    · exact .inr ⟨hc, .inr rfl, fun y hy => by rcases hy with hy | hy; have := h2 _ hy; omega; omega⟩
    · exact .inr ⟨h0, .inl h1, fun y hy => by rcases hy with hy | hy; exact h2 _ hy; omega⟩
theorem IsMn.none : IsMn (-1) (fun _ => False) := .inl ⟨rfl, fun _ h => h⟩
def mn : List Int -> Int -> Int
  | [], x => x
  | c :: l, x => mn l (mnU x c)
theorem mn_is : ∀ (l : List Int) (x : Int) (P : Int -> Prop), IsMn x P -> (∀ c ∈ l, 0 <= c) -> IsMn (mn l x) (fun y => P y \/ y ∈ l)
  | [], x, P, h, _ => h.congr (fun c => by simp)
  | c :: l, x, P, h, hc => by
    have h1 := IsMn.upd (Q := fun y => P y \/ y = c) h (hc c (by simp)) (fun _ => Iff.rfl)
    exact (mn_is l _ _ h1 (fun y hy => hc y (by simp [hy]))).congr (fun y => by simp only [List.mem_cons]; rw [or_assoc])

/-! which numbers divide which -/
def LL : Nat -> Int
  | 0 => 1 | 1 => 1 | 2 => 2 | 3 => 6 | 4 => 12 | 5 => 60 | 6 => 360 | _ => 2520
theorem LL_mono : ∀ r : Nat, r < 8 -> ∀ q : Nat, q < r + 1 -> LL q ∣ LL r := by decide
theorem LL_step : ∀ r : Nat, r < 8 -> ∀ s : Nat, s < r + 1 -> 1 <= s -> (s : Int) * LL (r - s) ∣ LL r := by decide
theorem LL_unit : ∀ r : Nat, r < 8 -> LL r ∣ 2520 := by decide

/-! growth -/
structure St where
  now : Int
  p : List Int
  w : List Int
  t : List Int
section
variable (o : List Int) (d : List (List Int)) (s : St)
def gpr : List Int := tab d.length fun j => if ix s.w (j : Int) < 0 then s.now else ix s.p (j : Int)
def gcl (a : Nat) : Int := clm d (gpr d s) 2520 (a : Int)
def gti : List Int := tab o.length fun a => if ix s.t (a : Int) < 0 /\ gcl d s a = 2520 * ix o (a : Int) then s.now else ix s.t (a : Int)
def witF (now : Int) (t : List Int) (row : List Int) : Nat -> Int
  | 0 => -1
  | a + 1 => if (0 <= ix t (a : Int) /\ 2520 * ix row (a : Int) <= now) /\ (witF now t row a < 0 \/ ix t (a : Int) < ix t (witF now t row a)) then a else witF now t row a
def wit (j : Nat) : Int := witF s.now (gti o d s) (ix d (j : Int)) o.length
def gsett : St := ⟨s.now, tab d.length fun j => if ix s.w (j : Int) < 0 /\ 0 <= wit o d s j then s.now else ix s.p (j : Int),
  tab d.length fun j => if ix s.w (j : Int) < 0 then wit o d s j else ix s.w (j : Int), gti o d s⟩
def movingP : Prop := ∃ j, j < d.length /\ ix s.w (j : Int) < 0
instance : Decidable (movingP d s) := by unfold movingP; infer_instance
def gspB (a : Nat) (j : Nat) : Bool := decide (ix s.w (j : Int) < 0 /\ 2520 * ix (ix d (j : Int)) (a : Int) <= s.now)
def gsp (a : Nat) : Nat := cN (gspB d s a) d.length
def grest (a : Nat) : Int := 2520 * ix o (a : Int) - gcl d s a
def cand1 (c : Int) : Prop := ∃ j, j < d.length /\ ∃ a, a < o.length /\ ix s.w (j : Int) < 0 /\ s.now < c /\ c = 2520 * ix (ix d (j : Int)) (a : Int)
def cand2 (c : Int) : Prop := ∃ a, a < o.length /\ ix s.t (a : Int) < 0 /\ 0 < gsp d s a /\ c = s.now + (grest o d s a).tdiv (gsp d s a)
def candL : List Int := ((List.range d.length).flatMap fun (j : Nat) => (List.range o.length).filterMap fun (a : Nat) => if ix s.w (j : Int) < 0 /\ s.now < 2520 * ix (ix d (j : Int)) (a : Int) then some (2520 * ix (ix d (j : Int)) (a : Int)) else none) ++
  (List.range o.length).filterMap fun (a : Nat) => if ix s.t (a : Int) < 0 /\ 0 < gsp d s a then some (s.now + (grest o d s a).tdiv (gsp d s a)) else none
theorem candL_mem (c : Int) : c ∈ candL o d s ↔ cand1 o d s c \/ cand2 o d s c := by
  unfold candL cand1 cand2
  rw [List.mem_append]
  refine or_congr ⟨fun h => ?_, ?_⟩ ⟨fun h => ?_, ?_⟩
  · obtain ⟨j, hj, h⟩ := List.mem_flatMap.1 h
    obtain ⟨a, ha, h⟩ := List.mem_filterMap.1 h
    split at h
    · rename_i hc; cases h; exact ⟨j, List.mem_range.1 hj, a, List.mem_range.1 ha, hc.1, hc.2, rfl⟩
    · cases h
  · rintro ⟨j, hj, a, ha, h1, h2, rfl⟩
    exact List.mem_flatMap.2 ⟨j, List.mem_range.2 hj, List.mem_filterMap.2 ⟨a, List.mem_range.2 ha, by rw [if_pos ⟨h1, h2⟩]⟩⟩
  · obtain ⟨a, ha, h⟩ := List.mem_filterMap.1 h
    split at h
    · rename_i hc; cases h; exact ⟨a, List.mem_range.1 ha, hc.1, hc.2, rfl⟩
    · cases h
  · rintro ⟨a, ha, h1, h2, rfl⟩
    exact List.mem_filterMap.2 ⟨a, List.mem_range.2 ha, by rw [if_pos ⟨h1, h2⟩]⟩
def gstep : Int := mn (candL o d s) (-1)
def adv : St := ⟨gstep o d s, s.p, s.w, s.t⟩
end
def runF (o : List Int) (d : List (List Int)) : Nat -> St -> St
  | 0, s => s
  | k + 1, s => if movingP d (gsett o d s) then runF o d k (adv o d (gsett o d s)) else gsett o d s
def st0 (n m : Nat) : St := ⟨0, List.replicate m 0, List.replicate m (-1), List.replicate n (-1)⟩
def grown (o : List Int) (d : List (List Int)) : St := runF o d 1000000 (st0 o.length d.length)

structure GInv (o : List Int) (d : List (List Int)) (s : St) : Prop where
  f : FieldOK o d
  lp : s.p.length = d.length
  lw : s.w.length = d.length
  lt : s.t.length = o.length
  n0 : 0 <= s.now /\ s.now <= 498960
  ws : ∀ j, j < d.length -> -1 <= ix s.w (j : Int) /\ ix s.w (j : Int) < o.length
  pz : ∀ j, j < d.length -> ix s.w (j : Int) < 0 -> ix s.p (j : Int) = 0
  ps : ∀ j, j < d.length -> 0 <= ix s.w (j : Int) -> 0 <= ix s.p (j : Int) /\ ix s.p (j : Int) < s.now
  ts : ∀ a, a < o.length -> -1 <= ix s.t (a : Int) /\ ix s.t (a : Int) <= s.now
  ub : ∀ a, a < o.length -> ix s.t (a : Int) < 0 -> gcl d s a <= 2520 * ix o (a : Int)
  dv : LL (cN (fun j => decide (ix (gsett o d s).w (j : Int) < 0)) d.length) ∣ s.now /\ ∀ j, j < d.length -> 0 <= ix s.w (j : Int) -> LL (cN (fun j => decide (ix (gsett o d s).w (j : Int) < 0)) d.length) ∣ ix s.p (j : Int)

section
variable {o : List Int} {d : List (List Int)} {s : St}
theorem gpr_len : (gpr d s).length = d.length := tab_len _ _
theorem gpr_ix {j : Nat} (hj : j < d.length) : ix (gpr d s) (j : Int) = if ix s.w (j : Int) < 0 then s.now else ix s.p (j : Int) := tab_ix hj
theorem gti_ix {a : Nat} (ha : a < o.length) : ix (gti o d s) (a : Int) = if ix s.t (a : Int) < 0 /\ gcl d s a = 2520 * ix o (a : Int) then s.now else ix s.t (a : Int) := tab_ix ha
theorem set_w {j : Nat} (hj : j < d.length) : ix (gsett o d s).w (j : Int) = if ix s.w (j : Int) < 0 then wit o d s j else ix s.w (j : Int) := tab_ix hj
theorem set_p {j : Nat} (hj : j < d.length) : ix (gsett o d s).p (j : Int) = if ix s.w (j : Int) < 0 /\ 0 <= wit o d s j then s.now else ix s.p (j : Int) := tab_ix hj
theorem witF_bd (now : Int) (t row : List Int) : ∀ n, -1 <= witF now t row n /\ witF now t row n < n
  | 0 => by simp [witF]
  | n + 1 => by have := witF_bd now t row n; unfold witF; split <;> omega
theorem witF_pos {now : Int} {t row : List Int} {a : Nat} (h : 0 <= ix t (a : Int) /\ 2520 * ix row (a : Int) <= now) : ∀ {n : Nat}, a < n -> 0 <= witF now t row n
  | 0, hn => by omega
  | n + 1, hn => by
    unfold witF
    by_cases e : a = n
    · subst e
      split
      · omega
      · rename_i hc
        by_cases hw : witF now t row a < 0
        · exact (hc ⟨h, .inl hw⟩).elim
        · omega
    · have := witF_pos h (n := n) (by omega)
      split <;> omega
theorem witF_no {now : Int} {t row : List Int} : ∀ {n : Nat}, 0 <= witF now t row n -> ∃ a, a < n /\ witF now t row n = a /\ 0 <= ix t (a : Int) /\ 2520 * ix row (a : Int) <= now
  | 0, h => by simp [witF] at h
  | n + 1, h => by
    unfold witF at h ⊢
    split at h
    · rename_i hc; rw [if_pos hc]; exact ⟨n, by omega, rfl, hc.1⟩
    · rename_i hc; rw [if_neg hc]
      obtain ⟨a, h1, h2⟩ := witF_no (n := n) h
      exact ⟨a, by omega, h2⟩
theorem wit_bd (j : Nat) : -1 <= wit o d s j /\ wit o d s j < o.length := witF_bd _ _ _ _
theorem gpr_gsett : gpr d (gsett o d s) = gpr d s := by
  refine tab_congr (fun j hj => ?_)
  rw [set_w hj, set_p hj]
  show (if _ then s.now else _) = _
  by_cases h : ix s.w (j : Int) < 0
  · by_cases h2 : 0 <= wit o d s j
    · simp [h, h2]
    · have := (wit_bd (o := o) (d := d) (s := s) j).1
      simp [h, h2]
  · simp [h]
theorem gcl_gsett (a : Nat) : gcl d (gsett o d s) a = gcl d s a := by unfold gcl; rw [gpr_gsett]

theorem GInv.clm (h : GInv o d s) : ClmOK o d (gpr d s) 2520 :=
  ⟨h.f, gpr_len, fun k hk => by
    rw [gpr_len] at hk
    rw [gpr_ix hk]
    have := h.n0
    split
    · omega
    · have := h.ps k hk (by omega); omega, by omega⟩
theorem GInv.less (h : GInv o d s) {a : Nat} (ha : a < o.length) (ht : ix (gti o d s) (a : Int) < 0) : ix s.t (a : Int) < 0 /\ gcl d s a < 2520 * ix o (a : Int) := by
  rw [gti_ix ha] at ht
  have h0 := h.n0
  split at ht
  · omega
  · rename_i hc
    have := h.ub a ha ht
    exact ⟨ht, by have hne : gcl d s a ≠ 2520 * ix o (a : Int) := fun e => hc ⟨ht, e⟩; omega⟩
theorem GInv.reach (h : GInv o d s) {a : Nat} (ha : a < o.length) (ht : ix s.t (a : Int) < 0) : gcl d s a ≥ ix o (a : Int) * 2520 ↔ gcl d s a = 2520 * ix o (a : Int) := by
  have := h.ub a ha ht
  constructor <;> intro <;> omega
theorem GInv.ent (h : GInv o d s) {j a : Nat} (hj : j < d.length) (ha : a < o.length) : 0 <= ix (ix d (j : Int)) (a : Int) /\ ix (ix d (j : Int)) (a : Int) <= 99 := by
  have hr := ix_mem d hj
  have := h.f.len _ hr
  exact h.f.d99 _ hr _ (ix_mem _ (by omega))
theorem GInv.opn (h : GInv o d s) {a : Nat} (ha : a < o.length) : 0 <= ix o (a : Int) /\ ix o (a : Int) <= 99 := h.f.o99 _ (ix_mem o ha)
theorem GInv.gcl0 (h : GInv o d s) (a : Nat) : 0 <= gcl d s a := by
  unfold gcl Go.Vc.clm
  have := sumN_le (f := fun _ => 0) (g := clmT d (gpr d s) 2520 (a : Int)) (n := (gpr d s).length) (fun j _ => clmT_nn _ _ _ _ _)
  rw [sumN_zero (fun _ _ => rfl)] at this; exact this
theorem dvd_max0 {c x y : Int} (h1 : c ∣ x) (h2 : c ∣ y) : c ∣ max 0 (x - y) := by
  rcases Int.le_total (x - y) 0 with h | h
  · rw [show max 0 (x - y) = 0 by omega]; exact Int.dvd_zero _
  · rw [show max 0 (x - y) = x - y by omega]; exact Int.dvd_sub h1 h2
def gcnt (d : List (List Int)) (s : St) : Nat := cN (fun j => decide (ix s.w (j : Int) < 0)) d.length
theorem GInv.cnt8 (h : GInv o d s) (t : St) : gcnt d t < 8 := by have := cN_le (fun j => decide (ix t.w (j : Int) < 0)) d.length; have := h.f.m7; unfold gcnt; omega
theorem GInv.sw (h : GInv o d s) {j : Nat} (hj : j < d.length) : -1 <= ix (gsett o d s).w (j : Int) /\ ix (gsett o d s).w (j : Int) < o.length := by
  rw [set_w hj]; have := h.ws j hj; have := wit_bd (o := o) (d := d) (s := s) j
  split <;> omega
theorem GInv.sp (h : GInv o d s) {j : Nat} (hj : j < d.length) (hw : 0 <= ix (gsett o d s).w (j : Int)) :
    (0 <= ix (gsett o d s).p (j : Int) /\ ix (gsett o d s).p (j : Int) <= s.now) /\ LL (gcnt d (gsett o d s)) ∣ ix (gsett o d s).p (j : Int) := by
  rw [set_w hj] at hw
  rw [set_p hj]
  have hn := h.n0
  by_cases h1 : ix s.w (j : Int) < 0
  · rw [if_pos h1] at hw
    rw [if_pos ⟨h1, hw⟩]
    exact ⟨by omega, h.dv.1⟩
  · rw [if_neg (fun h => h1 h.1)]
    have := h.ps j hj (by omega)
    exact ⟨by omega, h.dv.2 j hj (by omega)⟩
theorem GInv.sz (h : GInv o d s) {j : Nat} (hj : j < d.length) (hw : ix (gsett o d s).w (j : Int) < 0) : ix s.w (j : Int) < 0 /\ ix (gsett o d s).p (j : Int) = 0 := by
  have h0 := h.ws j hj
  rw [set_w hj] at hw
  rw [set_p hj]
  split at hw
  · rename_i h1; rw [if_neg (by omega)]; exact ⟨h1, h.pz j hj h1⟩
  · omega
theorem GInv.gdv (h : GInv o d s) (a : Nat) : LL (gcnt d (gsett o d s)) ∣ grest o d (gsett o d s) a := by
  have hu := LL_unit _ (h.cnt8 (gsett o d s))
  refine Int.dvd_sub (Int.dvd_trans hu (Int.dvd_mul_right _ _)) (sumN_dvd (fun j hj => ?_))
  rw [gpr_len] at hj
  refine dvd_max0 ?_ (Int.dvd_trans hu (Int.dvd_mul_right _ _))
  rw [gpr_ix hj]
  split
  · exact h.dv.1
  · exact (h.sp hj (by omega)).2
theorem gsp_le (t : St) (a : Nat) : gsp d t a <= gcnt d t := by
  have := cN_add (f := gspB d t a) (g := fun _ => false) (h := fun j => decide (ix t.w (j : Int) < 0)) (n := d.length) (fun j _ => by
    unfold gspB
    by_cases h : ix t.w (j : Int) < 0 <;> simp [h]
    split <;> omega)
  unfold gsp gcnt; omega
theorem GInv.quo (h : GInv o d s) {a : Nat} (ha : a < o.length) (ht : ix (gsett o d s).t (a : Int) < 0) (hs : 0 < gsp d (gsett o d s) a) :
    ∃ q, grest o d (gsett o d s) a = gsp d (gsett o d s) a * q /\ (grest o d (gsett o d s) a).tdiv (gsp d (gsett o d s) a) = q /\ 1 <= q /\ LL (gcnt d (gsett o d s) - gsp d (gsett o d s) a) ∣ q := by
  have h8 := h.cnt8 (gsett o d s)
  have hle := gsp_le (d := d) (gsett o d s) a
  have hdv := h.gdv a
  have hless := (h.less ha ht).2
  rw [<- gcl_gsett (o := o)] at hless
  have hr : 0 < grest o d (gsett o d s) a := by unfold grest; omega
  obtain ⟨k, hk⟩ := Int.dvd_trans (LL_step _ h8 _ (by omega) hs) hdv
  generalize gsp d (gsett o d s) a = sp at *
  generalize grest o d (gsett o d s) a = g at *
  generalize LL (gcnt d (gsett o d s) - sp) = l at *
  rw [Int.mul_assoc] at hk
  refine ⟨l * k, hk, by rw [hk]; exact Int.mul_tdiv_cancel_left _ (by omega), ?_, Int.dvd_mul_right _ _⟩
  generalize l * k = q at *
  refine Int.not_lt.1 (fun hq => ?_)
  have : (sp : Int) * q <= 0 := Int.mul_nonpos_of_nonneg_of_nonpos (by omega) (by omega)
  omega
theorem GInv.cpos (h : GInv o d s) {c : Int} (hc : cand1 o d (gsett o d s) c \/ cand2 o d (gsett o d s) c) : s.now < c := by
  rcases hc with ⟨j, hj, a, ha, _, h2, _⟩ | ⟨a, ha, ht, hs, rfl⟩
  · exact h2
  · obtain ⟨q, _, e, h1, _⟩ := h.quo ha ht hs
    rw [e]; show s.now < s.now + q; omega
theorem GInv.step_is (h : GInv o d s) : IsMn (gstep o d (gsett o d s)) (fun c => cand1 o d (gsett o d s) c \/ cand2 o d (gsett o d s) c) := by
  have := mn_is (candL o d (gsett o d s)) (-1) _ IsMn.none (fun c hc => by have := h.cpos ((candL_mem o d _ c).1 hc); have := h.n0; omega)
  exact this.congr (fun c => by rw [candL_mem]; simp)
theorem GInv.some_cand (h : GInv o d s) (hm : movingP d (gsett o d s)) : ∃ c, cand1 o d (gsett o d s) c \/ cand2 o d (gsett o d s) c := by
  obtain ⟨j, hj, hw⟩ := hm
  by_cases hb : ∃ a, a < o.length /\ s.now < 2520 * ix (ix d (j : Int)) (a : Int)
  · obtain ⟨a, ha, hb⟩ := hb
    exact ⟨_, .inl ⟨j, hj, a, ha, hw, hb, rfl⟩⟩
  · have hn := h.f.n1
    have h0 : 2520 * ix (ix d (j : Int)) ((0 : Nat) : Int) <= s.now := Int.not_lt.1 (fun hh => hb ⟨0, hn, hh⟩)
    have hs : 0 < gsp d (gsett o d s) 0 := cN_pos hj (decide_eq_true ⟨hw, h0⟩)
    refine ⟨_, .inr ⟨0, hn, Int.not_le.1 (fun ht => ?_), hs, rfl⟩⟩
    have h1 := h.sz hj hw
    have h2 := set_w (o := o) (s := s) hj
    rw [if_pos h1.1] at h2
    have h3 : 0 <= wit o d s j := witF_pos (a := 0) ⟨ht, h0⟩ hn
    omega
theorem GInv.lin (h : GInv o d s) {y : Int} (h0 : s.now <= y) (hy : ∀ j, j < d.length -> ix (gsett o d s).w (j : Int) < 0 -> ∀ a, a < o.length -> s.now < 2520 * ix (ix d (j : Int)) (a : Int) -> y <= 2520 * ix (ix d (j : Int)) (a : Int))
    {a : Nat} (ha : a < o.length) : gcl d ⟨y, (gsett o d s).p, (gsett o d s).w, (gsett o d s).t⟩ a = gcl d (gsett o d s) a + gsp d (gsett o d s) a * (y - s.now) := by
  unfold gcl Go.Vc.clm gsp
  rw [gpr_len, gpr_len, <- sumN_cN, <- sumN_add]
  refine sumN_congr (fun j hj => ?_)
  unfold clmT
  rw [gpr_ix hj, gpr_ix hj]
  unfold gspB
  have hn : (gsett o d s).now = s.now := rfl
  simp only [hn]
  by_cases hw : ix (gsett o d s).w (j : Int) < 0
  · simp only [hw, if_true, true_and, decide_eq_true_eq]
    have := hy j hj hw a ha
    split <;> omega
  · simp [hw]
theorem GInv.adv (h : GInv o d s) (hm : movingP d (gsett o d s)) : GInv o d (adv o d (gsett o d s)) /\ s.now < (Go.Vc.adv o d (gsett o d s)).now := by
  have hmn := h.step_is
  obtain ⟨c0, hc0⟩ := h.some_cand hm
  have hn0 := h.n0
  obtain ⟨hx0, hxc, hxm⟩ : 0 <= gstep o d (gsett o d s) /\ (cand1 o d (gsett o d s) (gstep o d (gsett o d s)) \/ cand2 o d (gsett o d s) (gstep o d (gsett o d s))) /\ ∀ c, (cand1 o d (gsett o d s) c \/ cand2 o d (gsett o d s) c) -> gstep o d (gsett o d s) <= c := by
    rcases hmn with ⟨_, hno⟩ | h3
    · exact (hno _ hc0).elim
    · exact h3
  have hX : Go.Vc.adv o d (gsett o d s) = ⟨gstep o d (gsett o d s), (gsett o d s).p, (gsett o d s).w, (gsett o d s).t⟩ := rfl
  rw [hX]
  generalize gstep o d (gsett o d s) = X at *
  have hNX := h.cpos hxc
  have hlin := fun {a : Nat} (ha : a < o.length) => h.lin (y := X) (by omega) (fun j hj hw a ha hb => hxm _ (.inl ⟨j, hj, a, ha, hw, hb, rfl⟩)) ha
  have hub : ∀ a, a < o.length -> ix (gsett o d s).t (a : Int) < 0 -> gcl d ⟨X, (gsett o d s).p, (gsett o d s).w, (gsett o d s).t⟩ a <= 2520 * ix o (a : Int) := fun a ha ht => by
    rw [hlin ha]
    have hl := (h.less ha ht).2
    rw [<- gcl_gsett (o := o)] at hl
    by_cases hs : 0 < gsp d (gsett o d s) a
    · obtain ⟨q, e1, e2, _, _⟩ := h.quo ha ht hs
      have hq := hxm _ (.inr ⟨a, ha, ht, hs, rfl⟩)
      rw [e2] at hq
      have hq : X - s.now <= q := by have : X <= s.now + q := hq; omega
      have := Int.mul_le_mul_of_nonneg_left hq (show (0 : Int) <= (gsp d (gsett o d s) a : Nat) by omega)
      unfold grest at e1
      omega
    · rw [show gsp d (gsett o d s) a = 0 by omega]
      simp; omega
  have htb : ∀ a, a < o.length -> -1 <= ix (gsett o d s).t (a : Int) /\ ix (gsett o d s).t (a : Int) <= s.now := fun a ha => by
    have e := gti_ix (d := d) (s := s) ha
    have e2 : ix (gsett o d s).t (a : Int) = ix (gti o d s) (a : Int) := rfl
    have := h.ts a ha
    rw [e2, e]; split <;> omega
  have hbd : X <= 498960 := by
    obtain ⟨j, hj, hw⟩ := hm
    by_cases hb : ∃ a, a < o.length /\ s.now < 2520 * ix (ix d (j : Int)) (a : Int)
    · obtain ⟨a, ha, hb⟩ := hb
      have := hxm _ (.inl ⟨j, hj, a, ha, hw, hb, rfl⟩)
      have := h.ent hj ha
      omega
    · have hn := h.f.n1
      have h0 : 2520 * ix (ix d (j : Int)) ((0 : Nat) : Int) <= s.now := Int.not_lt.1 (fun hh => hb ⟨0, hn, hh⟩)
      have ht : ix (gsett o d s).t ((0 : Nat) : Int) < 0 := Int.not_le.1 (fun ht => by
        have h1 := h.sz hj hw
        have h2 := set_w (o := o) (s := s) hj
        rw [if_pos h1.1] at h2
        have h3 : 0 <= wit o d s j := witF_pos (a := 0) ⟨ht, h0⟩ hn
        omega)
      have h1 := hub 0 hn ht
      have h2 : clmT d (gpr d ⟨X, (gsett o d s).p, (gsett o d s).w, (gsett o d s).t⟩) 2520 ((0 : Nat) : Int) j <= gcl d ⟨X, (gsett o d s).p, (gsett o d s).w, (gsett o d s).t⟩ 0 := sumN_get (clmT_nn _ _ _ _) (by rw [gpr_len]; exact hj)
      have h3 : clmT d (gpr d ⟨X, (gsett o d s).p, (gsett o d s).w, (gsett o d s).t⟩) 2520 ((0 : Nat) : Int) j = max 0 (ix (gpr d ⟨X, (gsett o d s).p, (gsett o d s).w, (gsett o d s).t⟩) (j : Int) - 2520 * ix (ix d (j : Int)) ((0 : Nat) : Int)) := rfl
      rw [gpr_ix hj] at h3
      simp only [hw, if_true] at h3
      have := h.ent hj hn
      have := h.opn hn
      omega
  refine ⟨⟨h.f, tab_len _ _, tab_len _ _, tab_len _ _, ⟨by omega, hbd⟩, fun j hj => h.sw hj, fun j hj hw => (h.sz hj hw).2, fun j hj hw => ?_, fun a ha => ?_, hub, ?_⟩, hNX⟩
  · have := (h.sp hj hw).1; exact ⟨this.1, Int.lt_of_le_of_lt this.2 hNX⟩
  · have := htb a ha; exact ⟨this.1, Int.le_of_lt (Int.lt_of_le_of_lt this.2 hNX)⟩
  · -- what divides
    have h8 := h.cnt8 (gsett o d s)
    have hle1 : ∀ j, j < d.length -> (ix (gsett o d ⟨X, (gsett o d s).p, (gsett o d s).w, (gsett o d s).t⟩).w (j : Int) < 0 -> ix (gsett o d s).w (j : Int) < 0) := fun j hj hw => by
      rw [set_w hj] at hw
      have e : ix (gsett o d s).w (j : Int) = ix (St.mk X (gsett o d s).p (gsett o d s).w (gsett o d s).t).w (j : Int) := rfl
      split at hw
      · rename_i h1; exact h1
      · exact hw
    have hmono : gcnt d (gsett o d ⟨X, (gsett o d s).p, (gsett o d s).w, (gsett o d s).t⟩) <= gcnt d (gsett o d s) := by
      have := cN_add (f := fun j => decide (ix (gsett o d ⟨X, (gsett o d s).p, (gsett o d s).w, (gsett o d s).t⟩).w (j : Int) < 0)) (g := fun _ => false) (h := fun j => decide (ix (gsett o d s).w (j : Int) < 0)) (n := d.length) (fun j hj => by
        by_cases h1 : ix (gsett o d ⟨X, (gsett o d s).p, (gsett o d s).w, (gsett o d s).t⟩).w (j : Int) < 0
        · simp [h1, hle1 j hj h1]
        · simp [h1])
      unfold gcnt; omega
    have hgoal : ∀ r1, gcnt d (gsett o d ⟨X, (gsett o d s).p, (gsett o d s).w, (gsett o d s).t⟩) = r1 -> LL r1 ∣ X /\ ∀ j, j < d.length -> 0 <= ix (gsett o d s).w (j : Int) -> LL r1 ∣ ix (gsett o d s).p (j : Int) := fun r1 hr1 => by
      rw [hr1] at hmono
      have hd1 := LL_mono _ h8 r1 (by omega)
      refine ⟨?_, fun j hj hw => Int.dvd_trans hd1 (h.sp hj hw).2⟩
      rcases hxc with ⟨j, hj, a, ha, hw, _, e⟩ | ⟨a, ha, ht, hs, e⟩
      · rw [e]; exact Int.dvd_trans (LL_unit _ (by omega)) (Int.dvd_mul_right _ _)
      · obtain ⟨q, e1, e2, e3, e4⟩ := h.quo ha ht hs
        rw [e2] at e
        have hXe : X = s.now + q := e
        have hle := gsp_le (d := d) (gsett o d s) a
        have hcl : gcl d ⟨X, (gsett o d s).p, (gsett o d s).w, (gsett o d s).t⟩ a = 2520 * ix o (a : Int) := by
          rw [hlin ha, show X - s.now = q by omega, <- e1]; unfold grest; omega
        have htight : 0 <= ix (gti o d ⟨X, (gsett o d s).p, (gsett o d s).w, (gsett o d s).t⟩) (a : Int) := by
          rw [gti_ix ha, if_pos ⟨ht, hcl⟩]; show 0 <= X; omega
        have hcnt : r1 + gsp d (gsett o d s) a <= gcnt d (gsett o d s) := by
          rw [<- hr1]
          refine cN_add (fun j hj => ?_)
          by_cases hg : gspB d (gsett o d s) a j = true
          · have hg2 := hg
            unfold gspB at hg2
            have hg2 := of_decide_eq_true hg2
            have hle2 : 2520 * ix (ix d (j : Int)) (a : Int) <= s.now := hg2.2
            have hst : 0 <= ix (gsett o d ⟨X, (gsett o d s).p, (gsett o d s).w, (gsett o d s).t⟩).w (j : Int) := by
              rw [set_w hj, if_pos hg2.1]
              exact witF_pos (a := a) ⟨htight, by show _ <= X; omega⟩ ha
            have hst' : ¬ ix (gsett o d ⟨X, (gsett o d s).p, (gsett o d s).w, (gsett o d s).t⟩).w (j : Int) < 0 := by omega
            simp only [hst', decide_false, hg, hg2.1, decide_true]
            decide
          · have hg : gspB d (gsett o d s) a j = false := by simpa using hg
            by_cases h1 : ix (gsett o d ⟨X, (gsett o d s).p, (gsett o d s).w, (gsett o d s).t⟩).w (j : Int) < 0
            · simp [h1, hle1 j hj h1, hg]
            · simp [h1, hg]
        have hd2 := LL_mono _ h8 (gcnt d (gsett o d s) - gsp d (gsett o d s) a) (by omega)
        have hd3 := LL_mono (gcnt d (gsett o d s) - gsp d (gsett o d s) a) (by omega) r1 (by omega)
        rw [hXe]
        exact Int.dvd_add (Int.dvd_trans hd1 h.dv.1) (Int.dvd_trans hd3 e4)
    exact hgoal _ rfl
theorem st0_inv {o : List Int} {d : List (List Int)} (hf : FieldOK o d) : GInv o d (st0 o.length d.length) := by
  refine ⟨hf, List.length_replicate, List.length_replicate, List.length_replicate, by show (0 : Int) <= 0 /\ (0 : Int) <= 498960; omega, fun j hj => ?_, fun j hj _ => ?_, fun j hj hw => ?_, fun a ha => ?_, fun a ha _ => ?_, Int.dvd_zero _, fun j hj hw => ?_⟩
  · rw [show ix (st0 o.length d.length).w (j : Int) = -1 from ix_replicate _ _ hj]; have := hf.n1; omega
  · exact ix_replicate _ _ hj
  · rw [show ix (st0 o.length d.length).w (j : Int) = -1 from ix_replicate _ _ hj] at hw; omega
  · rw [show ix (st0 o.length d.length).t (a : Int) = -1 from ix_replicate _ _ ha]; show _ /\ _ <= (0 : Int); omega
  · have e : gcl d (st0 o.length d.length) a = 0 := by
      refine sumN_zero (fun j hj => ?_)
      rw [gpr_len] at hj
      unfold clmT
      rw [gpr_ix hj, show ix (st0 o.length d.length).w (j : Int) = -1 from ix_replicate _ _ hj, if_pos (by omega)]
      have hr := ix_mem d hj
      have := hf.len _ hr
      have := hf.d99 _ hr _ (ix_mem (ix d (j : Int)) (k := a) (by omega))
      show max 0 (0 - _) = 0
      omega
    rw [e]
    have := hf.o99 _ (ix_mem o ha)
    omega
  · rw [show ix (st0 o.length d.length).w (j : Int) = -1 from ix_replicate _ _ hj] at hw; omega
def Going (o : List Int) (d : List (List Int)) (s : St) : Prop := GInv o d s /\ ∃ k : Nat, (k : Int) <= s.now /\ runF o d (1000000 - k) s = grown o d
theorem going0 {o : List Int} {d : List (List Int)} (hf : FieldOK o d) : Going o d (st0 o.length d.length) := ⟨st0_inv hf, 0, Int.le_refl _, rfl⟩
theorem Going.next {o : List Int} {d : List (List Int)} {s : St} (h : Going o d s) (hm : movingP d (gsett o d s)) : Going o d (Go.Vc.adv o d (gsett o d s)) /\ s.now < (Go.Vc.adv o d (gsett o d s)).now := by
  obtain ⟨hi, k, hk, e⟩ := h
  obtain ⟨h1, h2⟩ := hi.adv hm
  have hn := hi.n0
  refine ⟨⟨h1, k + 1, by omega, ?_⟩, h2⟩
  rw [<- e, show 1000000 - k = (1000000 - (k + 1)) + 1 by omega]
  show _ = if movingP d (gsett o d s) then _ else _
  rw [if_pos hm]
theorem Going.done {o : List Int} {d : List (List Int)} {s : St} (h : Going o d s) (hm : ¬ movingP d (gsett o d s)) : gsett o d s = grown o d := by
  obtain ⟨hi, k, hk, e⟩ := h
  have hn := hi.n0
  rw [<- e, show 1000000 - k = (1000000 - (k + 1)) + 1 by omega]
  show _ = if movingP d (gsett o d s) then _ else _
  rw [if_neg hm]
end
end Go.Vc
namespace Go.Vc
set_option linter.unusedSimpArgs false
set_option linter.unusedVariables false
def stB (w : List Int) : List Bool := w.map fun x => decide (0 <= x)
def stW (w : List Int) : List Int := w.map fun x => max 0 x
def unW (bs : List Bool) (wt : List Int) : List Int := tab bs.length fun j => if ix bs (j : Int) = true then ix wt (j : Int) else -1
theorem stB_len (w : List Int) : (stB w).length = w.length := List.length_map _
theorem stW_len (w : List Int) : (stW w).length = w.length := List.length_map _
theorem stB_ix {w : List Int} {j : Nat} (h : j < w.length) : ix (stB w) (j : Int) = decide (0 <= ix w (j : Int)) := ix_map _ _ h
theorem stW_ix {w : List Int} {j : Nat} (h : j < w.length) : ix (stW w) (j : Int) = max 0 (ix w (j : Int)) := ix_map _ _ h
theorem unW_st {w : List Int} (h : ∀ j, j < w.length -> -1 <= ix w (j : Int)) : unW (stB w) (stW w) = w := by
  refine (tab_eq (n := (stB w).length) (by rw [stB_len]) (fun k hk => ?_)).symm
  rw [stB_len] at hk
  rw [stB_ix hk, stW_ix hk]
  have := h k hk
  by_cases h0 : 0 <= ix w (k : Int)
  · simp [h0]; omega
  · simp [h0]; omega
section
variable {o : List Int} {d : List (List Int)} {s : St}
theorem GInv.un (h : GInv o d s) : St.mk s.now s.p (unW (stB s.w) (stW s.w)) s.t = s := by
  rw [unW_st (fun j hj => (h.ws j (by rw [h.lw] at hj; exact hj)).1)]
theorem GInv.un2 (h : GInv o d s) : St.mk (gsett o d s).now (gsett o d s).p (unW (stB (gsett o d s).w) (stW (gsett o d s).w)) (gsett o d s).t = gsett o d s := by
  rw [unW_st (fun j hj => (h.sw (by rw [show (gsett o d s).w.length = d.length from tab_len _ _] at hj; exact hj)).1)]
theorem gpr_view {t : St} (hp : t.p.length = d.length) (hw : t.w.length = d.length) : (tab t.p.length fun j => if ix (stB t.w) (j : Int) = true then ix t.p (j : Int) else t.now) = gpr d t := by
  rw [hp]
  refine tab_congr (fun j hj => ?_)
  rw [stB_ix (by omega)]
  by_cases h : ix t.w (j : Int) < 0
  · rw [if_pos h, if_neg (by simp; omega)]
  · rw [if_neg h, if_pos (by simp; omega)]
theorem gsp_view {t : St} (hw : t.w.length = d.length) (a : Nat) : cN (fun j => !(ix (stB t.w) (j : Int)) && decide (2520 * ix (ix d (j : Int)) (a : Int) <= t.now)) d.length = gsp d t a := by
  have cN_congr : ∀ {f g : Nat -> Bool} {n : Nat}, (∀ j, j < n -> f j = g j) -> cN f n = cN g n := fun {f g} => by
    intro n
    induction n with
    | zero => intro _; rfl
    | succ n ih => intro h; simp only [cN]; rw [ih (fun j hj => h j (by omega)), h n (by omega)]
  refine cN_congr (fun j hj => ?_)
  rw [stB_ix (by omega)]
  unfold gspB
  by_cases h : ix t.w (j : Int) < 0
  · have : ¬ 0 <= ix t.w (j : Int) := by omega
    simp [h, this]
  · have : 0 <= ix t.w (j : Int) := by omega
    simp [h, this]
end
def brkP (o : List Int) (d : List (List Int)) (now : Int) (bs : List Bool) (j : Nat) (c : Int) : Prop := ∃ j', j' < j /\ ∃ a : Nat, a < o.length /\ ix bs (j' : Int) = false /\ now < c /\ c = 2520 * ix (ix d (j' : Int)) (a : Int)
def brkL (o : List Int) (d : List (List Int)) (now : Int) (bs : List Bool) : List Int :=
  (List.range d.length).flatMap fun (j : Nat) => (List.range o.length).filterMap fun (a : Nat) => if ix bs (j : Int) = false /\ now < 2520 * ix (ix d (j : Int)) (a : Int) then some (2520 * ix (ix d (j : Int)) (a : Int)) else none
theorem brkL_mem (o : List Int) (d : List (List Int)) (now : Int) (bs : List Bool) (c : Int) : c ∈ brkL o d now bs ↔ brkP o d now bs d.length c := by
  unfold brkL brkP
  constructor
  · intro h
    obtain ⟨j, hj, h⟩ := List.mem_flatMap.1 h
    obtain ⟨a, ha, h⟩ := List.mem_filterMap.1 h
    split at h
    · rename_i hc; cases h; exact ⟨j, List.mem_range.1 hj, a, List.mem_range.1 ha, hc.1, hc.2, rfl⟩
    · cases h
  · rintro ⟨j, hj, a, ha, h1, h2, rfl⟩
    exact List.mem_flatMap.2 ⟨j, List.mem_range.2 hj, List.mem_filterMap.2 ⟨a, List.mem_range.2 ha, by rw [if_pos ⟨h1, h2⟩]⟩⟩
theorem brk_is (o : List Int) (d : List (List Int)) {now : Int} (bs : List Bool) (h : 0 <= now) : IsMn (mn (brkL o d now bs) (-1)) (brkP o d now bs d.length) := by
  have := mn_is (brkL o d now bs) (-1) _ IsMn.none (fun c hc => by obtain ⟨_, _, _, _, _, h1, _⟩ := (brkL_mem o d now bs c).1 hc; omega)
  exact this.congr (fun c => by rw [brkL_mem]; simp)
theorem brk_cand {o : List Int} {d : List (List Int)} {t : St} (hw : t.w.length = d.length) (c : Int) : brkP o d t.now (stB t.w) d.length c ↔ cand1 o d t c := by
  unfold brkP cand1
  refine exists_congr fun j => and_congr_right fun hj => exists_congr fun a => and_congr_right fun _ => and_congr_left fun _ => ?_
  rw [stB_ix (by omega)]; simp
def candA (o : List Int) (d : List (List Int)) (t : St) (k : Nat) (c : Int) : Prop := cand1 o d t c \/ ∃ a, a < k /\ ix t.t (a : Int) < 0 /\ 0 < gsp d t a /\ c = t.now + (grest o d t a).tdiv (gsp d t a)
theorem candA_all (o : List Int) (d : List (List Int)) (t : St) (c : Int) : candA o d t o.length c ↔ cand1 o d t c \/ cand2 o d t c := Iff.rfl
theorem candA_zero (o : List Int) (d : List (List Int)) (t : St) (c : Int) : candA o d t 0 c ↔ cand1 o d t c := by unfold candA; simp
theorem candA_no {o : List Int} {d : List (List Int)} {t : St} {k : Nat} (h : ¬ (ix t.t (k : Int) < 0 /\ 0 < gsp d t k)) (c : Int) : candA o d t k c ↔ candA o d t (k + 1) c := by
  unfold candA
  refine or_congr Iff.rfl ⟨fun ⟨a, ha, h1⟩ => ⟨a, by omega, h1⟩, fun ⟨a, ha, h1⟩ => ?_⟩
  by_cases e : a = k
  · subst e; exact (h ⟨h1.1, h1.2.1⟩).elim
  · exact ⟨a, by omega, h1⟩
theorem candA_yes {o : List Int} {d : List (List Int)} {t : St} {k : Nat} (h : ix t.t (k : Int) < 0 /\ 0 < gsp d t k) (c : Int) : candA o d t (k + 1) c ↔ candA o d t k c \/ c = t.now + (grest o d t k).tdiv (gsp d t k) := by
  unfold candA
  constructor
  · rintro (h1 | ⟨a, ha, h1⟩)
    · exact .inl (.inl h1)
    · by_cases e : a = k
      · subst e; exact .inr h1.2.2
      · exact .inl (.inr ⟨a, by omega, h1⟩)
  · rintro ((h1 | ⟨a, ha, h1⟩) | h1)
    · exact .inl h1
    · exact .inr ⟨a, by omega, h1⟩
    · exact .inr ⟨k, by omega, h.1, h.2, h1⟩
end Go.Vc
namespace Go.Vc
set_option linter.unusedSimpArgs false
set_option linter.unusedVariables false
set_option linter.unusedSectionVars false

theorem over_same {α : Type} [Inhabited α] {ys xs : List α} {k : Nat} (hl : xs.length = ys.length) (h : k < xs.length) (e : ix ys (k : Int) = ix xs (k : Int)) : over ys xs (k + 1) = over ys xs k := by
  unfold over
  rw [List.take_add_one, ix_some ys (by omega), e, List.append_assoc, drop_ix xs h]; rfl
theorem IsMn.le {x b : Int} {P : Int -> Prop} (h : IsMn x P) (hb : -1 <= b) (hP : ∀ c, P c -> c <= b) : x <= b := by
  rcases h with ⟨rfl, _⟩ | ⟨_, h1, _⟩
  · exact hb
  · exact hP _ h1
theorem IsMn.ge {x : Int} {P : Int -> Prop} (h : IsMn x P) : -1 <= x := by
  rcases h with ⟨rfl, _⟩ | ⟨h1, _, _⟩ <;> omega
theorem mul7 {sp : Nat} {y : Int} (h : sp <= 7) (h1 : -1000000 <= y) (h2 : y <= 1000000) : -7000000 <= (sp : Int) * y /\ (sp : Int) * y <= 7000000 := by
  rcases (by omega : sp = 0 \/ sp = 1 \/ sp = 2 \/ sp = 3 \/ sp = 4 \/ sp = 5 \/ sp = 6 \/ sp = 7) with rfl | rfl | rfl | rfl | rfl | rfl | rfl | rfl <;> omega
theorem gsp7 {d : List (List Int)} (h : d.length <= 7) (t : St) (a : Nat) : gsp d t a <= 7 := Nat.le_trans (cN_le _ _) h
theorem gcl_bd {o : List Int} {d : List (List Int)} {s : St} (h : GInv o d s) {a : Nat} (ha : a < o.length) : 0 <= gcl d s a /\ gcl d s a <= 7000000 := by
  refine ⟨h.gcl0 a, ?_⟩
  have hm := h.f.m7
  have := sumN_bd (f := clmT d (gpr d s) 2520 (a : Int)) (lo := 0) (hi := 1000000) (n := (gpr d s).length) (fun j hj => by
    have h1 := clmT_nn d (gpr d s) 2520 (a : Int) j
    have h2 := h.clm.p0 j hj
    rw [gpr_len] at hj
    have h3 := h.ent hj ha
    refine ⟨h1, ?_⟩
    unfold clmT; omega)
  rw [gpr_len] at this
  have e : gcl d s a = sumN (clmT d (gpr d s) 2520 (a : Int)) (gpr d s).length := rfl
  rw [e, gpr_len]
  omega
theorem GInv.cand_bd {o : List Int} {d : List (List Int)} {s : St} (h : GInv o d s) {k : Nat} (hk : k <= o.length) {c : Int} (hc : candA o d (gsett o d s) k c) : c <= 748440 := by
  have hn := h.n0
  rcases hc with ⟨j, hj, a, ha, _, _, rfl⟩ | ⟨a, ha, ht, hs, rfl⟩
  · have := h.ent hj ha; omega
  · obtain ⟨q, e1, e2, e3, _⟩ := h.quo (by omega) ht hs
    rw [e2]
    have h1 := h.opn (a := a) (by omega)
    have h2 := h.gcl0 a
    have h3 := gcl_gsett (o := o) (d := d) (s := s) a
    have e4 : grest o d (gsett o d s) a = 2520 * ix o (a : Int) - gcl d (gsett o d s) a := rfl
    have h5 := Int.mul_le_mul_of_nonneg_right (show (1 : Int) <= (gsp d (gsett o d s) a : Nat) by omega) (show 0 <= q by omega)
    show s.now + q <= 748440
    omega

end Go.Vc
namespace Go.Proofs.YteefjdbdknkcjaaGreat
open Go.Vc
set_option maxRecDepth 100000
set_option linter.unusedSimpArgs false
set_option linter.unusedVariables false

def cmpZ (x y : Int) : Int := if x < y then -1 else if y < x then 1 else 0
def cmpL : List Int -> List Int -> Int
  | [], [] => 0
  | [], _ :: _ => -1
  | _ :: _, [] => 1
  | x :: r, y :: s => if cmpZ x y ≠ 0 then cmpZ x y else cmpL r s
def cmpS (a b : List Int) : Int := if cmpZ a.length b.length ≠ 0 then cmpZ a.length b.length else cmpL a b
theorem cmpZ_anti (x y : Int) : cmpZ y x = - cmpZ x y := by unfold cmpZ; split <;> split <;> omega
theorem cmpZ_zero {x y : Int} (h : cmpZ x y = 0) : x = y := by unfold cmpZ at h; split at h <;> (try split at h) <;> omega
theorem cmpZ_trans {x y z : Int} (h : cmpZ x y < 0) (k : cmpZ y z < 0) : cmpZ x z < 0 := by
  unfold cmpZ at *; split at h <;> (try split at h) <;> split at k <;> (try split at k) <;> (try omega)
theorem cmpZ_self (x : Int) : cmpZ x x = 0 := by unfold cmpZ; rw [if_neg (by omega), if_neg (by omega)]
theorem cmpL_anti : ∀ a b : List Int, cmpL b a = - cmpL a b
  | [], [] => rfl
  | [], _ :: _ => rfl
  | _ :: _, [] => rfl
  | x :: r, y :: s => by
    unfold cmpL
    have := cmpZ_anti x y
    by_cases h : cmpZ x y = 0
    · rw [if_neg (by omega), if_neg (by omega), cmpL_anti r s]
    · rw [if_pos (by omega), if_pos (by omega), this]
theorem cmpL_zero : ∀ {a b : List Int}, cmpL a b = 0 -> a = b
  | [], [], _ => rfl
  | [], _ :: _, h => by simp [cmpL] at h
  | _ :: _, [], h => by simp [cmpL] at h
  | x :: r, y :: s, h => by
    unfold cmpL at h
    split at h
    · omega
    · rename_i h1
      rw [cmpZ_zero (x := x) (y := y) (by omega), cmpL_zero h]
theorem cmpL_trans : ∀ {a b c : List Int}, cmpL a b < 0 -> cmpL b c < 0 -> cmpL a c < 0
  | [], [], _, h, _ => by simp [cmpL] at h
  | [], _ :: _, [], _, k => by simp [cmpL] at k
  | [], _ :: _, _ :: _, _, _ => by simp [cmpL]
  | _ :: _, [], _, h, _ => by simp [cmpL] at h
  | _ :: _, _ :: _, [], _, k => by simp [cmpL] at k
  | x :: r, y :: s, z :: t, h, k => by
    unfold cmpL at h k ⊢
    by_cases h1 : cmpZ x y = 0
    · have e := cmpZ_zero h1
      subst e
      rw [if_neg (by omega)] at h
      by_cases h2 : cmpZ x z = 0
      · rw [if_neg (by omega)] at k ⊢
        exact cmpL_trans h k
      · rw [if_pos h2] at k ⊢
        exact k
    · rw [if_pos h1] at h
      by_cases h2 : cmpZ y z = 0
      · have e := cmpZ_zero h2
        subst e
        rw [if_pos h1]; exact h
      · rw [if_pos h2] at k
        have := cmpZ_trans h k
        rw [if_pos (by omega)]; exact this
theorem cmpS_anti (a b : List Int) : cmpS b a = - cmpS a b := by
  unfold cmpS
  have := cmpZ_anti a.length b.length
  by_cases h : cmpZ (a.length : Int) b.length = 0
  · rw [if_neg (by omega), if_neg (by omega), cmpL_anti a b]
  · rw [if_pos (by omega), if_pos (by omega), this]
theorem cmpS_zero {a b : List Int} (h : cmpS a b = 0) : a = b := by
  unfold cmpS at h
  split at h
  · omega
  · exact cmpL_zero h
theorem cmpL_self : ∀ a : List Int, cmpL a a = 0
  | [] => rfl
  | x :: r => by unfold cmpL; rw [if_neg (by rw [cmpZ_self]; simp), cmpL_self r]
theorem cmpS_self (a : List Int) : cmpS a a = 0 := by unfold cmpS; rw [if_neg (by rw [cmpZ_self]; simp), cmpL_self]
theorem cmpS_trans {a b c : List Int} (h : cmpS a b < 0) (k : cmpS b c < 0) : cmpS a c < 0 := by
  unfold cmpS at *
  by_cases h1 : cmpZ (a.length : Int) b.length = 0
  · have e := cmpZ_zero h1
    rw [if_neg (by omega)] at h
    by_cases h2 : cmpZ (b.length : Int) c.length = 0
    · have h3 : cmpZ (a.length : Int) c.length = 0 := by rw [e]; exact h2
      rw [if_neg (by omega)] at k ⊢
      exact cmpL_trans h k
    · have h3 : cmpZ (a.length : Int) c.length = cmpZ (b.length : Int) c.length := by rw [e]
      rw [if_pos h2] at k
      rw [if_pos (by omega), h3]; exact k
  · rw [if_pos h1] at h
    by_cases h2 : cmpZ (b.length : Int) c.length = 0
    · have e := cmpZ_zero h2
      have h3 : cmpZ (a.length : Int) c.length = cmpZ (a.length : Int) b.length := by rw [<- e]
      rw [if_pos (by omega), h3]; exact h
    · rw [if_pos h2] at k
      have := cmpZ_trans h k
      rw [if_pos (by omega)]; exact this
def leS (x y : List Int) : Bool := !decide (cmpS y x < 0)
def sortS (xss : List (List Int)) : List (List Int) := xss.mergeSort leS
theorem leS_trans (a b c : List Int) (h : leS a b = true) (k : leS b c = true) : leS a c = true := by
  unfold leS at *
  simp only [Bool.not_eq_true', decide_eq_false_iff_not] at *
  intro h1
  have e1 := cmpS_anti a b
  have e2 := cmpS_anti b c
  by_cases z1 : cmpS a b = 0
  · have := cmpS_zero z1; subst this; exact k h1
  · by_cases z2 : cmpS b c = 0
    · have := cmpS_zero z2; subst this; exact h h1
    · have := cmpS_trans (a := a) (b := b) (c := c) (by omega) (by omega)
      have e3 := cmpS_anti a c
      omega
theorem sortS_perm (xss : List (List Int)) : (sortS xss).Perm xss := List.mergeSort_perm _ _
def posS (x : List Int) (out : List (List Int)) : Nat -> Nat
  | 0 => 0
  | k + 1 => if cmpS x (ix out (k : Int)) < 0 then posS x out k else k + 1
def insS (x : List Int) (out : List (List Int)) : List (List Int) := out.take (posS x out out.length) ++ [x] ++ out.drop (posS x out out.length)
def foldS (xss : List (List Int)) : Nat -> List (List Int)
  | 0 => []
  | k + 1 => insS (ix xss (k : Int)) (foldS xss k)
end Go.Proofs.YteefjdbdknkcjaaGreat
namespace Go.Proofs.YteefjdbdknkcjaaGreat
open Go.Vc Go.RowKit Go.Shelf
set_option maxRecDepth 100000
set_option linter.unusedSimpArgs false
set_option linter.unusedVariables false

def cutF (lt : Int -> Int -> Bool) (S : List Int) (x : Int) : Nat -> Nat
  | 0 => 0
  | j + 1 => if lt x (ix S (j : Int)) = true then cutF lt S x j else j + 1
theorem cutF_s (lt : Int -> Int -> Bool) (S : List Int) (x : Int) (j : Nat) : cutF lt S x (j + 1) = if lt x (ix S (j : Int)) = true then cutF lt S x j else j + 1 := rfl
theorem cutF_le (lt : Int -> Int -> Bool) (S : List Int) (x : Int) : ∀ j, cutF lt S x j <= j
  | 0 => Nat.le_refl _
  | j + 1 => by have := cutF_le lt S x j; unfold cutF; split <;> omega
def insL (lt : Int -> Int -> Bool) (S : List Int) (x : Int) : List Int := S.take (cutF lt S x S.length) ++ x :: S.drop (cutF lt S x S.length)
theorem insL_len (lt : Int -> Int -> Bool) (S : List Int) (x : Int) : (insL lt S x).length = S.length + 1 := by
  have := cutF_le lt S x S.length
  unfold insL; simp; omega
def insF (lt : Int -> Int -> Bool) : List Int -> List Int := List.foldl (insL lt) []
theorem foldl_len (lt : Int -> Int -> Bool) : ∀ (xs S : List Int), (xs.foldl (insL lt) S).length = S.length + xs.length
  | [], S => rfl
  | x :: xs, S => by rw [List.foldl_cons, foldl_len lt xs, insL_len]; simp; omega
theorem insF_len (lt : Int -> Int -> Bool) (xs : List Int) : (insF lt xs).length = xs.length := by unfold insF; rw [foldl_len]; simp
theorem insF_succ (lt : Int -> Int -> Bool) {xs : List Int} {i : Nat} (h : i < xs.length) : insF lt (xs.take (i + 1)) = insL lt (insF lt (xs.take i)) (ix xs (i : Int)) := by
  unfold insF
  rw [take_ix xs h, List.foldl_append]; rfl
theorem ix_ins {S : List Int} {x : Int} {c q : Nat} (hc : c <= S.length) (hq : q <= S.length) : ix (S.take c ++ x :: S.drop c) (q : Int) = if q < c then ix S (q : Int) else if q = c then x else ix S ((q - 1 : Nat) : Int) := by
  have hl : (S.take c ++ x :: S.drop c).length = S.length + 1 := by simp; omega
  have h1 := ix_some (S.take c ++ x :: S.drop c) (k := q) (by omega)
  have ht : (S.take c).length = c := by simp; omega
  by_cases e1 : q < c
  · rw [if_pos e1]
    rw [List.getElem?_append_left (by omega), List.getElem?_take_of_lt e1, ix_some S (by omega)] at h1
    exact (Option.some.inj h1).symm
  · rw [if_neg e1]
    rw [List.getElem?_append_right (by omega), ht] at h1
    by_cases e2 : q = c
    · subst e2
      rw [if_pos rfl]
      rw [Nat.sub_self] at h1
      exact (Option.some.inj h1).symm
    · rw [if_neg e2]
      rw [show q - c = (q - c - 1) + 1 by omega, List.getElem?_cons_succ, List.getElem?_drop, show c + (q - c - 1) = q - 1 by omega, ix_some S (by omega)] at h1
      exact (Option.some.inj h1).symm

structure RowF (w wr : World) (g : Nat) (el : TypeId) (sz n : Nat) (F : Nat -> Int) : Prop where
  blk : ∃ cs' : Array Value, wr.heap[g]? = some (.cells cs' el (0, 0)) /\ cs'.size = sz /\ ∀ q : Nat, q < n -> cs'[q]? = some (.int .i64 (F q))
  oth : ∀ b, b ≠ g -> wr.heap[b]? = w.heap[b]?
  size : wr.heap.size = w.heap.size
  os : wr.os = w.os
  tape : wr.tape = w.tape
  output : wr.output = w.output
  drawn : w.drawn <= wr.drawn
section
variable {w wr : World} {g : Nat} {el : TypeId} {sz n : Nat} {F : Nat -> Int}
theorem RowF.cell (h : RowF w wr g el sz n F) {q : Nat} (hq : q < n) : wr.cell? ⟨g, q, none⟩ = some (.int .i64 (F q)) := by
  obtain ⟨cs, h1, h2, h3⟩ := h.blk
  show (match wr.heap[g]? with | some (.cells c _ _) => if (none : Option _).isSome then none else c[q]? | _ => none) = _
  rw [h1]; exact h3 q hq
theorem RowF.frozen (h : RowF w wr g el sz n F) (q : Nat) : wr.frozen? ⟨g, q, none⟩ = false := by
  obtain ⟨cs, h1, h2, h3⟩ := h.blk
  simp [World.frozen?, h1]
theorem RowF.set (h : RowF w wr g el sz n F) {q : Nat} (hq : q < n) (v : Int) : RowF w (wr.setCell ⟨g, q, none⟩ (.int .i64 v)) g el sz n (fun r => if r = q then v else F r) := by
  obtain ⟨cs, h1, h2, h3⟩ := h.blk
  have hin : q < cs.size := (Array.getElem?_eq_some_iff.1 (h3 q hq)).1
  refine ⟨⟨cs.setIfInBounds q (.int .i64 v), by simp [World.setCell, Array.getElem?_modify, h1], by simp [h2], fun r hr => ?_⟩, fun b hb => by rw [Below.heap_setCell _ _ _ _ hb]; exact h.oth b hb, ?_, h.os, h.tape, h.output, h.drawn⟩
  · rw [Array.getElem?_setIfInBounds]
    by_cases e : q = r
    · subst e; rw [if_pos rfl, if_pos hin, if_pos rfl]
    · rw [if_neg e, if_neg (fun e2 => e e2.symm)]; exact h3 r hr
  · have : (wr.setCell ⟨g, q, none⟩ (.int .i64 v)).heap.size = wr.heap.size := by simp [World.setCell]
    exact this.trans h.size
theorem RowF.drew (h : RowF w wr g el sz n F) : RowF w wr.drew g el sz n F := ⟨h.blk, h.oth, h.size, h.os, h.tape, h.output, Nat.le_trans h.drawn (Nat.le_succ _)⟩
theorem RowF.drewN (h : RowF w wr g el sz n F) (k : Nat) : RowF w (wr.drewN k) g el sz n F := ⟨h.blk, h.oth, h.size, h.os, h.tape, h.output, Nat.le_trans h.drawn (Nat.le_add_right _ _)⟩
theorem RowF.congr (h : RowF w wr g el sz n F) {F' : Nat -> Int} (e : ∀ q, q < n -> F q = F' q) : RowF w wr g el sz n F' := by
  obtain ⟨cs, h1, h2, h3⟩ := h.blk
  exact ⟨⟨cs, h1, h2, fun q hq => by rw [h3 q hq, e q hq]⟩, h.oth, h.size, h.os, h.tape, h.output, h.drawn⟩
end
def swF (S : List Int) (x : Int) (xs : List Int) (i j q : Nat) : Int := if q < j then ix S (q : Int) else if q = j then x else if q <= i then ix S ((q - 1 : Nat) : Int) else ix xs (q : Int)
def prF (lt : Int -> Int -> Bool) (xs : List Int) (i q : Nat) : Int := if q < i then ix (insF lt (xs.take i)) (q : Int) else ix xs (q : Int)

theorem prF_one (lt : Int -> Int -> Bool) (xs : List Int) (q : Nat) : ix xs (q : Int) = prF lt xs 1 q := by
  unfold prF
  split
  · obtain rfl : q = 0 := by omega
    cases xs with
    | nil => rfl
    | cons x xs => rfl
  · rfl
theorem prF_sw (lt : Int -> Int -> Bool) (xs : List Int) (i q : Nat) : prF lt xs i q = swF (insF lt (xs.take i)) (ix xs (i : Int)) xs i i q := by
  unfold prF swF
  by_cases h1 : q < i
  · rw [if_pos h1, if_pos h1]
  · rw [if_neg h1, if_neg h1]
    by_cases h2 : q = i
    · subst h2; rw [if_pos rfl]
    · rw [if_neg h2, if_neg (by omega)]
theorem sw_a (S : List Int) (x : Int) (xs : List Int) (i j : Nat) : swF S x xs i (j + 1) (j + 1) = x := by unfold swF; simp
theorem sw_b (S : List Int) (x : Int) (xs : List Int) (i j : Nat) : swF S x xs i (j + 1) j = ix S (j : Int) := by unfold swF; simp
theorem sw_out {lt : Int -> Int -> Bool} {S xs : List Int} {x : Int} {i j : Nat} (hi : i < xs.length) (lS : S.length = i) (hS : S = insF lt (xs.take i)) (hx : x = ix xs (i : Int)) (hj : cutF lt S x S.length = j) (q : Nat) : swF S x xs i j q = prF lt xs (i + 1) q := by
  have hle := cutF_le lt S x S.length
  unfold prF swF
  rw [insF_succ lt hi, <- hS, <- hx]
  unfold insL
  rw [hj] at hle ⊢
  by_cases h1 : q < i + 1
  · rw [if_pos h1, ix_ins hle (by omega)]
    by_cases h2 : q < j
    · rw [if_pos h2, if_pos h2]
    · rw [if_neg h2, if_neg h2]
      by_cases h3 : q = j
      · rw [if_pos h3, if_pos h3]
      · rw [if_neg h3, if_neg h3, if_pos (by omega)]
  · rw [if_neg h1, if_neg (by omega), if_neg (by omega), if_neg (by omega)]
theorem sw_swap {S xs : List Int} {x : Int} {i j : Nat} (hj : j < i) (q : Nat) : (if q = j then x else if q = j + 1 then ix S (j : Int) else swF S x xs i (j + 1) q) = swF S x xs i j q := by
  unfold swF
  by_cases h1 : q = j
  · subst h1; rw [if_pos rfl, if_neg (by omega), if_pos rfl]
  · rw [if_neg h1]
    by_cases h2 : q = j + 1
    · subst h2; rw [if_pos rfl, if_neg (by omega), if_neg (by omega), if_pos (by omega), Nat.add_sub_cancel]
    · rw [if_neg h2]
      by_cases h3 : q < j
      · rw [if_pos (by omega), if_pos h3]
      · rw [if_neg (by omega), if_neg h2, if_neg h3, if_neg h1]
theorem nanW (x : Int) (w : World) : Calls Tryz.prog 124 #[.int .i64 x] w fun e w' => e = .returned (.bool false) /\ w' = w := by
  go_enter Tryz.func124, Tryz.ntmps124
  go_wp2
  all_goals first | (go_ret; exact ⟨rfl, rfl⟩) | skip
theorem lessW (x y : Int) (w : World) : Calls Tryz.prog 163 #[.int .i64 x, .int .i64 y] w fun e w' => e = .returned (.bool (decide (x < y))) /\ w' = w := by
  have c := fun x w => nanW x w
  have hc : ∀ args w, (callFunc 124 args).run Tryz.prog w = .ok (.enter 124 args) w := enters_of Tryz.func124 (by kernel_rfl) rfl
  go_enter Tryz.func163, Tryz.ntmps163
  go_wp2_with (go_at_call 124; refine (c _ _).mono ?_; rintro e w' ⟨rfl, hw⟩; rw [hw])
  go_ret
  exact ⟨rfl, rfl⟩
def ltI (x y : Int) : Bool := decide (x < y)
theorem insW (g cap : Nat) (el : TypeId) (sz : Nat) (xs : List Int) (w : World) (h0 : RowF w w g el sz xs.length (fun q => ix xs (q : Int))) (hn : xs.length <= 7) :
    Calls Tryz.prog 157 #[.slice (some ⟨g, 0, none⟩) xs.length cap, .int .i64 0, .int .i64 xs.length] w fun e w' => e = .returned (.tuple #[]) /\ RowF w w' g el sz xs.length (fun q => ix (insF ltI xs) (q : Int)) := by
  have c := fun x y w => lessW x y w
  have hc : ∀ args w, (callFunc 163 args).run Tryz.prog w = .ok (.enter 163 args) w := enters_of Tryz.func163 (by kernel_rfl) rfl
  generalize hnn : xs.length = n at *
  go_enter Tryz.func157, Tryz.ntmps157
  go_wp2
  go_loopg [6] n (fun m ii wr => ∃ i : Nat, m = n + 1 - i /\ 1 <= i /\ i <= n + 1 /\ ii = .int .i64 i /\ RowF w wr g el sz n (prF ltI xs i))
  case atStart => exact ⟨1, by omega, by omega, by omega, rfl, h0.congr (fun q hq => prF_one ltI xs q)⟩
  case round =>
    obtain ⟨i, rfl, hi1, hi2, rfl, hR⟩ := hrel
    go_wp2
    · have hlt : i < n := by omega
      obtain ⟨S, hS⟩ : ∃ S, S = insF ltI (xs.take i) := ⟨_, rfl⟩
      obtain ⟨x, hx⟩ : ∃ x, x = ix xs (i : Int) := ⟨_, rfl⟩
      have lS : S.length = i := by rw [hS, insF_len]; simp; omega
      have hR0 := hR.congr (F' := swF S x xs i i) (fun q _ => by rw [hS, hx]; exact prF_sw ltI xs i q)
      go_loopg [7] i (fun m jj wr => ∃ j : Nat, j = m /\ j <= i /\ jj = .int .i64 j /\ cutF ltI S x j = cutF ltI S x i /\ RowF w wr g el sz n (swF S x xs i j))
      case atStart => exact ⟨i, rfl, Nat.le_refl _, rfl, rfl, hR0⟩
      case round =>
        obtain ⟨j, rfl, hj, rfl, hcut, hR2⟩ := hrel
        obtain ⟨G, hG⟩ : ∃ G : Nat -> Int, ∀ t, G t = swF S x xs i j t := ⟨fun t => swF S x xs i j t, fun _ => rfl⟩
        have hcw : ∀ t, t < n -> wr.cell? ⟨g, t, none⟩ = some (.int .i64 (G t)) := fun t ht => by rw [hG]; exact hR2.cell ht
        have hfw : ∀ t, t < n -> wr.frozen? ⟨g, t, none⟩ = false := fun t _ => hR2.frozen t
        have HR : Hid (RowF w wr g el sz n (swF S x xs i j)) := hR2
        have HG : Hid (∀ t, G t = swF S x xs i j t) := hG
        have HC : Hid (cutF ltI S x j = cutF ltI S x i) := hcut
        have HS : Hid (S = insF ltI (xs.take i)) := hS
        have HX : Hid (x = ix xs (i : Int)) := hx
        clear hR2 hG hcut hR hR0 hS hx h0
        rcases j with _ | jp
        · go_wp2
          go_quiet (first | (go_at_call 163; refine Calls.quiet_of_same (c _ _ _)))
          go_wp2
          go_roundg (n + 1 - (i + 1))
          case measure => omega
          case rel => exact ⟨i + 1, rfl, by omega, by omega, rfl, ((HR.out.drewN nq).congr fun q hq => sw_out (by omega) lS HS.out HX.out (by rw [lS]; exact HC.out.symm) q)⟩
        · have hc1 := hcw (jp + 1) (by omega)
          have hc2 := hcw jp (by omega)
          have hf1 := hfw (jp + 1) (by omega)
          have hf2 := hfw jp (by omega)
          go_wp2
          go_quiet (first | (go_at_call 163; refine Calls.quiet_of_same (c _ _ _)))
          go_wp2
          · have hl : G (jp + 1) < G jp := by assumption
            rw [HG.out, HG.out, sw_a, sw_b] at hl
            have hcu := HC.out
            rw [cutF_s, if_pos (show ltI x (ix S (jp : Int)) = true from decide_eq_true hl)] at hcu
            go_region
            all_goals go_wp2
            go_roundg jp
            case measure => omega
            case rel =>
              refine ⟨jp, rfl, by omega, ?_, hcu, ?_⟩
              · rfl
              · refine (((HR.out.drewN (nq + 1)).set (by omega) (G jp)).set (q := jp) (by omega) (G (jp + 1))).congr (fun q hq => ?_)
                rw [HG.out, HG.out, sw_a, sw_b]
                exact sw_swap (by omega) q
          · have hl : G jp <= G (jp + 1) := by assumption
            rw [HG.out, HG.out, sw_a, sw_b] at hl
            have hcu := HC.out
            rw [cutF_s, if_neg (by simp [ltI]; omega)] at hcu
            go_roundg (n + 1 - (i + 1))
            case measure => omega
            case rel => exact ⟨i + 1, rfl, by omega, by omega, rfl, ((HR.out.drewN nq).congr fun q hq => sw_out (by omega) lS HS.out HX.out (by rw [lS]; exact hcu.symm) q)⟩
    · have hin : i = n \/ i = n + 1 := by omega
      go_end0
      refine ⟨rfl, hR.congr (fun q hq => ?_)⟩
      unfold prF
      rw [if_pos (by omega), List.take_of_length_le (by omega)]
theorem cmpZ_neg {x y : Int} (h : cmpZ x y < 0) : x < y := by unfold cmpZ at h; split at h; assumption; split at h <;> omega
theorem cmpZ_nn {x y : Int} (h : 0 <= cmpZ x y) : y <= x := by unfold cmpZ at h; split at h <;> omega
def ltT (T : List Int) (x y : Int) : Bool := decide (ix T x < ix T y)
theorem insCW (T : List Int) (p : Value) (g cap : Nat) (el : TypeId) (sz : Nat) (xs : List Int) (w : World) (Val : Int -> Prop) (hV : ∀ q, q < xs.length -> Val (ix xs (q : Int))) (hcmp : ∀ wr : World, (∀ b, b ≠ g -> wr.heap[b]? = w.heap[b]?) -> ∀ x y, Val x -> Val y -> Calls Tryz.prog 59 #[.int .i64 x, .int .i64 y, p] wr fun e w' => e = .returned (.int .i64 (cmpZ (ix T x) (ix T y))) /\ ∃ q, w' = wr.drewN q) (h0 : RowF w w g el sz xs.length (fun q => ix xs (q : Int))) (hn : xs.length <= 7) :
    Calls Tryz.prog 155 #[.slice (some ⟨g, 0, none⟩) xs.length cap, .int .i64 0, .int .i64 xs.length, .func (.func 59) #[] #[p]] w fun e w' => e = .returned (.tuple #[]) /\ RowF w w' g el sz xs.length (fun q => ix (insF (ltT T) xs) (q : Int)) := by
  have hc : ∀ args w, (callFunc 59 args).run Tryz.prog w = .ok (.enter 59 args) w := enters_of Tryz.func59 (by kernel_rfl) rfl
  generalize hnn : xs.length = n at *
  go_enter Tryz.func155, Tryz.ntmps155
  go_wp2
  go_loopg [8] n (fun m ii wr => ∃ i : Nat, m = n + 1 - i /\ 1 <= i /\ i <= n + 1 /\ ii = .int .i64 i /\ RowF w wr g el sz n (prF (ltT T) xs i) /\ ∀ q, q < n -> Val (prF (ltT T) xs i q))
  case atStart => exact ⟨1, by omega, by omega, by omega, rfl, h0.congr (fun q hq => prF_one (ltT T) xs q), fun q hq => by rw [<- prF_one]; exact hV q hq⟩
  case round =>
    obtain ⟨i, rfl, hi1, hi2, rfl, hR, hVa⟩ := hrel
    go_wp2
    · have hlt : i < n := by omega
      obtain ⟨S, hS⟩ : ∃ S, S = insF (ltT T) (xs.take i) := ⟨_, rfl⟩
      obtain ⟨x, hx⟩ : ∃ x, x = ix xs (i : Int) := ⟨_, rfl⟩
      have lS : S.length = i := by rw [hS, insF_len]; simp; omega
      have hR0 := hR.congr (F' := swF S x xs i i) (fun q _ => by rw [hS, hx]; exact prF_sw (ltT T) xs i q)
      go_loopg [9] i (fun m jj wr => ∃ j : Nat, j = m /\ j <= i /\ jj = .int .i64 j /\ cutF (ltT T) S x j = cutF (ltT T) S x i /\ RowF w wr g el sz n (swF S x xs i j) /\ ∀ q, q < n -> Val (swF S x xs i j q))
      case atStart => exact ⟨i, rfl, Nat.le_refl _, rfl, rfl, hR0, fun q hq => by rw [hS, hx, <- prF_sw]; exact hVa q hq⟩
      case round =>
        obtain ⟨j, rfl, hj, rfl, hcut, hR2, hV2⟩ := hrel
        obtain ⟨G, hG⟩ : ∃ G : Nat -> Int, ∀ t, G t = swF S x xs i j t := ⟨fun t => swF S x xs i j t, fun _ => rfl⟩
        have hcw : ∀ t, t < n -> wr.cell? ⟨g, t, none⟩ = some (.int .i64 (G t)) := fun t ht => by rw [hG]; exact hR2.cell ht
        have hfw : ∀ t, t < n -> wr.frozen? ⟨g, t, none⟩ = false := fun t _ => hR2.frozen t
        have HR : Hid (RowF w wr g el sz n (swF S x xs i j)) := hR2
        have HG : Hid (∀ t, G t = swF S x xs i j t) := hG
        have HC : Hid (cutF (ltT T) S x j = cutF (ltT T) S x i) := hcut
        have HS : Hid (S = insF (ltT T) (xs.take i)) := hS
        have HX : Hid (x = ix xs (i : Int)) := hx
        have HV : Hid (∀ q, q < n -> Val (swF S x xs i j q)) := hV2
        have HCM : Hid _ := fun m => hcmp (wr.drewN m) (fun b hb => hR2.oth b hb)
        clear hR2 hG hcut hR hR0 hS hx h0 hV2 hVa hV hcmp
        rcases j with _ | jp
        · go_wp2
          go_quiet (first | (go_at_call 59; refine Calls.quiet_of (HCM.out _ _ _ (by first | (rw [HG.out]; exact HV.out _ (by omega))) (by first | (rw [HG.out]; exact HV.out _ (by omega))))))
          go_wp2
          have hso := fun q => sw_out (j := 0) (by omega) lS HS.out HX.out (by rw [lS]; exact HC.out.symm) q
          go_roundg (n + 1 - (i + 1))
          case measure => omega
          case rel => exact ⟨i + 1, rfl, by omega, by omega, rfl, ((HR.out.drewN nq).congr fun q hq => hso q), fun q hq => by rw [<- hso q]; exact HV.out q hq⟩
        · have hc1 := hcw (jp + 1) (by omega)
          have hc2 := hcw jp (by omega)
          have hf1 := hfw (jp + 1) (by omega)
          have hf2 := hfw jp (by omega)
          go_wp2
          go_quiet (first | (go_at_call 59; refine Calls.quiet_of (HCM.out _ _ _ (by first | (rw [HG.out]; exact HV.out _ (by omega))) (by first | (rw [HG.out]; exact HV.out _ (by omega))))))
          go_wp2
          · have hl : cmpZ (ix T (G (jp + 1))) (ix T (G jp)) < 0 := by assumption
            rw [HG.out, HG.out, sw_a, sw_b] at hl
            have hl := cmpZ_neg hl
            have hcu := HC.out
            rw [cutF_s, if_pos (show ltT T x (ix S (jp : Int)) = true from decide_eq_true hl)] at hcu
            go_region
            all_goals go_wp2
            go_roundg jp
            case measure => omega
            case rel =>
              refine ⟨jp, rfl, by omega, ?_, hcu, ?_, fun q hq => ?_⟩
              · rfl
              · refine (((HR.out.drewN (nq + 1)).set (by omega) (G jp)).set (q := jp) (by omega) (G (jp + 1))).congr (fun q hq => ?_)
                rw [HG.out, HG.out, sw_a, sw_b]
                exact sw_swap (by omega) q
              · rw [<- sw_swap (by omega) q]
                split
                · exact (sw_a S x xs i jp) ▸ HV.out (jp + 1) (by omega)
                · split
                  · exact (sw_b S x xs i jp) ▸ HV.out jp (by omega)
                  · exact HV.out q hq
          · have hl : 0 <= cmpZ (ix T (G (jp + 1))) (ix T (G jp)) := by assumption
            rw [HG.out, HG.out, sw_a, sw_b] at hl
            have hl := cmpZ_nn hl
            have hcu := HC.out
            rw [cutF_s, if_neg (by simp [ltT]; omega)] at hcu
            have hso := fun q => sw_out (j := jp + 1) (by omega) lS HS.out HX.out (by rw [lS]; exact hcu.symm) q
            go_roundg (n + 1 - (i + 1))
            case measure => omega
            case rel => exact ⟨i + 1, rfl, by omega, by omega, rfl, ((HR.out.drewN nq).congr fun q hq => hso q), fun q hq => by rw [<- hso q]; exact HV.out q hq⟩
    · have hin : i = n \/ i = n + 1 := by omega
      go_end0
      refine ⟨rfl, hR.congr (fun q hq => ?_)⟩
      unfold prF
      rw [if_pos (by omega), List.take_of_length_le (by omega)]
theorem cmpW (x y : Int) (w : World) : Calls Tryz.prog 60 #[.int .i64 x, .int .i64 y] w fun e w' => e = .returned (.int .i64 (cmpZ x y)) /\ w' = w := by
  have c := fun x w => nanW x w
  have hc : ∀ args w, (callFunc 124 args).run Tryz.prog w = .ok (.enter 124 args) w := enters_of Tryz.func124 (by kernel_rfl) rfl
  go_enter Tryz.func60, Tryz.ntmps60
  go_wp2_with (go_at_call 124; refine (c _ _).mono ?_; rintro e w' ⟨rfl, hw⟩; rw [hw])
  all_goals (go_ret; refine ⟨congrArg (fun z => Ending.returned (Value.int .i64 z)) ?_, rfl⟩; unfold cmpZ; first | (rw [if_pos (by omega)]; done) | (rw [if_neg (by omega), if_pos (by omega)]; done) | (rw [if_neg (by omega), if_neg (by omega)]; done))
theorem cmpTW (bb off tb to tcap : Nat) (T : List Int) (w : World) (x y : Nat) (hx : x < T.length) (hy : y < T.length) (hb : T.length <= 1000) (hc0 : w.cell? ⟨bb, off + 1, none⟩ = some (.slice (some ⟨tb, to, none⟩) T.length tcap))
    (hT : ∀ q, q < T.length -> w.cell? ⟨tb, to + q, none⟩ = some (.int .i64 (ix T (q : Int)))) :
    Calls Tryz.prog 59 #[.int .i64 x, .int .i64 y, .pointer (some ⟨bb, off, none⟩)] w fun e w' => e = .returned (.int .i64 (cmpZ (ix T (x : Int)) (ix T (y : Int)))) /\ ∃ q, w' = w.drewN q := by
  have c := fun x y w => cmpW x y w
  have hc : ∀ args w, (callFunc 60 args).run Tryz.prog w = .ok (.enter 60 args) w := enters_of Tryz.func60 (by kernel_rfl) rfl
  have h1 := hT x hx
  have h2 := hT y hy
  go_enter Tryz.func59, Tryz.ntmps59
  go_wp2
  go_quiet (first | (go_at_call 60; refine Calls.quiet_of_same (c _ _ _)))
  go_wp2
  go_ret
  exact ⟨rfl, _, rfl⟩
theorem lenW (n : Nat) (hn : n <= 7) (w : World) : Calls Tryz.prog 127 #[.int .u64 n] w fun e w' => e = .returned (.int .i64 (Nat.log2 n + (if n = 0 then 0 else 1) : Nat)) /\ w' = w := by
  rcases (by omega : n = 0 \/ n = 1 \/ n = 2 \/ n = 3 \/ n = 4 \/ n = 5 \/ n = 6 \/ n = 7) with rfl | rfl | rfl | rfl | rfl | rfl | rfl | rfl
  all_goals
    go_enter Tryz.func127, Tryz.ntmps127
    go_wp2
    go_ret
    exact ⟨congrArg (fun z => Ending.returned (Value.int .i64 z)) (by decide +kernel), rfl⟩
theorem insW0 (a : Option Addr) (cap : Nat) (w : World) : Calls Tryz.prog 157 #[.slice a 0 cap, .int .i64 0, .int .i64 0] w fun e w' => e = .returned (.tuple #[]) /\ w' = w := by
  go_enter Tryz.func157, Tryz.ntmps157
  go_wp2
  go_loopg [6] 0 (fun m ii wr => ii = .int .i64 1 /\ wr = w)
  case atStart => exact ⟨rfl, rfl⟩
  case round =>
    obtain ⟨rfl, rfl⟩ := hrel
    go_wp2
    go_end0
    exact ⟨rfl, rfl⟩
theorem insCW0 (a : Option Addr) (cap : Nat) (p : Value) (w : World) : Calls Tryz.prog 155 #[.slice a 0 cap, .int .i64 0, .int .i64 0, p] w fun e w' => e = .returned (.tuple #[]) /\ w' = w := by
  go_enter Tryz.func155, Tryz.ntmps155
  go_wp2
  go_loopg [8] 0 (fun m ii wr => ii = .int .i64 1 /\ wr = w)
  case atStart => exact ⟨rfl, rfl⟩
  case round =>
    obtain ⟨rfl, rfl⟩ := hrel
    go_wp2
    go_end0
    exact ⟨rfl, rfl⟩
theorem rowM {f : FuncId} {rest : List AV} {xs ys : List Int} (hl : ys.length = xs.length)
    (hrun : ∀ (S : Store) (ρ : Rho) (w : World) (a : Option Addr) (cap : Nat) (vs : List Value), (∀ b c, S b = some c -> CellsIn w b c) -> vs.length = rest.length ->
      (∀ (j : Nat) x v, rest[j]? = some x -> vs[j]? = some v -> V S ρ (Heap.look [((0 : Nat), Blk.arr (AV.ints xs))]) x v) ->
      (xs.length = 0 -> Calls Tryz.prog f (Value.slice a xs.length cap :: vs).toArray w fun e w' => e = .returned (.tuple #[]) /\ w' = w) /\
      ∀ g el sz, a = some ⟨g, 0, none⟩ -> S g = none -> RowF w w g el sz xs.length (fun q => ix xs (q : Int)) ->
        Calls Tryz.prog f (Value.slice a xs.length cap :: vs).toArray w fun e w' => e = .returned (.tuple #[]) /\ RowF w w' g el sz xs.length (fun q => ix ys (q : Int))) :
    SpecM Tryz.prog f (.sl 0 :: rest) [(0, .arr (.ints xs))] 1 (.tup []) [(0, .arr (.ints ys))] := by
  have hlk : ∀ {z : List Int} (r) (k' : Blk), Heap.look [((0 : Nat), Blk.arr (AV.ints z))] r = some k' -> r = 0 /\ k' = .arr (.ints z) := fun r k' h => by
    unfold Heap.look at h
    split at h
    · rename_i e; cases h; exact ⟨e.symm, rfl⟩
    · cases h
  refine ⟨fun r k1 k2 h1 h2 => ?_, ?_⟩
  · obtain ⟨rfl, rfl⟩ := hlk r k1 h1
    obtain ⟨_, rfl⟩ := hlk _ k2 h2
    exact ss_ints hl.symm
  intro own S ρ w cargs hown hrel hsz hargs
  obtain ⟨v0, vs, rfl⟩ : ∃ v0 vs, cargs = (v0 :: vs).toArray := by
    obtain ⟨l⟩ := cargs
    cases l with
    | nil => simp at hsz
    | cons a l => exact ⟨a, l, rfl⟩
  have hv0 := hargs 0 _ v0 rfl rfl
  have hlook : Heap.look [((0 : Nat), Blk.arr (AV.ints xs))] 0 = some (.arr (.ints xs)) := rfl
  have hft : ∀ {z : List Int} r j, foot ρ (Heap.look [((0 : Nat), Blk.arr (AV.ints z))]) r j -> (r = 0 /\ j = 0) /\ ρ.cap 0 ≠ 0 := fun {z} r j h => by
    unfold foot at h
    cases hr : Heap.look [((0 : Nat), Blk.arr (AV.ints z))] r with
    | none => rw [hr] at h; exact h.elim
    | some k' =>
      obtain ⟨rfl, rfl⟩ := hlk r k' hr
      rw [hr] at h
      exact ⟨⟨rfl, h.1⟩, h.2⟩
  obtain ⟨v, zs, m, a, e1, e2, e3, e4⟩ := hv0.sl_inv
  rw [hlook] at e2; cases e2
  simp only [AV.elems, Option.some.injEq, Prod.mk.injEq] at e3
  obtain ⟨rfl, rfl⟩ := e3
  subst e1
  obtain ⟨zs, m, c, he, hc, hcs, hcap, hcm, harr⟩ := hrel.blk 0 _ hlook
  simp only [AV.elems, Option.some.injEq, Prod.mk.injEq] at he
  obtain ⟨rfl, rfl⟩ := he
  rw [List.length_map] at hcap ⊢
  obtain ⟨hr0, hr1⟩ := hrun S ρ w a (ρ.cap 0) vs hrel.stab (by simpa using hsz) (fun j x v h1 h2 => hargs (j + 1) x v h1 (by simpa using h2))
  have hown0 : ρ.cap 0 ≠ 0 -> own (ρ.blk 0 0) /\ S (ρ.blk 0 0) = none := fun h => hrel.owned 0 0 (foot_arr hlook h)
  have fin : ∀ (w' : World) (c' : Array Value), (ρ.cap 0 ≠ 0 -> OwnCells w' (ρ.blk 0 0) c') -> c'.size = c.size -> (∀ i, i < xs.length -> c'[i]? = some (.int .i64 (ix ys (i : Int)))) ->
      (∀ b, (ρ.cap 0 ≠ 0 -> b ≠ ρ.blk 0 0) -> w'.heap[b]? = w.heap[b]?) -> w'.os = w.os -> w'.tape = w.tape -> w'.output = w.output -> w'.heap.size = w.heap.size -> w.drawn <= w'.drawn ->
      ∃ cv S' ρ', Ending.returned (.tuple #[]) = Ending.returned cv /\ Rel own S' ρ' (Heap.look [((0 : Nat), Blk.arr (AV.ints ys))]) w' /\ S.le S' /\ (∀ b, S b = none -> S' b ≠ none -> own b) /\
        Kept own w w' /\ V S' ρ' (Heap.look [((0 : Nat), Blk.arr (AV.ints ys))]) (.tup []) cv /\ ∀ r, r < 1 -> Heap.look [((0 : Nat), Blk.arr (AV.ints ys))] r ≠ none -> (∀ j, ρ'.blk r j = ρ.blk r j) /\ ρ'.cap r = ρ.cap r /\ ∀ i, ρ'.rcap r i = ρ.rcap r i := by
    intro w' c' hc' hcs' hv' hoth h1 h2 h3 h4 h5
    refine ⟨.tuple #[], S, ρ, rfl, ⟨fun b c2 hb => ?_, hrel.amb, fun r k' hr => ?_, fun r j h => ?_, fun r j r' j' h h' _ => ?_⟩, fun _ _ h => h, fun b h1 h2 => absurd h1 h2, ⟨h1, h2, h3, by omega, fun b hlt hno => ?_, fun _ => h5⟩, .tup _ _ rfl (fun j x v h1 _ => by cases h1), fun r _ _ => ⟨fun _ => rfl, rfl, fun _ => rfl⟩⟩
    · obtain ⟨el, fr, h⟩ := hrel.stab b c2 hb
      exact ⟨el, fr, by rw [hoth b (fun hh e => by rw [e, (hown0 hh).2] at hb; cases hb)]; exact h⟩
    · obtain ⟨rfl, rfl⟩ := hlk r k' hr
      refine ⟨ys.map (AV.int .i64), 1, c', rfl, hc', by rw [hcs', hcs], by rw [List.length_map, hl]; exact hcap, fun x hx => ?_, fun i x j y hx hy => ?_⟩
      · obtain ⟨y, _, rfl⟩ := List.mem_map.1 hx; rfl
      · have hi : i < xs.length := by have := (List.getElem?_eq_some_iff.1 hx).1; rwa [List.length_map, hl] at this
        have ex : x = .int .i64 (ix ys (i : Int)) := by
          rw [List.getElem?_map, ix_some ys (by omega)] at hx
          exact (Option.some.inj hx).symm
        subst ex
        rcases j with _ | j
        · simp [AV.cells] at hy
          subst hy
          rw [Nat.mul_one, Nat.add_zero]
          exact ⟨_, hv' i hi, .int _ _⟩
        · simp [AV.cells] at hy
    · obtain ⟨⟨rfl, rfl⟩, h0⟩ := hft r j h
      exact hown0 h0
    · obtain ⟨⟨rfl, rfl⟩, _⟩ := hft r j h
      obtain ⟨⟨rfl, rfl⟩, _⟩ := hft r' j' h'
      exact ⟨rfl, rfl⟩
    · exact hoth b (fun hh e => hno (e ▸ (hown0 hh).1))
  by_cases h0 : xs.length = 0
  · refine (hr0 h0).mono ?_
    rintro e w' ⟨rfl, rfl⟩
    exact fin w' c hc rfl (fun i hi => by omega) (fun _ _ => rfl) rfl rfl rfl rfl (Nat.le_refl _)
  · have hcap0 : ρ.cap 0 ≠ 0 := by omega
    obtain ⟨el, hcell⟩ := hc hcap0
    have hR : RowF w w (ρ.blk 0 0) el c.size xs.length (fun q => ix xs (q : Int)) := ⟨⟨c, hcell, rfl, fun q hq => by
      have e1 : (xs.map (AV.int .i64))[q]? = some (.int .i64 (ix xs (q : Int))) := by rw [List.getElem?_map, ix_some xs hq]; rfl
      obtain ⟨cv, h1, h2⟩ := harr q _ 0 _ e1 rfl
      rw [Nat.mul_one, Nat.add_zero] at h1
      rw [h1]
      have := (V.pure (ρ := ρ) (H := fun _ => none) _ _ h2).int_inv
      rw [this]⟩, fun _ _ => rfl, rfl, rfl, rfl, rfl, Nat.le_refl _⟩
    refine (hr1 _ el c.size (e4 hcap0) (hown0 hcap0).2 hR).mono ?_
    rintro e w' ⟨rfl, hR'⟩
    obtain ⟨c', g1, g2, g3⟩ := hR'.blk
    exact fin w' c' (fun _ => ⟨el, g1⟩) g2 g3 (fun b hb => hR'.oth b (hb hcap0)) hR'.os hR'.tape hR'.output hR'.size hR'.drawn
def g_insO : List AV -> Heap -> Prop × AV × Heap
  | [.sl 0, .int .i64 a, .int .i64 n], [(0, .arr (.ints xs))] => (xs.length <= 7 /\ a = 0 /\ n = xs.length, .tup [], [(0, .arr (.ints (insF ltI xs)))])
  | _, _ => (False, .undef, [])
theorem g_insO_eq (xs : List Int) (a n : Int) : g_insO [.sl 0, .int .i64 a, .int .i64 n] [(0, .arr (.ints xs))] = (xs.length <= 7 /\ a = 0 /\ n = xs.length, .tup [], [(0, .arr (.ints (insF ltI xs)))]) := (rfl)
theorem insO_ok (xs : List Int) (a n : Int) (hp : xs.length <= 7 /\ a = 0 /\ n = xs.length) : SpecM Tryz.prog 157 [.sl 0, .int .i64 a, .int .i64 n] [(0, .arr (.ints xs))] 1 (.tup []) [(0, .arr (.ints (insF ltI xs)))] := by
  obtain ⟨h7, rfl, rfl⟩ := hp
  refine rowM (insF_len _ _) (fun S ρ w a cap vs hst hvl hvs => ?_)
  obtain ⟨v1, v2, rfl⟩ : ∃ v1 v2, vs = [v1, v2] := by
    match vs, hvl with
    | [a, b], _ => exact ⟨a, b, rfl⟩
  obtain rfl := (hvs 0 _ v1 rfl rfl).int_inv
  obtain rfl := (hvs 1 _ v2 rfl rfl).int_inv
  refine ⟨fun h0 => ?_, fun g el sz ha hS hR => ?_⟩
  · rw [h0]; exact insW0 a cap w
  · subst ha; exact insW g cap el sz xs w hR h7
def t_insO : Table := [(157, mutC 1 g_insO)]
theorem t_insO_ok : TabOK Tryz.prog t_insO := .cons Tryz.func157 (by kernel_rfl) (.mut (by intro args pre _ hp; unfold g_insO at hp ⊢; split at hp <;> first | exact hp.elim | exact insO_ok _ _ _ hp)) (.nil _)
attribute [go_sem] g_insO_eq t_insO
def g_insC : List AV -> Heap -> Prop × AV × Heap
  | [.sl 0, .int .i64 a, .int .i64 n, .fn 59 [.iptr [.ints p, .ints t, .ints z]]], [(0, .arr (.ints xs))] => ((xs.length <= 7 /\ a = 0 /\ n = xs.length) /\ t.length <= 1000 /\ ∀ x ∈ xs, 0 <= x /\ x < t.length, .tup [], [(0, .arr (.ints (insF (ltT t) xs)))])
  | _, _ => (False, .undef, [])
theorem g_insC_eq (xs : List Int) (a n : Int) (p t z : List Int) : g_insC [.sl 0, .int .i64 a, .int .i64 n, .fn 59 [.iptr [.ints p, .ints t, .ints z]]] [(0, .arr (.ints xs))] = ((xs.length <= 7 /\ a = 0 /\ n = xs.length) /\ t.length <= 1000 /\ ∀ x ∈ xs, 0 <= x /\ x < t.length, .tup [], [(0, .arr (.ints (insF (ltT t) xs)))]) := (rfl)
theorem insC_ok (xs : List Int) (a n : Int) (p t z : List Int) (hp : (xs.length <= 7 /\ a = 0 /\ n = xs.length) /\ t.length <= 1000 /\ ∀ x ∈ xs, 0 <= x /\ x < t.length) : SpecM Tryz.prog 155 [.sl 0, .int .i64 a, .int .i64 n, .fn 59 [.iptr [.ints p, .ints t, .ints z]]] [(0, .arr (.ints xs))] 1 (.tup []) [(0, .arr (.ints (insF (ltT t) xs)))] := by
  obtain ⟨⟨h7, rfl, rfl⟩, ht, hxs⟩ := hp
  refine rowM (insF_len _ _) (fun S ρ w a cap vs hst hvl hvs => ?_)
  obtain ⟨v1, v2, v3, rfl⟩ : ∃ v1 v2 v3, vs = [v1, v2, v3] := by
    match vs, hvl with
    | [a, b, c], _ => exact ⟨a, b, c, rfl⟩
  obtain rfl := (hvs 0 _ v1 rfl rfl).int_inv
  obtain rfl := (hvs 1 _ v2 rfl rfl).int_inv
  obtain ⟨us, rfl, hus, hcaps⟩ := (hvs 2 _ v3 rfl rfl).fn_inv
  obtain ⟨u, rfl⟩ : ∃ u, us = #[u] := by
    obtain ⟨l⟩ := us
    match l, hus with
    | [a], _ => exact ⟨a, rfl⟩
  obtain ⟨bb, off, cb, rfl, hSbb, hcb⟩ := (hcaps 0 _ u rfl rfl).iptr_inv
  obtain ⟨ut, hct, hst1⟩ := hcb 1 _ rfl
  refine ⟨fun h0 => ?_, fun g el sz ha hS hR => ?_⟩
  · rw [h0]; exact insCW0 a cap _ w
  · subst ha
    refine insCW t _ g cap el sz xs w (fun x => 0 <= x /\ x < t.length) (fun q hq => hxs _ (ix_mem xs hq)) (fun wr hwr x y hx hy => ?_) hR h7
    cases hst1 with
    | lst _ zs m ta tcap he hcap tb to tc vals hrow hm hc hs =>
      simp only [AV.elems, Option.some.injEq, Prod.mk.injEq] at he
      obtain ⟨rfl, rfl⟩ := he
      obtain ⟨rfl, hStb⟩ := hrow (by intro h; have := congrArg List.length h; simp at this; subst this; simp at hx; omega)
      obtain ⟨x, rfl⟩ : ∃ k : Nat, x = k := ⟨x.toNat, by omega⟩
      obtain ⟨y, rfl⟩ : ∃ k : Nat, y = k := ⟨y.toNat, by omega⟩
      have hbg : bb ≠ g := fun e => by rw [e, hS] at hSbb; cases hSbb
      have htg : tb ≠ g := fun e => by rw [e, hS] at hStb; cases hStb
      rw [List.length_map] at hct
      have hin : ∀ b c, S b = some c -> b ≠ g -> CellsIn wr b c := fun b c h1 h2 => by
        obtain ⟨el', fr', h⟩ := hst b c h1
        exact ⟨el', fr', by rw [hwr b h2]; exact h⟩
      refine cmpTW bb off tb to tcap t wr x y (by omega) (by omega) ht ?_ (fun q hq => ?_)
      · rw [(hin bb cb hSbb hbg).cell]; simpa using hct
      · rw [(hin tb tc hStb htg).cell]
        have e1 : (t.map (AV.int .i64))[q]? = some (.int .i64 (ix t (q : Int))) := by rw [List.getElem?_map, ix_some t hq]; rfl
        have h1 := hc q _ 0 _ e1 rfl
        have h2 := hs q _ 0 _ e1 rfl
        have h3 := (V.pure (S := S) (ρ := ρ) (H := fun _ => none) _ _ h2).int_inv
        rw [h3] at h1
        simpa using h1
def t_insC : Table := [(155, mutC 1 g_insC)]
theorem t_insC_ok : TabOK Tryz.prog t_insC := .cons Tryz.func155 (by kernel_rfl) (.mut (by intro args pre _ hp; unfold g_insC at hp ⊢; split at hp <;> first | exact hp.elim | exact insC_ok _ _ _ _ _ _ hp)) (.nil _)
attribute [go_sem] g_insC_eq t_insC
def g_lenB : List AV -> Prop × AV
  | [.int .u64 n] => (0 <= n /\ n <= 7, .int .i64 ((Nat.log2 n.toNat + (if n.toNat = 0 then 0 else 1) : Nat) : Int))
  | _ => (False, .undef)
theorem g_lenB_eq (n : Int) : g_lenB [.int .u64 n] = (0 <= n /\ n <= 7, .int .i64 ((Nat.log2 n.toNat + (if n.toNat = 0 then 0 else 1) : Nat) : Int)) := (rfl)
theorem lenB_ok (n : Int) (hp : 0 <= n /\ n <= 7) : SpecOK Tryz.prog 127 [.int .u64 n] (.int .i64 ((Nat.log2 n.toNat + (if n.toNat = 0 then 0 else 1) : Nat) : Int)) [] := by
  obtain ⟨h0, h7⟩ := hp
  obtain ⟨n, rfl⟩ : ∃ k : Nat, n = k := ⟨n.toNat, by omega⟩
  simp only [Int.toNat_natCast]
  intro S w cargs hS hsz hargs
  obtain ⟨v0, rfl⟩ : ∃ v0, cargs = #[v0] := by
    obtain ⟨l⟩ := cargs
    match l, hsz with
    | [a], _ => exact ⟨a, rfl⟩
  have e0 : v0 = .int .u64 n := (V.pure (S := S) (ρ := ⟨fun _ _ => 0, fun _ => 0, fun _ _ => 0⟩) (H := fun _ => none) _ _ (hargs 0 _ v0 rfl rfl)).int_inv
  subst e0
  refine (lenW n (by omega) w).mono ?_
  rintro e w' ⟨rfl, rfl⟩
  refine ⟨_, S, ⟨fun _ _ => 0, fun _ => 0, fun _ _ => 0⟩, rfl, ⟨fun b c hb => hS.2 b c hb, hS.1, fun r k hr => (by cases hr), fun r j hf => hf.elim, fun r j r' j' hf => hf.elim⟩, fun _ _ h => h, fun b h1 h2 => absurd h1 h2, Kept.refl _ _, .pure _ _ (.int _ _)⟩
def t_lenB : Table := [(127, pureC g_lenB)]
theorem t_lenB_ok : TabOK Tryz.prog t_lenB := .cons Tryz.func127 (by kernel_rfl) (.pure (by intro args hp; unfold g_lenB at hp ⊢; split at hp <;> first | exact hp.elim | exact lenB_ok _ hp)) (.nil _)
attribute [go_sem] g_lenB_eq t_lenB
end Go.Proofs.YteefjdbdknkcjaaGreat
namespace Go.Vc
set_option linter.unusedSimpArgs false
set_option linter.unusedVariables false
def confR (q : Nat -> Nat -> Bool) (a : Nat) : Nat -> List (Int × Int)
  | 0 => []
  | k + 1 => confR q a k ++ (if a < k /\ q a k = true then [((a : Int), (k : Int))] else [])
def confA (q : Nat -> Nat -> Bool) (n : Nat) : Nat -> List (Int × Int)
  | 0 => []
  | a + 1 => confA q n a ++ confR q a n
theorem confR_none (q : Nat -> Nat -> Bool) (a : Nat) : ∀ k, k <= a + 1 -> confR q a k = []
  | 0, _ => rfl
  | k + 1, h => by unfold confR; rw [confR_none q a k (by omega), if_neg (by omega)]; rfl
theorem confR_len (q : Nat -> Nat -> Bool) (a : Nat) : ∀ k, (confR q a k).length <= k
  | 0 => Nat.le_refl _
  | k + 1 => by
    have := confR_len q a k
    unfold confR
    rw [List.length_append]
    split <;> simp <;> omega
theorem confA_len (q : Nat -> Nat -> Bool) (n : Nat) : ∀ a, (confA q n a).length <= a * n
  | 0 => by simp [confA]
  | a + 1 => by
    have h1 := confA_len q n a
    have h2 := confR_len q a n
    unfold confA
    rw [List.length_append, Nat.succ_mul]; omega
theorem confR_t {q : Nat -> Nat -> Bool} {a k : Nat} (h : a < k) (hq : q a k = true) : confR q a k ++ [((a : Int), (k : Int))] = confR q a (k + 1) := by
  show _ = confR q a k ++ _
  rw [if_pos ⟨h, hq⟩]
theorem confR_f {q : Nat -> Nat -> Bool} {a k : Nat} (hq : q a k = false) : confR q a (k + 1) = confR q a k := by
  show confR q a k ++ _ = _
  rw [if_neg (fun h => by rw [hq] at h; cases h.2)]; simp
def cnfX (d : List (List Int)) (p : List Int) (a b : Int) : Bool := decide (∃ j : Nat, j < d.length /\ 2520 * ix (ix d (j : Int)) a < ix p (j : Int) /\ 2520 * ix (ix d (j : Int)) b < ix p (j : Int))
def cnfB (d : List (List Int)) (p t : List Int) (a b : Int) : Bool := decide (0 <= ix t a) && decide (0 <= ix t b) && cnfX d p a b
def cnfQ (d : List (List Int)) (s : St) (a b : Nat) : Bool := cnfB d s.p s.t (a : Int) (b : Int)
def confL (o : List Int) (d : List (List Int)) : List (Int × Int) := confA (cnfQ d (grown o d)) o.length o.length
theorem conf7 {o : List Int} (h : o.length <= 7) (q : Nat -> Nat -> Bool) {a : Nat} (ha : a <= o.length) : (confA q o.length a).length <= 49 :=
  Nat.le_trans (confA_len q o.length a) (Nat.mul_le_mul (show a <= 7 by omega) h)
end Go.Vc
