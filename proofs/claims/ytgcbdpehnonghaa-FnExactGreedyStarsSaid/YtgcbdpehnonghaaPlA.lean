/- Plain facts on the ascent of prices: no program in sight. -/
import Derived.Test.YtgcbdpehnonghaaPlS
namespace Go.Vc
set_option linter.unusedSimpArgs false
set_option linter.unusedVariables false

/-- The least of some numbers that are not negative; -1 if there are none. -/
def minN (f : Nat -> Int) : Nat -> Int
  | 0 => -1
  | k + 1 => if minN f k < 0 \/ f k < minN f k then f k else minN f k
theorem minN_nn {f : Nat -> Int} : ∀ {k : Nat}, 0 < k -> (∀ a, a < k -> 0 <= f a) -> 0 <= minN f k
  | 1, _, h => by
    have := h 0 (by omega)
    have e : minN f 1 = f 0 := by
      show (if (-1 : Int) < 0 \/ f 0 < -1 then f 0 else -1) = f 0
      rw [if_pos (.inl (by decide))]
    rw [e]; exact this
  | k + 2, _, h => by
    have h1 := minN_nn (f := f) (k := k + 1) (by omega) (fun a ha => h a (by omega))
    have h2 := h (k + 1) (by omega)
    rw [minN]
    split <;> assumption
theorem minN_le {f : Nat -> Int} : ∀ {k : Nat}, (∀ a, a < k -> 0 <= f a) -> ∀ a, a < k -> minN f k <= f a
  | 0, _, a, ha => by omega
  | k + 1, h, a, ha => by
    rw [minN]
    by_cases e : a = k
    · subst e
      split
      · exact Int.le_refl _
      · rename_i hn; omega
    · have h1 := minN_le (f := f) (k := k) (fun a ha => h a (by omega)) a (by omega)
      split
      · rename_i hs
        rcases hs with hs | hs
        · have := minN_nn (f := f) (k := k) (by omega) (fun a ha => h a (by omega)); omega
        · omega
      · exact h1
/-- What stands in the way of a price: the rest of a site that it reaches, or the next length. -/
def gapA (o : List Int) (d : List (List Int)) (p : List Int) (j : Nat) (a : Nat) : Int :=
  if ix (ix d (j : Int)) (a : Int) <= ix p (j : Int) then ix o (a : Int) - clm d p 1 (a : Int) else ix (ix d (j : Int)) (a : Int) - ix p (j : Int)
def stepA (o : List Int) (d : List (List Int)) (p : List Int) (j : Nat) : Int := minN (gapA o d p j) o.length
/-- Prices on their way. -/
structure AscOK (o : List Int) (d : List (List Int)) (p : List Int) : Prop where
  f : FieldOK o d
  len : p.length = d.length
  low : ∀ j : Nat, j < d.length -> 0 <= ix p (j : Int) /\ ∃ a : Nat, a < o.length /\ ix (ix d (j : Int)) (a : Int) <= ix p (j : Int)
  fair : ∀ a : Nat, a < o.length -> clm d p 1 (a : Int) <= ix o (a : Int)
theorem sumN_get {f : Nat -> Int} (h0 : ∀ i, 0 <= f i) : ∀ {n k : Nat}, k < n -> f k <= sumN f n
  | 0, k, hk => by omega
  | n + 1, k, hk => by
    simp only [sumN]
    have hn : 0 <= sumN f n := by
      have : ∀ m, 0 <= sumN f m := fun m => by
        induction m with
        | zero => exact Int.le_refl _
        | succ m ih => simp only [sumN]; have := h0 m; omega
      exact this n
    by_cases e : k = n
    · subst e; omega
    · have := sumN_get h0 (n := n) (k := k) (by omega); have := h0 n; omega
theorem clmT_nn (d : List (List Int)) (p : List Int) (u a : Int) (j : Nat) : 0 <= clmT d p u a j := by unfold clmT; omega
theorem AscOK.bd {o : List Int} {d : List (List Int)} {p : List Int} (h : AscOK o d p) {j : Nat} (hj : j < d.length) : 0 <= ix p (j : Int) /\ ix p (j : Int) <= 198 := by
  obtain ⟨h0, a, ha, hl⟩ := h.low j hj
  have h1 := h.fair a ha
  have h2 := h.f.o_ix (a := (a : Int)) (by omega) (by omega)
  have h3 := h.f.d_ix (k := (j : Int)) (a := (a : Int)) (by omega) (by omega) (by omega) (by omega)
  have h4 : clmT d p 1 (a : Int) j <= clm d p 1 (a : Int) := sumN_get (clmT_nn d p 1 (a : Int)) (by rw [h.len]; exact hj)
  have h5 : ix p (j : Int) - 1 * ix (ix d (j : Int)) (a : Int) <= clmT d p 1 (a : Int) j := by unfold clmT; omega
  omega
theorem AscOK.clm {o : List Int} {d : List (List Int)} {p : List Int} (h : AscOK o d p) : ClmOK o d p 1 :=
  ⟨h.f, h.len, fun k hk => by have := h.bd (j := k) (by have := h.len; omega); omega, by omega⟩
theorem AscOK.gap_nn {o : List Int} {d : List (List Int)} {p : List Int} (h : AscOK o d p) (j : Nat) {a : Nat} (ha : a < o.length) : 0 <= gapA o d p j a := by
  have := h.fair a ha
  unfold gapA
  split <;> omega
theorem AscOK.step_nn {o : List Int} {d : List (List Int)} {p : List Int} (h : AscOK o d p) (j : Nat) : 0 <= stepA o d p j := minN_nn h.f.n1 (fun a ha => h.gap_nn j ha)
theorem AscOK.step_le {o : List Int} {d : List (List Int)} {p : List Int} (h : AscOK o d p) (j : Nat) {a : Nat} (ha : a < o.length) : stepA o d p j <= gapA o d p j a := minN_le (fun a ha => h.gap_nn j ha) a ha
theorem sumN_set {f g : Nat -> Int} {k : Nat} : ∀ {n : Nat}, k < n -> (∀ i, i < n -> i ≠ k -> f i = g i) -> sumN f n = sumN g n - g k + f k
  | 0, hk, _ => by omega
  | n + 1, hk, h => by
    simp only [sumN]
    by_cases e : k = n
    · subst e; rw [sumN_congr (fun i hi => h i (by omega) (by omega))]; omega
    · rw [sumN_set (n := n) (by omega) (fun i hi he => h i (by omega) he), h n (by omega) (fun e' => e e'.symm)]; omega
def raise (o : List Int) (d : List (List Int)) (p : List Int) (j : Nat) : List Int := p.set j (ix p (j : Int) + stepA o d p j)
theorem ix_raise {o : List Int} {d : List (List Int)} {p : List Int} {j : Nat} (hj : j < p.length) (k : Nat) : ix (raise o d p j) (k : Int) = if k = j then ix p (j : Int) + stepA o d p j else ix p (k : Int) := ix_set p _ hj k
theorem AscOK.raise {o : List Int} {d : List (List Int)} {p : List Int} (h : AscOK o d p) {j : Nat} (hj : j < d.length) : AscOK o d (raise o d p j) := by
  have hl := h.len
  have hs := h.step_nn j
  have hlr : (Go.Vc.raise o d p j).length = p.length := by simp [Go.Vc.raise]
  refine ⟨h.f, by rw [hlr, hl], fun k hk => ?_, fun a ha => ?_⟩
  · rw [ix_raise (by omega)]
    obtain ⟨h0, a, ha, h1⟩ := h.low k hk
    split
    · rename_i e; subst e; exact ⟨by omega, a, ha, by omega⟩
    · exact ⟨h0, a, ha, h1⟩
  · have e1 : Go.Vc.clm d (Go.Vc.raise o d p j) 1 (a : Int) = Go.Vc.clm d p 1 (a : Int) - clmT d p 1 (a : Int) j + clmT d (Go.Vc.raise o d p j) 1 (a : Int) j := by
      unfold Go.Vc.clm
      rw [hlr]
      refine sumN_set (by omega) (fun i hi he => ?_)
      unfold clmT
      rw [ix_raise (by omega), if_neg he]
    have e2 : clmT d (Go.Vc.raise o d p j) 1 (a : Int) j = max 0 (ix p (j : Int) + stepA o d p j - 1 * ix (ix d (j : Int)) (a : Int)) := by
      unfold clmT
      rw [ix_raise (by omega), if_pos rfl]
    have e3 : clmT d p 1 (a : Int) j = max 0 (ix p (j : Int) - 1 * ix (ix d (j : Int)) (a : Int)) := rfl
    have h1 := h.step_le j ha
    have h2 := h.fair a ha
    unfold gapA at h1
    split at h1 <;> omega
/-- The first j clients raise their prices. -/
def passA (o : List Int) (d : List (List Int)) (p : List Int) : Nat -> List Int
  | 0 => p
  | j + 1 => raise o d (passA o d p j) j
theorem AscOK.pass {o : List Int} {d : List (List Int)} {p : List Int} (h : AscOK o d p) : ∀ {j : Nat}, j <= d.length -> AscOK o d (passA o d p j)
  | 0, _ => h
  | j + 1, hj => (h.pass (j := j) (by omega)).raise (by omega)
theorem raise_zero {o : List Int} {d : List (List Int)} {p : List Int} {j : Nat} (hj : j < p.length) (h : stepA o d p j = 0) : raise o d p j = p := by
  refine ix_ext (by simp [raise]) (fun k hk => ?_)
  rw [ix_raise hj, h]
  split
  · rename_i e; subst e; omega
  · rfl
def psum (p : List Int) : Int := sumN (fun j => ix p (j : Int)) p.length
theorem psum_raise {o : List Int} {d : List (List Int)} {p : List Int} {j : Nat} (hj : j < p.length) : psum (raise o d p j) = psum p + stepA o d p j := by
  unfold psum
  rw [show (raise o d p j).length = p.length by simp [raise]]
  rw [sumN_set (g := fun j => ix p (j : Int)) hj (fun i hi he => by rw [ix_raise hj, if_neg he]), ix_raise hj, if_pos rfl]
  omega
theorem AscOK.psum {o : List Int} {d : List (List Int)} {p : List Int} (h : AscOK o d p) : 0 <= psum p /\ psum p <= 1386 := by
  have hl := h.len
  have := h.f.m7
  have := sumN_bd (f := fun j => ix p (j : Int)) (lo := 0) (hi := 198) (n := p.length) (fun i hi => h.bd (by omega))
  unfold Go.Vc.psum
  omega
def passes (o : List Int) (d : List (List Int)) (p : List Int) : Nat -> List Int
  | 0 => p
  | k + 1 => passA o d (passes o d p k) d.length
theorem AscOK.passes {o : List Int} {d : List (List Int)} {p : List Int} (h : AscOK o d p) : ∀ k : Nat, AscOK o d (passes o d p k)
  | 0 => h
  | k + 1 => (h.passes k).pass (Nat.le_refl _)
theorem passes_fix {o : List Int} {d : List (List Int)} {p : List Int} {k : Nat} (h : passA o d (passes o d p k) d.length = passes o d p k) : ∀ l, k <= l -> passes o d p l = passes o d p k := by
  intro l
  induction l with
  | zero => intro hl; rw [show k = 0 by omega]
  | succ l ih =>
    intro hl
    by_cases e : k = l + 1
    · rw [e]
    · rw [Go.Vc.passes, ih (by omega), h]
/-- The prices at the end of the ascent. -/
def ascentL (o : List Int) (d : List (List Int)) (p : List Int) : List Int :=
  match (List.range 1500).find? (fun k => decide (passA o d (passes o d p k) d.length = passes o d p k)) with
  | some k => passes o d p k
  | none => []
theorem ascentL_eq {o : List Int} {d : List (List Int)} {p : List Int} {k : Nat} (hk : k < 1500) (h : passA o d (passes o d p k) d.length = passes o d p k) : ascentL o d p = passes o d p k := by
  unfold ascentL
  split
  · rename_i q hq
    have h2 : passA o d (passes o d p q) d.length = passes o d p q := by simpa using List.find?_some hq
    rcases Nat.le_total k q with e | e
    · exact passes_fix h _ e
    · exact (passes_fix h2 _ e).symm
  · rename_i hn
    rw [List.find?_eq_none] at hn
    exact (hn k (List.mem_range.2 hk) (by simpa using h)).elim
/-- Each price begins with the least length. -/
def firstP (d : List (List Int)) : List Int := tab d.length fun j => minL (ix d (j : Int))
theorem minF_mem : ∀ (xs : List Int) (m : Int), minF xs m = m \/ minF xs m ∈ xs
  | [], m => .inl rfl
  | x :: r, m => by
    rw [minF]
    rcases minF_mem r (min m x) with h | h
    · by_cases e : m <= x
      · left; rw [h]; omega
      · right; rw [h, show min m x = x by omega]; exact List.mem_cons_self
    · right; exact List.mem_cons_of_mem _ h
theorem minL_mem {xs : List Int} (h : 0 < xs.length) : minL xs ∈ xs := by
  cases xs with
  | nil => simp at h
  | cons x r =>
    unfold minL
    rcases minF_mem ((x :: r).drop 1) (ix (x :: r) 0) with e | e
    · rw [e]; exact List.mem_cons_self
    · exact List.mem_cons_of_mem _ e
theorem firstP_ok {o : List Int} {d : List (List Int)} (h : FieldOK o d) : AscOK o d (firstP d) := by
  have hl : (firstP d).length = d.length := tab_len _ _
  have key : ∀ j : Nat, j < d.length -> ix (firstP d) (j : Int) = minL (ix d (j : Int)) := fun j hj => tab_ix hj
  have hrow : ∀ j : Nat, j < d.length -> (ix d (j : Int)).length = o.length := fun j hj => h.d_len (by omega) (by omega)
  refine ⟨h, hl, fun j hj => ?_, fun a ha => ?_⟩
  · rw [key j hj]
    have hm := minL_mem (xs := ix d (j : Int)) (by rw [hrow j hj]; exact h.n1)
    obtain ⟨a, ha, e⟩ := mem_ix hm
    rw [hrow j hj] at ha
    have := h.d_ix (k := (j : Int)) (a := (a : Int)) (by omega) (by omega) (by omega) (by omega)
    exact ⟨by omega, a, ha, by omega⟩
  · have e : clm d (firstP d) 1 (a : Int) = 0 := by
      unfold clm
      refine sumN_zero (fun j hj => ?_)
      rw [hl] at hj
      have h1 := (minL_ge (xs := ix d (j : Int)) (by rw [hrow j hj]; exact h.n1) (minL (ix d (j : Int)))).1 (Int.le_refl _) _ (ix_mem (ix d (j : Int)) (k := a) (by rw [hrow j hj]; exact ha))
      unfold clmT
      rw [key j hj]
      omega
    have := h.o_ix (a := (a : Int)) (by omega) (by omega)
    omega
/-- The least length that is greater than a price, over the first a sites; -1 if there is none. -/
def nextA (d : List (List Int)) (p : List Int) (j : Nat) : Nat -> Int
  | 0 => -1
  | a + 1 => if ix p (j : Int) < ix (ix d (j : Int)) (a : Int) /\ (nextA d p j a < 0 \/ ix (ix d (j : Int)) (a : Int) < nextA d p j a) then ix (ix d (j : Int)) (a : Int) else nextA d p j a
/-- The least rest of a site that a price reaches. -/
def byA (o : List Int) (d : List (List Int)) (p : List Int) (j : Nat) : Nat -> Int
  | 0 => -1
  | a + 1 => if ix (ix d (j : Int)) (a : Int) <= ix p (j : Int) /\ (byA o d p j a < 0 \/ ix o (a : Int) - clm d p 1 (a : Int) < byA o d p j a) then ix o (a : Int) - clm d p 1 (a : Int) else byA o d p j a
theorem AscOK.two {o : List Int} {d : List (List Int)} {p : List Int} (h : AscOK o d p) {j : Nat} (hj : j < d.length) : ∀ {a : Nat}, a <= o.length ->
    (nextA d p j a = -1 \/ ix p (j : Int) < nextA d p j a /\ nextA d p j a <= 99) /\ (byA o d p j a = -1 \/ 0 <= byA o d p j a /\ byA o d p j a <= 99) /\
      minN (gapA o d p j) a = (if nextA d p j a < 0 then byA o d p j a else if byA o d p j a < 0 then nextA d p j a - ix p (j : Int) else min (byA o d p j a) (nextA d p j a - ix p (j : Int)))
  | 0, _ => by simp [nextA, byA, minN]
  | a + 1, ha => by
    obtain ⟨h1, h2, h3⟩ := h.two hj (a := a) (by omega)
    have hp := h.bd hj
    have hd := h.f.d_ix (k := (j : Int)) (a := (a : Int)) (by omega) (by omega) (by omega) (by omega)
    have hf := h.fair a (by omega)
    have ho := h.f.o_ix (a := (a : Int)) (by omega) (by omega)
    have hc := h.clm.bd (a := (a : Int)) (by omega) (by omega)
    rw [nextA, byA, minN, h3]
    unfold gapA
    generalize nextA d p j a = N at *
    generalize byA o d p j a = B at *
    generalize Go.Vc.clm d p 1 (a : Int) = C at *
    generalize ix (ix d (j : Int)) (a : Int) = D at *
    generalize ix p (j : Int) = Q at *
    generalize ix o (a : Int) = O at *
    by_cases e : D <= Q
    · have e1 : ¬ (Q < D /\ (N < 0 \/ D < N)) := by omega
      rw [if_neg e1, if_pos e]
      by_cases e2 : D <= Q /\ (B < 0 \/ O - C < B)
      · rw [if_pos e2]
        refine ⟨h1, by omega, ?_⟩
        split <;> split <;> (try split) <;> (try split) <;> omega
      · rw [if_neg e2]
        refine ⟨h1, h2, ?_⟩
        split <;> split <;> (try split) <;> (try split) <;> omega
    · rw [if_neg e]
      have e2 : ¬ (D <= Q /\ (B < 0 \/ O - C < B)) := by omega
      rw [if_neg e2]
      by_cases e3 : Q < D /\ (N < 0 \/ D < N)
      · rw [if_pos e3]
        refine ⟨by omega, h2, ?_⟩
        split <;> split <;> (try split) <;> (try split) <;> omega
      · rw [if_neg e3]
        refine ⟨h1, h2, ?_⟩
        split <;> split <;> (try split) <;> (try split) <;> omega
theorem byA_some {o : List Int} {d : List (List Int)} {p : List Int} (h : AscOK o d p) {j : Nat} (hj : j < d.length) : ∀ {n a : Nat}, n <= o.length -> a < n -> ix (ix d (j : Int)) (a : Int) <= ix p (j : Int) -> 0 <= byA o d p j n
  | 0, a, _, ha, _ => by omega
  | n + 1, a, hn, ha, hl => by
    have h2 := (h.two hj (a := n) (by omega)).2.1
    have hf := h.fair n (by omega)
    rw [byA]
    by_cases e : a = n
    · subst e
      by_cases e2 : byA o d p j a < 0 \/ ix o (a : Int) - clm d p 1 (a : Int) < byA o d p j a
      · rw [if_pos ⟨hl, e2⟩]; omega
      · rw [if_neg (fun e3 => e2 e3.2)]; omega
    · have := byA_some h hj (n := n) (a := a) (by omega) (by omega) hl
      split <;> omega
theorem AscOK.to {o : List Int} {d : List (List Int)} {p : List Int} (h : AscOK o d p) {j : Nat} (hj : j < d.length) :
    (0 <= byA o d p j o.length /\ byA o d p j o.length <= 99) /\ stepA o d p j = (if nextA d p j o.length < 0 then byA o d p j o.length else min (byA o d p j o.length) (nextA d p j o.length - ix p (j : Int))) := by
  obtain ⟨h0, a, ha, hl⟩ := h.low j hj
  have h1 := byA_some h hj (Nat.le_refl _) ha hl
  obtain ⟨_, h2, h3⟩ := h.two hj (Nat.le_refl o.length)
  refine ⟨by omega, ?_⟩
  unfold stepA
  rw [h3]
  split
  · rfl
  · rw [if_neg (by omega)]
theorem minF_start (x : Int) (r : List Int) : minF (x :: r) x = minF r x := by rw [minF, show min x x = x by omega]
theorem minL_full {xs : List Int} (h : 0 < xs.length) : minF xs (ix xs 0) = minL xs := by
  cases xs with
  | nil => simp at h
  | cons x r => exact minF_start x r
theorem ascentL_len {o : List Int} {d : List (List Int)} (h : FieldOK o d) : (ascentL o d (firstP d)).length <= 7 := by
  unfold ascentL
  split
  · rename_i k hk
    rw [((firstP_ok h).passes k).len]; exact h.m7
  · simp
end Go.Vc
