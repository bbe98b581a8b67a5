/- Plain facts on prices, claims and service: no program in sight. -/
import Derived.Test.YtjnongegddnobaaDoorPlT
namespace Go.Vc
set_option linter.unusedSimpArgs false
set_option linter.unusedVariables false

/-! lists by a rule -/
def tab {α : Type} (n : Nat) (f : Nat -> α) : List α := (List.range n).map f
theorem tab_len {α : Type} (n : Nat) (f : Nat -> α) : (tab n f).length = n := by simp [tab]
theorem tab_ix {α : Type} [Inhabited α] {n : Nat} {f : Nat -> α} {k : Nat} (h : k < n) : ix (tab n f) (k : Int) = f k := by
  have h1 := ix_some (tab n f) (k := k) (by rw [tab_len]; exact h)
  have h2 : (tab n f)[k]? = some (f k) := by simp [tab, h]
  rw [h1] at h2
  exact Option.some.inj h2
theorem tab_succ {α : Type} (n : Nat) (f : Nat -> α) : tab (n + 1) f = tab n f ++ [f n] := by simp [tab, List.range_succ]
theorem tab_congr {α : Type} {n : Nat} {f g : Nat -> α} (h : ∀ k, k < n -> f k = g k) : tab n f = tab n g := by
  unfold tab
  exact List.map_congr_left (fun k hk => h k (List.mem_range.1 hk))
theorem tab_of {α : Type} [Inhabited α] (xs : List α) : tab xs.length (fun k => ix xs (k : Int)) = xs :=
  ix_ext (by rw [tab_len]) (fun k hk => by rw [tab_len] at hk; rw [tab_ix hk])
theorem tab_eq {α : Type} [Inhabited α] {xs : List α} {n : Nat} {f : Nat -> α} (hl : xs.length = n) (h : ∀ k, k < n -> ix xs (k : Int) = f k) : xs = tab n f :=
  ix_ext (by rw [tab_len, hl]) (fun k hk => by rw [tab_ix (by omega), h k (by omega)])
theorem tab_set {α : Type} [Inhabited α] {n : Nat} {f : Nat -> α} {k : Nat} (v : α) (h : k < n) : (tab n f).set k v = tab n (fun j => if j = k then v else f j) := by
  refine tab_eq (by simp [tab_len]) (fun j hj => ?_)
  rw [ix_set _ _ (by rw [tab_len]; exact h), tab_ix hj]
theorem tab_rep {α : Type} (n : Nat) (v : α) : List.replicate n v = tab n (fun _ => v) := by
  apply List.ext_getElem
  · simp [tab]
  · intro i h1 h2; simp [tab]
theorem mem_tab {α : Type} {n : Nat} {f : Nat -> α} {x : α} : x ∈ tab n f ↔ ∃ k, k < n /\ f k = x := by simp [tab]
/-- The numbers less than n for which a test says yes. -/
def sel (p : Nat -> Bool) : Nat -> List Int
  | 0 => []
  | n + 1 => if p n = true then sel p n ++ [(n : Int)] else sel p n
theorem sel_t {p : Nat -> Bool} {n : Nat} (h : p n = true) : sel p (n + 1) = sel p n ++ [(n : Int)] := by rw [sel, if_pos h]
theorem sel_f {p : Nat -> Bool} {n : Nat} (h : p n = false) : sel p (n + 1) = sel p n := by rw [sel, if_neg (by rw [h]; simp)]
theorem sel_len (p : Nat -> Bool) : ∀ n, (sel p n).length <= n
  | 0 => Nat.le_refl _
  | n + 1 => by
    have := sel_len p n
    unfold sel
    split
    · simp; omega
    · omega
theorem sel_congr {p q : Nat -> Bool} : ∀ {n : Nat}, (∀ k, k < n -> p k = q k) -> sel p n = sel q n
  | 0, _ => rfl
  | n + 1, h => by unfold sel; rw [sel_congr (fun k hk => h k (by omega)), h n (by omega)]
theorem mem_sel {p : Nat -> Bool} {x : Int} : ∀ {n : Nat}, x ∈ sel p n ↔ ∃ k : Nat, k < n /\ p k = true /\ (k : Int) = x
  | 0 => by simp [sel]
  | n + 1 => by
    unfold sel
    split
    · rename_i h
      rw [List.mem_append, mem_sel (n := n)]
      constructor
      · rintro (⟨k, h1, h2, h3⟩ | h1)
        · exact ⟨k, by omega, h2, h3⟩
        · simp at h1; exact ⟨n, by omega, h, h1.symm⟩
      · rintro ⟨k, h1, h2, h3⟩
        by_cases e : k = n
        · subst e; right; simpa using h3.symm
        · exact .inl ⟨k, by omega, h2, h3⟩
    · rename_i h
      rw [mem_sel (n := n)]
      constructor
      · rintro ⟨k, h1, h2, h3⟩; exact ⟨k, by omega, h2, h3⟩
      · rintro ⟨k, h1, h2, h3⟩
        by_cases e : k = n
        · subst e; exact (h h2).elim
        · exact ⟨k, by omega, h2, h3⟩

/-! what holds for all numbers less than n -/
def allN (p : Nat -> Bool) (n : Nat) : Bool := (List.range n).all p
theorem allN_iff {p : Nat -> Bool} {n : Nat} : allN p n = true ↔ ∀ k, k < n -> p k = true := by simp [allN]
theorem allN_f {p : Nat -> Bool} {n k : Nat} (hk : k < n) (h : p k = false) : allN p n = false := by
  cases e : allN p n with
  | false => rfl
  | true => rw [allN_iff.1 e k hk] at h; cases h
theorem allN_t {p : Nat -> Bool} {n : Nat} (h : ∀ k, k < n -> p k = true) : allN p n = true := allN_iff.2 h
theorem below_succ {q : Nat -> Prop} {k : Nat} (h : ∀ j, j < k -> q j) (hk : q k) : ∀ j, j < k + 1 -> q j := by
  intro j hj
  rcases Nat.lt_succ_iff_lt_or_eq.1 hj with h1 | h1
  · exact h j h1
  · subst h1; exact hk
theorem mul_bd {n u a b : Int} (hn : 0 <= n /\ n <= a) (hu : 0 <= u /\ u <= b) : 0 <= n * u /\ n * u <= a * b :=
  ⟨Int.mul_nonneg hn.1 hu.1, Int.mul_le_mul hn.2 hu.2 hu.1 (by omega)⟩

/-! fields -/
theorem FieldOK.o_ix {o : List Int} {d : List (List Int)} (h : FieldOK o d) {a : Int} (h0 : 0 <= a) (h1 : a < o.length) : 0 <= ix o a /\ ix o a <= 99 := h.o99 _ (ix_memI o h0 h1)
theorem FieldOK.d_len {o : List Int} {d : List (List Int)} (h : FieldOK o d) {k : Int} (h0 : 0 <= k) (h1 : k < d.length) : (ix d k).length = o.length := h.len _ (ix_memI d h0 h1)
theorem FieldOK.d_ix {o : List Int} {d : List (List Int)} (h : FieldOK o d) {k a : Int} (h0 : 0 <= k) (h1 : k < d.length) (h2 : 0 <= a) (h3 : a < o.length) : 0 <= ix (ix d k) a /\ ix (ix d k) a <= 99 :=
  h.d99 _ (ix_memI d h0 h1) _ (ix_memI _ h2 (by rw [h.d_len h0 h1]; exact h3))

theorem sumLen_le {n : Nat} : ∀ {d : List (List Int)}, (∀ x ∈ d, x.length <= n) -> sumLen d <= n * d.length
  | [], _ => by simp [sumLen]
  | x :: r, h => by
    have h1 := sumLen_le (d := r) (fun y hy => h y (List.mem_cons_of_mem _ hy))
    have h2 := h x List.mem_cons_self
    simp only [sumLen, List.length_cons, Int.natCast_add, Int.natCast_one, Int.mul_add, Int.mul_one]
    omega
/-- What a law asks of a field that it is given back. -/
structure Small (o : List Int) (d : List (List Int)) : Prop where
  ho : o.length <= 7
  hd : d.length <= 7
  hs : sumLen d <= 49
  h0 : 0 <= sumLen d
  hr : ∀ x ∈ d, x.length <= 1048576000
theorem small_of {o : List Int} {d : List (List Int)} (h1 : o.length <= 7) (h2 : d.length <= 7) (h3 : ∀ x ∈ d, x.length <= 7) : Small o d :=
  ⟨h1, h2, by have := sumLen_le h3; omega, sumLen_nonneg d, fun x hx => by have := h3 x hx; omega⟩
theorem FieldOK.small {o : List Int} {d : List (List Int)} (h : FieldOK o d) : Small o d := small_of h.n7 h.m7 (fun x hx => by rw [h.len x hx]; exact h.n7)
theorem small_nil : Small [] [] := small_of (by simp) (by simp) (fun x hx => by cases hx)

/-! prices -/
def pricesOK (o : List Int) (d : List (List Int)) (ps : List Int) : Bool := rowOK 500 ps && (good o d && decide ((ps.length : Int) = d.length))
structure PricesOK (o : List Int) (d : List (List Int)) (ps : List Int) : Prop where
  f : FieldOK o d
  len : ps.length = d.length
  p0 : ∀ k : Nat, k < ps.length -> 0 <= ix ps (k : Int) /\ ix ps (k : Int) <= 500
theorem pricesOK_iff {o : List Int} {d : List (List Int)} {ps : List Int} : pricesOK o d ps = true -> PricesOK o d ps := by
  simp only [pricesOK, Bool.and_eq_true, decide_eq_true_eq]
  exact fun ⟨h1, h2, h3⟩ => ⟨good_iff.1 h2, by omega, fun k hk => rowOK_iff.1 h1 _ (ix_mem ps hk)⟩
structure ClmOK (o : List Int) (d : List (List Int)) (ps : List Int) (u : Int) : Prop where
  f : FieldOK o d
  len : ps.length = d.length
  p0 : ∀ k : Nat, k < ps.length -> 0 <= ix ps (k : Int) /\ ix ps (k : Int) <= 1000000
  u0 : 0 <= u /\ u <= 2520
theorem PricesOK.clm {o : List Int} {d : List (List Int)} {ps : List Int} (h : PricesOK o d ps) : ClmOK o d ps 1 := ⟨h.f, h.len, fun k hk => by have := h.p0 k hk; omega, by omega⟩
/-- What a client claims of a site. -/
def clmT (d : List (List Int)) (ps : List Int) (u a : Int) (j : Nat) : Int := max 0 (ix ps (j : Int) - u * ix (ix d (j : Int)) a)
def clm (d : List (List Int)) (ps : List Int) (u a : Int) : Int := sumN (clmT d ps u a) ps.length
def clms (d : List (List Int)) (ps : List Int) (u : Int) (n : Nat) : List Int := tab n (fun a => clm d ps u (a : Int))
theorem ClmOK.t_bd {o : List Int} {d : List (List Int)} {ps : List Int} {u : Int} (h : ClmOK o d ps u) {a : Int} (h0 : 0 <= a) (h1 : a < o.length) {j : Nat} (hj : j < ps.length) :
    (0 <= u * ix (ix d (j : Int)) a /\ u * ix (ix d (j : Int)) a <= 249480) /\ 0 <= clmT d ps u a j /\ clmT d ps u a j <= 1000000 := by
  have h2 := h.f.d_ix (k := (j : Int)) (a := a) (by omega) (by have := h.len; omega) h0 h1
  have h3 := mul_bd h.u0 h2
  have h4 := h.p0 j hj
  unfold clmT
  omega
theorem ClmOK.s_bd {o : List Int} {d : List (List Int)} {ps : List Int} {u : Int} (h : ClmOK o d ps u) {a : Int} (h0 : 0 <= a) (h1 : a < o.length) {j : Nat} (hj : j <= ps.length) : 0 <= sumN (clmT d ps u a) j /\ sumN (clmT d ps u a) j <= 7000000 := by
  have h2 := sumN_bd (f := clmT d ps u a) (lo := 0) (hi := 1000000) (n := j) (fun i hi => (h.t_bd h0 h1 (by omega)).2)
  have := h.len
  have := h.f.m7
  omega
theorem ClmOK.bd {o : List Int} {d : List (List Int)} {ps : List Int} {u : Int} (h : ClmOK o d ps u) {a : Int} (h0 : 0 <= a) (h1 : a < o.length) : 0 <= clm d ps u a /\ clm d ps u a <= 7000000 := h.s_bd h0 h1 (Nat.le_refl _)
def restsL (o : List Int) (d : List (List Int)) (ps : List Int) : List Int := tab o.length (fun a => ix o (a : Int) - clm d ps 1 (a : Int))
def fairB (o : List Int) (d : List (List Int)) (ps : List Int) : Bool := allN (fun a => decide (clm d ps 1 (a : Int) <= ix o (a : Int))) o.length
def tightL (o : List Int) (d : List (List Int)) (ps : List Int) : List Int := sel (fun a => decide (clm d ps 1 (a : Int) = ix o (a : Int))) o.length
/-- The least of some numbers. -/
def minF : List Int -> Int -> Int
  | [], m => m
  | x :: r, m => minF r (min m x)
def maxF : List Int -> Int -> Int
  | [], m => m
  | x :: r, m => maxF r (max m x)
theorem minF_ge : ∀ (xs : List Int) (m b : Int), b <= minF xs m ↔ b <= m /\ ∀ x ∈ xs, b <= x
  | [], m, b => by simp [minF]
  | x :: r, m, b => by
    rw [minF, minF_ge r]
    simp only [List.mem_cons, forall_eq_or_imp]
    rw [Int.le_min]
    exact ⟨fun ⟨⟨h1, h2⟩, h3⟩ => ⟨h1, h2, h3⟩, fun ⟨h1, h2, h3⟩ => ⟨⟨h1, h2⟩, h3⟩⟩
def minL (xs : List Int) : Int := minF (xs.drop 1) (ix xs 0)
def maxL (xs : List Int) : Int := maxF (xs.drop 1) (ix xs 0)
theorem minF_take (xs : List Int) (m : Int) {k : Nat} (h : k < xs.length) : minF (xs.take (k + 1)) m = min (minF (xs.take k) m) (ix xs (k : Int)) := by
  rw [take_ix xs h]
  generalize xs.take k = l
  induction l generalizing m with
  | nil => rfl
  | cons x l ih => exact ih _
theorem maxF_take (xs : List Int) (m : Int) {k : Nat} (h : k < xs.length) : maxF (xs.take (k + 1)) m = max (maxF (xs.take k) m) (ix xs (k : Int)) := by
  rw [take_ix xs h]
  generalize xs.take k = l
  induction l generalizing m with
  | nil => rfl
  | cons x l ih => exact ih _
theorem minL_ge {xs : List Int} (h : 0 < xs.length) (b : Int) : b <= minL xs ↔ ∀ x ∈ xs, b <= x := by
  cases xs with
  | nil => simp at h
  | cons x r =>
    unfold minL
    rw [minF_ge]
    simp [ix_cons_zero]
theorem fair_min {o : List Int} {d : List (List Int)} {ps : List Int} (h : 0 < o.length) : decide (0 <= minL (restsL o d ps)) = fairB o d ps := by
  have e : (0 <= minL (restsL o d ps)) ↔ fairB o d ps = true := by
    rw [minL_ge (by rw [restsL, tab_len]; exact h)]
    unfold fairB
    rw [allN_iff]
    constructor
    · intro h1 k hk
      have := h1 _ (mem_tab.2 ⟨k, hk, rfl⟩)
      simp only [decide_eq_true_eq]; omega
    · intro h1 x hx
      obtain ⟨k, hk, rfl⟩ := mem_tab.1 hx
      have := h1 k hk
      simp only [decide_eq_true_eq] at this; omega
  cases hf : fairB o d ps with
  | true => rw [decide_eq_true]; exact e.2 hf
  | false => rw [decide_eq_false]; intro h1; rw [e.1 h1] at hf; cases hf
end Go.Vc
