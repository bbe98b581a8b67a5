/- Plain facts on service: no program in sight. -/
import Derived.Test.YtgcbdpehnonghaaPlF
namespace Go.Vc
set_option linter.unusedSimpArgs false
set_option linter.unusedVariables false

/-- The numbers lie within bounds and rise. -/
def ris (lo hi : Int) (xs : List Int) : Bool := decide (∀ k, k < xs.length -> (lo <= ix xs (k : Int) /\ ix xs (k : Int) <= hi) /\ (0 < k -> ix xs ((k : Int) - 1) < ix xs (k : Int)))
theorem ris_mem {lo hi : Int} {xs : List Int} (h : ris lo hi xs = true) {k : Nat} (hk : k < xs.length) : lo <= ix xs (k : Int) /\ ix xs (k : Int) <= hi := ((of_decide_eq_true h) k hk).1
theorem mem_ix {xs : List Int} {x : Int} (h : x ∈ xs) : ∃ k : Nat, k < xs.length /\ ix xs (k : Int) = x := by
  obtain ⟨k, hk, e⟩ := List.mem_iff_getElem.1 h
  refine ⟨k, hk, ?_⟩
  have := ix_some xs hk
  rw [List.getElem?_eq_getElem hk, e] at this
  exact (Option.some.inj this).symm
/-! payments -/
def pay (o : List Int) (xs : List Int) : Int := (xs.map fun a => ix o a).sum
theorem pay_nil (o : List Int) : pay o [] = 0 := rfl
theorem pay_take (o xs : List Int) {k : Nat} (h : k < xs.length) : pay o (xs.take (k + 1)) = pay o (xs.take k) + ix o (ix xs (k : Int)) := by
  rw [take_ix xs h, pay, List.map_append, List.sum_append]; simp [pay]
theorem pay_bd {o : List Int} (ho : ∀ a : Int, 0 <= a -> a < o.length -> 0 <= ix o a /\ ix o a <= 99) : ∀ (xs : List Int), (∀ x ∈ xs, 0 <= x /\ x < o.length) -> 0 <= pay o xs /\ pay o xs <= 99 * xs.length
  | [], _ => by simp [pay]
  | x :: r, h => by
    have h1 := pay_bd ho r (fun y hy => h y (List.mem_cons_of_mem _ hy))
    have h2 := ho x (h x (List.mem_cons_self)).1 (h x (List.mem_cons_self)).2
    have e : pay o (x :: r) = ix o x + pay o r := by simp [pay]
    rw [e]; simp only [List.length_cons]; omega
structure PayOK (o xs : List Int) : Prop where
  o99 : ∀ a : Int, 0 <= a -> a < o.length -> 0 <= ix o a /\ ix o a <= 99
  xin : ∀ k : Nat, k < xs.length -> 0 <= ix xs (k : Int) /\ ix xs (k : Int) < o.length
  len : xs.length <= 1048576000
theorem PayOK.bd {o xs : List Int} (h : PayOK o xs) {k : Nat} (hk : k <= xs.length) : 0 <= pay o (xs.take k) /\ pay o (xs.take k) <= 103809024000 := by
  have h1 := pay_bd h.o99 (xs.take k) (fun x hx => by
    obtain ⟨j, hj, e⟩ := mem_ix (List.mem_of_mem_take hx)
    exact e ▸ h.xin j hj)
  have := h.len
  rw [List.length_take, Nat.min_eq_left hk] at h1
  omega
theorem payOK_of {o xs : List Int} {d : List (List Int)} (hg : good o d = true) (hr : ris 0 (o.length - 1) xs = true) (hl : xs.length <= 1048576000) : PayOK o xs :=
  ⟨fun a h0 h1 => (good_iff.1 hg).o99 _ (ix_memI o h0 h1), fun k hk => by have := ris_mem hr hk; omega, hl⟩

/-! the site by which a client is served -/
def srvF (row : List Int) : Int -> List Int -> Int
  | b, [] => b
  | b, a :: r => srvF row (if ix row a < ix row b then a else b) r
theorem srvF_take (row xs : List Int) (b : Int) {k : Nat} (h : k < xs.length) : srvF row b (xs.take (k + 1)) = if ix row (ix xs (k : Int)) < ix row (srvF row b (xs.take k)) then ix xs (k : Int) else srvF row b (xs.take k) := by
  rw [take_ix xs h]
  generalize xs.take k = l
  induction l generalizing b with
  | nil => rfl
  | cons x l ih => exact ih _
def srv (row set : List Int) : Int := srvF row (ix set 0) set
def near (row set : List Int) : Int := ix row (srv row set)
def svc (d : List (List Int)) (set : List Int) : Int := sumN (fun i => near (ix d (i : Int)) set) d.length
def far (d : List (List Int)) (set : List Int) : Int := maxF (tab d.length fun i => near (ix d (i : Int)) set) 0
def total (o : List Int) (d : List (List Int)) (set : List Int) : Int := pay o set + svc d set
def servedL (d : List (List Int)) (set : List Int) : List Int := tab d.length fun i => srv (ix d (i : Int)) set
def lengthsL (d : List (List Int)) (set : List Int) : List Int := tab d.length fun i => near (ix d (i : Int)) set
def opened (o : List Int) (d : List (List Int)) (set : List Int) : Bool := good o d && (ris 0 (o.length - 1) set && decide (0 < (set.length : Int)))
structure OpenOK (o : List Int) (d : List (List Int)) (set : List Int) : Prop where
  f : FieldOK o d
  pos : 0 < set.length
  len : set.length <= 1048576000
  xin : ∀ k : Nat, k < set.length -> 0 <= ix set (k : Int) /\ ix set (k : Int) < o.length
theorem opened_iff {o : List Int} {d : List (List Int)} {set : List Int} (hl : set.length <= 1048576000) (h : opened o d set = true) : OpenOK o d set := by
  simp only [opened, Bool.and_eq_true, decide_eq_true_eq] at h
  exact ⟨good_iff.1 h.1, by omega, hl, fun k hk => by have := ris_mem h.2.1 hk; omega⟩
theorem OpenOK.pay {o : List Int} {d : List (List Int)} {set : List Int} (h : OpenOK o d set) : PayOK o set := ⟨fun a h0 h1 => h.f.o99 _ (ix_memI o h0 h1), h.xin, h.len⟩
theorem srvF_in {n : Int} (row : List Int) : ∀ (xs : List Int) (b : Int), (0 <= b /\ b < n) -> (∀ x ∈ xs, 0 <= x /\ x < n) -> 0 <= srvF row b xs /\ srvF row b xs < n
  | [], b, hb, _ => hb
  | x :: r, b, hb, h => by
    refine srvF_in row r _ ?_ (fun y hy => h y (List.mem_cons_of_mem _ hy))
    split
    · exact h x List.mem_cons_self
    · exact hb
theorem OpenOK.take {o : List Int} {d : List (List Int)} {set : List Int} (h : OpenOK o d set) (row : List Int) (k : Nat) : 0 <= srvF row (ix set 0) (set.take k) /\ srvF row (ix set 0) (set.take k) < o.length :=
  srvF_in row _ _ (h.xin 0 h.pos) (fun x hx => by
    obtain ⟨j, hj, e⟩ := mem_ix (List.mem_of_mem_take hx)
    exact e ▸ h.xin j hj)
theorem OpenOK.srv {o : List Int} {d : List (List Int)} {set : List Int} (h : OpenOK o d set) (row : List Int) : 0 <= srv row set /\ srv row set < o.length := by
  have := h.take row set.length
  rwa [List.take_length] at this
theorem OpenOK.near {o : List Int} {d : List (List Int)} {set : List Int} (h : OpenOK o d set) {i : Int} (h0 : 0 <= i) (h1 : i < d.length) : 0 <= near (ix d i) set /\ near (ix d i) set <= 99 :=
  h.f.d_ix h0 h1 (h.srv _).1 (h.srv _).2
theorem OpenOK.svc {o : List Int} {d : List (List Int)} {set : List Int} (h : OpenOK o d set) {j : Nat} (hj : j <= d.length) : 0 <= sumN (fun i => Go.Vc.near (ix d (i : Int)) set) j /\ sumN (fun i => Go.Vc.near (ix d (i : Int)) set) j <= 693 := by
  have := sumN_bd (f := fun i => Go.Vc.near (ix d (i : Int)) set) (lo := 0) (hi := 99) (n := j) (fun i hi => h.near (by omega) (by omega))
  have := h.f.m7
  omega
theorem maxF_le : ∀ (xs : List Int) (m b : Int), maxF xs m <= b ↔ m <= b /\ ∀ x ∈ xs, x <= b
  | [], m, b => by simp [maxF]
  | x :: r, m, b => by
    rw [maxF, maxF_le r]
    simp only [List.mem_cons, forall_eq_or_imp]
    rw [Int.max_le]
    exact ⟨fun ⟨⟨h1, h2⟩, h3⟩ => ⟨h1, h2, h3⟩, fun ⟨h1, h2, h3⟩ => ⟨⟨h1, h2⟩, h3⟩⟩
theorem maxL_le {xs : List Int} (h : 0 < xs.length) (b : Int) : maxL xs <= b ↔ ∀ x ∈ xs, x <= b := by
  cases xs with
  | nil => simp at h
  | cons x r =>
    unfold maxL
    rw [maxF_le]
    simp [ix_cons_zero]
theorem maxL_zero (xs : List Int) : maxL (xs ++ [0]) = maxF xs 0 := by
  have key : ∀ b, maxL (xs ++ [0]) <= b ↔ maxF xs 0 <= b := fun b => by
    rw [maxL_le (by simp), maxF_le]
    simp only [List.mem_append, List.mem_singleton]
    exact ⟨fun h => ⟨h 0 (.inr rfl), fun x hx => h x (.inl hx)⟩, fun ⟨h1, h2⟩ x hx => by
      rcases hx with hx | hx
      · exact h2 x hx
      · subst hx; exact h1⟩
  exact Int.le_antisymm ((key _).2 (Int.le_refl _)) ((key _).1 (Int.le_refl _))
theorem sum_take (xs : List Int) {k : Nat} (h : k < xs.length) : (xs.take (k + 1)).sum = (xs.take k).sum + ix xs (k : Int) := by
  rw [take_ix xs h, List.sum_append]; simp
theorem sum_tab (f : Nat -> Int) : ∀ n : Nat, (tab n f).sum = sumN f n
  | 0 => rfl
  | n + 1 => by rw [tab_succ, List.sum_append, sum_tab f n, sumN]; simp
end Go.Vc
