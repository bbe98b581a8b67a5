/- Plain facts on swaps and on greedy sets: no program in sight. -/
import Derived.Test.YtgcbdpehnonghaaPlB
namespace Go.Vc
set_option linter.unusedSimpArgs false
set_option linter.unusedVariables false

theorem cutL_pre {α : Type} (xs : List α) (k : Nat) : cutL xs 0 (k : Int) = xs.take k := by simp [cutL]
theorem cutL_suf {α : Type} (xs : List α) (k : Nat) : cutL xs (k : Int) (xs.length : Int) = xs.drop k := by simp [cutL]
theorem putF_at {n : Int} : ∀ {xs : List Int} {k : Nat}, k <= xs.length -> (∀ j : Nat, j < k -> ix xs (j : Int) < n) -> (k < xs.length -> n <= ix xs (k : Int)) -> putF xs n = if k < xs.length /\ ix xs (k : Int) = n then xs else xs.take k ++ n :: xs.drop k
  | [], k, hk, _, _ => by
    have : k = 0 := by simpa using hk
    subst this; simp [putF]
  | x :: r, 0, _, _, h2 => by
    have h := h2 (by simp)
    have e0 : ix (x :: r) ((0 : Nat) : Int) = x := rfl
    rw [e0] at h ⊢
    unfold putF
    rw [if_neg (by omega)]
    by_cases e : x = n
    · rw [if_pos e, if_pos ⟨by simp, e⟩]
    · rw [if_neg e, if_neg (fun h => e h.2)]; rfl
  | x :: r, k + 1, hk, h1, h2 => by
    have hx : x < n := h1 0 (by omega)
    have ih := putF_at (n := n) (xs := r) (k := k) (by simpa using hk) (fun j hj => by have := h1 (j + 1) (by omega); rwa [ix_cons_succ] at this) (fun hk => by have := h2 (by simpa using hk); rwa [ix_cons_succ] at this)
    rw [putF, if_pos hx, ih, ix_cons_succ]
    by_cases e : k < r.length /\ ix r (k : Int) = n
    · rw [if_pos e, if_pos ⟨by simpa using e.1, e.2⟩]
    · rw [if_neg e, if_neg (fun h => e ⟨by simpa using h.1, h.2⟩)]; rfl
theorem putF_len {n : Int} : ∀ {xs : List Int}, n ∉ xs -> (putF xs n).length = xs.length + 1
  | [], _ => rfl
  | x :: r, h => by
    unfold putF
    split
    · simp [putF_len (xs := r) (fun hm => h (List.mem_cons_of_mem _ hm))]
    · split
      · rename_i e; subst e; exact (h List.mem_cons_self).elim
      · simp
theorem putF_le {n : Int} : ∀ {xs : List Int}, (putF xs n).length <= xs.length + 1
  | [] => by simp [putF]
  | x :: r => by
    have := putF_le (n := n) (xs := r)
    unfold putF
    split
    · simp only [List.length_cons]; omega
    · split <;> simp
theorem up_len {xs : List Int} {n : Nat} (h : Up xs) (hb : ∀ x ∈ xs, 0 <= x /\ x < n) : xs.length <= n := by
  rw [up_eq_sel h hb]; exact sel_len _ _
theorem sel_full {p : Nat -> Bool} : ∀ {n : Nat}, (∀ k, k < n -> p k = true) -> (sel p n).length = n
  | 0, _ => rfl
  | n + 1, h => by rw [sel_t (h n (by omega)), List.length_append, sel_full (fun k hk => h k (by omega))]; rfl
/-- A set that is not full leaves a number out. -/
theorem up_out {xs : List Int} {n : Nat} (h : Up xs) (hb : ∀ x ∈ xs, 0 <= x /\ x < n) (hl : xs.length < n) : ∃ k : Nat, k < n /\ (k : Int) ∉ xs := by
  by_cases hex : ∃ k : Nat, k < n /\ (k : Int) ∉ xs
  · exact hex
  · exfalso
    have hall : ∀ k, k < n -> hasB xs k = true := fun k hk => by
      by_cases hm : (k : Int) ∈ xs
      · exact decide_eq_true hm
      · exact (hex ⟨k, hk, hm⟩).elim
    have := sel_full hall
    rw [<- up_eq_sel h hb] at this
    omega
theorem OpenOK.mem {o : List Int} {d : List (List Int)} {set : List Int} (h : OpenOK o d set) {x : Int} (hx : x ∈ set) : 0 <= x /\ x < o.length := by
  obtain ⟨k, hk, rfl⟩ := mem_ix hx
  exact h.xin k hk
theorem openOf {o : List Int} {d : List (List Int)} {set : List Int} (hf : FieldOK o d) (hp : 0 < set.length) (hu : Up set) (hm : ∀ x ∈ set, 0 <= x /\ x < o.length) : OpenOK o d set :=
  ⟨hf, hp, by have := up_len hu hm; have := hf.n7; omega, fun k hk => hm _ (ix_mem set hk)⟩
theorem OpenOK.put {o : List Int} {d : List (List Int)} {set : List Int} (hf : FieldOK o d) (hu : Up set) (hm : ∀ x ∈ set, 0 <= x /\ x < o.length) {a : Int} (ha : 0 <= a /\ a < o.length) : OpenOK o d (putF set a) := by
  refine openOf hf ?_ (up_putF hu) (fun x hx => ?_)
  · have : a ∈ putF set a := mem_putF.2 (.inl rfl)
    exact List.length_pos_of_mem this
  · rcases mem_putF.1 hx with e | e
    · subst e; exact ha
    · exact hm x e
theorem OpenOK.swap {o : List Int} {d : List (List Int)} {set : List Int} (h : OpenOK o d set) (hu : Up set) (a : Int) {b : Int} (hb : 0 <= b /\ b < o.length) : OpenOK o d (swapL set a b) :=
  OpenOK.put h.f (up_without hu a) (fun x hx => h.mem (mem_without.1 hx).1) hb
theorem bit7 (a : Int) (h : 0 <= a /\ a < 7) : 1 * 2 ^ a.toNat < 128 := by
  have := pow7 a.toNat (by omega)
  rw [Nat.one_mul]
  exact Nat.pow_lt_pow_right (a := 2) (by omega) (show a.toNat < 7 by omega)
/-- A set put to bits, one bit less, one more. -/
theorem swap_bag {xs : List Int} (h : Up xs) (hb : ∀ x ∈ xs, 0 <= x /\ x < 7) {a b : Int} (ha : 0 <= a /\ a < 7) (hbb : 0 <= b /\ b < 7) :
    bagL ((bag xs ^^^ (bag xs &&& 1 * 2 ^ a.toNat)) ||| 1 * 2 ^ b.toNat) = swapL xs a b := by
  have hlt : (bag xs ^^^ (bag xs &&& 1 * 2 ^ a.toNat)) ||| 1 * 2 ^ b.toNat < 128 := or_lt (andNot_lt _ (bag_lt hb)) (bit7 b hbb)
  refine up_ext (up_sel _ _) (up_swap h a b) (fun x => ?_)
  have hm := mem_bagL (n := 7) (x := x) hlt (by omega)
  rw [hm, Nat.testBit_or, andNot_bit, testBit_one, testBit_one, bag_bit (fun x hx => (hb x hx).1), mem_swap]
  simp only [hasB, Bool.or_eq_true, Bool.and_eq_true, decide_eq_true_eq, Bool.not_eq_true', decide_eq_false_iff_not]
  constructor
  · rintro ⟨h0, ⟨h1, h2⟩ | h1⟩
    · rw [show ((x.toNat : Nat) : Int) = x by omega] at h1
      exact .inr ⟨h1, fun e => h2 (by rw [e])⟩
    · exact .inl (by omega)
  · rintro (e | ⟨h1, h2⟩)
    · subst e; exact ⟨hbb.1, .inr rfl⟩
    · have h0 := hb x h1
      refine ⟨h0.1, .inl ⟨by rw [show ((x.toNat : Nat) : Int) = x by omega]; exact h1, fun e => h2 (by omega)⟩⟩
theorem bag_put {xs : List Int} (hb : ∀ x ∈ xs, 0 <= x) {b : Int} (hbb : 0 <= b) : bag (putF xs b) = bag xs ||| 1 * 2 ^ b.toNat := by
  apply Nat.eq_of_testBit_eq
  intro a
  rw [Nat.testBit_or, testBit_one, bag_bit hb, bag_bit (fun x hx => by
    rcases mem_putF.1 hx with e | e
    · subst e; exact hbb
    · exact hb x e)]
  simp only [hasB]
  rw [Bool.eq_iff_iff]
  simp only [decide_eq_true_eq, Bool.or_eq_true, mem_putF]
  constructor
  · rintro (e | e)
    · exact .inr (by omega)
    · exact .inl e
  · rintro (e | e)
    · exact .inr e
    · exact .inl (by omega)
theorem put_bag {xs : List Int} (h : Up xs) (hb : ∀ x ∈ xs, 0 <= x /\ x < 7) {b : Int} (hbb : 0 <= b /\ b < 7) : bagL (bag xs ||| 1 * 2 ^ b.toNat) = putF xs b := by
  rw [<- bag_put (fun x hx => (hb x hx).1) hbb.1]
  exact bagL_bag (n := 7) (up_putF h) (fun x hx => by
    rcases mem_putF.1 hx with e | e
    · subst e; exact hbb
    · exact hb x e) (by omega)

/-! swaps -/
def swapB (o : List Int) (d : List (List Int)) (set : List Int) (a b : Int) : Bool := opened o d set && (decide (a ∈ set) && (!decide (b ∈ set) && decide (0 <= b /\ b <= (o.length : Int) - 1)))
theorem opened_up {o : List Int} {d : List (List Int)} {set : List Int} (h : opened o d set = true) : Up set := by
  simp only [opened, Bool.and_eq_true] at h
  exact ris_up h.2.1
def gain (d : List (List Int)) (set : List Int) (a b : Int) : Int := svc d set - svc d (swapL set a b)
theorem OpenOK.svc_bd {o : List Int} {d : List (List Int)} {set : List Int} (h : OpenOK o d set) : 0 <= Go.Vc.svc d set /\ Go.Vc.svc d set <= 693 := h.svc (Nat.le_refl _)
theorem OpenOK.gain_bd {o : List Int} {d : List (List Int)} {set : List Int} (h : OpenOK o d set) (hu : Up set) (a : Int) {b : Int} (hb : 0 <= b /\ b < o.length) : -693 <= gain d set a b /\ gain d set a b <= 693 := by
  have h1 := h.svc_bd
  have h2 := (h.swap hu a hb).svc_bd
  unfold gain; omega
def stepSw (d : List (List Int)) (set : List Int) (a b : Int) (s : Int × Int × Int) : Int × Int × Int := if b ∈ set then s else if s.2.2 < gain d set a b then (a, b, gain d set a b) else s
def rowG (d : List (List Int)) (set : List Int) (a : Int) : Nat -> Int × Int × Int -> Int × Int × Int
  | 0, s => s
  | n + 1, s => stepSw d set a (n : Int) (rowG d set a n s)
def findG (o : List Int) (d : List (List Int)) (set : List Int) : Nat -> Int × Int × Int
  | 0 => (0, 0, 0)
  | k + 1 => rowG d set (ix set (k : Int)) o.length (findG o d set k)
theorem stepSw_in {d : List (List Int)} {set : List Int} {a b : Int} {s : Int × Int × Int} (h : b ∈ set) : stepSw d set a b s = s := by unfold stepSw; rw [if_pos h]
theorem stepSw_yes {d : List (List Int)} {set : List Int} {a b : Int} {s : Int × Int × Int} (h : b ∉ set) (h2 : s.2.2 < gain d set a b) : stepSw d set a b s = (a, b, gain d set a b) := by unfold stepSw; rw [if_neg h, if_pos h2]
theorem stepSw_no {d : List (List Int)} {set : List Int} {a b : Int} {s : Int × Int × Int} (h : b ∉ set) (h2 : ¬ s.2.2 < gain d set a b) : stepSw d set a b s = s := by unfold stepSw; rw [if_neg h, if_neg h2]
theorem rowG_bd {o : List Int} {d : List (List Int)} {set : List Int} (h : OpenOK o d set) (hu : Up set) (a : Int) : ∀ (n : Nat) (s : Int × Int × Int), n <= o.length -> (0 <= s.2.2 /\ s.2.2 <= 693) -> 0 <= (rowG d set a n s).2.2 /\ (rowG d set a n s).2.2 <= 693
  | 0, s, _, hs => hs
  | n + 1, s, hn, hs => by
    have h1 := rowG_bd h hu a n s (by omega) hs
    have h2 := h.gain_bd hu a (b := (n : Int)) (by omega)
    unfold rowG stepSw
    split
    · exact h1
    · split
      · dsimp only; omega
      · exact h1
theorem findG_bd {o : List Int} {d : List (List Int)} {set : List Int} (h : OpenOK o d set) (hu : Up set) : ∀ k : Nat, 0 <= (findG o d set k).2.2 /\ (findG o d set k).2.2 <= 693
  | 0 => by unfold findG; decide
  | k + 1 => rowG_bd h hu _ _ _ (Nat.le_refl _) (findG_bd h hu k)

/-! the greedy set -/
def medB (o : List Int) (d : List (List Int)) (k : Int) : Bool := good o d && decide (1 <= k /\ k <= (o.length : Int))
def bestG (d : List (List Int)) (set : List Int) : Nat -> Int
  | 0 => -1
  | n + 1 => if (n : Int) ∉ set /\ (bestG d set n < 0 \/ svc d (putF set (n : Int)) < svc d (putF set (bestG d set n))) then (n : Int) else bestG d set n
theorem bestG_bd (d : List (List Int)) (set : List Int) : ∀ n : Nat, bestG d set n = -1 \/ (0 <= bestG d set n /\ bestG d set n < n /\ bestG d set n ∉ set)
  | 0 => .inl rfl
  | n + 1 => by
    unfold bestG
    split
    · rename_i h; exact .inr ⟨by omega, by omega, h.1⟩
    · rcases bestG_bd d set n with h | h
      · exact .inl h
      · exact .inr ⟨h.1, by omega, h.2.2⟩
theorem bestG_ge (d : List (List Int)) (set : List Int) : ∀ {n k : Nat}, k < n -> (k : Int) ∉ set -> 0 <= bestG d set n
  | n + 1, k, hk, hs => by
    unfold bestG
    split
    · omega
    · rename_i h
      by_cases e : k = n
      · subst e
        by_cases h2 : bestG d set k < 0
        · exact (h ⟨hs, .inl h2⟩).elim
        · omega
      · exact bestG_ge d set (by omega) hs
def greedy (o : List Int) (d : List (List Int)) : Nat -> List Int × List Int
  | 0 => ([], [])
  | k + 1 => ((greedy o d k).1 ++ [bestG d (greedy o d k).2 o.length], putF (greedy o d k).2 (bestG d (greedy o d k).2 o.length))
structure GreedyOK (o : List Int) (s : List Int × List Int) (k : Nat) : Prop where
  len : s.1.length = k
  up : Up s.2
  mem : ∀ x ∈ s.2, 0 <= x /\ x < o.length
  len2 : s.2.length = k
theorem GreedyOK.best {o : List Int} {d : List (List Int)} {s : List Int × List Int} {k : Nat} (h : GreedyOK o s k) (hk : k < o.length) : 0 <= bestG d s.2 o.length /\ bestG d s.2 o.length < o.length /\ bestG d s.2 o.length ∉ s.2 := by
  obtain ⟨q, hq, hn⟩ := up_out h.up h.mem (by rw [h.len2]; exact hk)
  have h1 := bestG_ge d s.2 hq hn
  rcases bestG_bd d s.2 o.length with h2 | h2
  · omega
  · exact h2
theorem greedy_ok (o : List Int) (d : List (List Int)) : ∀ k : Nat, k <= o.length -> GreedyOK o (greedy o d k) k
  | 0, _ => ⟨rfl, List.Pairwise.nil, fun x hx => (by cases hx), rfl⟩
  | k + 1, hk => by
    have ih := greedy_ok o d k (by omega)
    have hb := ih.best (d := d) (by omega)
    refine ⟨?_, up_putF ih.up, fun x hx => ?_, ?_⟩
    · show ((greedy o d k).1 ++ [_]).length = _
      rw [List.length_append, ih.len]; rfl
    · rcases mem_putF.1 hx with e | e
      · subst e; exact ⟨hb.1, hb.2.1⟩
      · exact ih.mem x e
    · show (putF (greedy o d k).2 _).length = _
      rw [putF_len hb.2.2, ih.len2]
end Go.Vc
