/- Plain facts on sets of numbers, as lists and as bits: no program in sight. -/
import Derived.Test.YtgcbdpehnonghaaPlS
namespace Go.Vc
set_option linter.unusedSimpArgs false
set_option linter.unusedVariables false

/-! rising lists -/
def Up (xs : List Int) : Prop := xs.Pairwise (· < ·)
theorem up_ext : ∀ {xs ys : List Int}, Up xs -> Up ys -> (∀ a, a ∈ xs ↔ a ∈ ys) -> xs = ys
  | [], [], _, _, _ => rfl
  | [], y :: ys, _, _, h => by have := (h y).2 List.mem_cons_self; cases this
  | x :: xs, [], _, _, h => by have := (h x).1 List.mem_cons_self; cases this
  | x :: xs, y :: ys, h1, h2, h => by
    obtain ⟨h3, h4⟩ := List.pairwise_cons.1 h1
    obtain ⟨h5, h6⟩ := List.pairwise_cons.1 h2
    have e : x = y := by
      rcases List.mem_cons.1 ((h x).1 List.mem_cons_self) with e | e
      · exact e
      · rcases List.mem_cons.1 ((h y).2 List.mem_cons_self) with e' | e'
        · exact e'.symm
        · have := h5 x e; have := h3 y e'; omega
    subst e
    congr 1
    refine up_ext h4 h6 (fun a => ⟨fun ha => ?_, fun ha => ?_⟩)
    · rcases List.mem_cons.1 ((h a).1 (List.mem_cons_of_mem _ ha)) with e | e
      · subst e; have := h3 a ha; omega
      · exact e
    · rcases List.mem_cons.1 ((h a).2 (List.mem_cons_of_mem _ ha)) with e | e
      · subst e; have := h5 a ha; omega
      · exact e
theorem up_sel (p : Nat -> Bool) : ∀ n, Up (sel p n)
  | 0 => List.Pairwise.nil
  | n + 1 => by
    unfold sel
    split
    · refine List.pairwise_append.2 ⟨up_sel p n, List.pairwise_singleton _ _, fun a ha b hb => ?_⟩
      obtain ⟨k, hk, _, rfl⟩ := mem_sel.1 ha
      simp at hb; subst hb; omega
    · exact up_sel p n
theorem ris_up {lo hi : Int} {xs : List Int} (h : ris lo hi xs = true) : Up xs := by
  have h1 := of_decide_eq_true h
  rw [Up, List.pairwise_iff_getElem]
  have key : ∀ j i : Nat, i < j -> j < xs.length -> ix xs (i : Int) < ix xs (j : Int) := by
    intro j
    induction j with
    | zero => intro i hi; omega
    | succ j ih =>
      intro i hi hj
      have h2 := (h1 (j + 1) hj).2 (by omega)
      rw [show (((j + 1 : Nat) : Int) - 1) = (j : Int) by omega] at h2
      by_cases e : i = j
      · subst e; exact h2
      · have := ih i (by omega) (by omega); omega
  intro i j hi hj hij
  have := key j i hij hj
  have e1 := ix_some xs hi
  have e2 := ix_some xs hj
  rw [List.getElem?_eq_getElem hi] at e1
  rw [List.getElem?_eq_getElem hj] at e2
  rw [Option.some.inj e1, Option.some.inj e2]; exact this
theorem up_ris {lo hi : Int} {xs : List Int} (h : Up xs) (hb : ∀ x ∈ xs, lo <= x /\ x <= hi) : ris lo hi xs = true := by
  refine decide_eq_true (fun k hk => ⟨hb _ (ix_mem xs hk), fun h0 => ?_⟩)
  obtain ⟨j, rfl⟩ : ∃ j, k = j + 1 := ⟨k - 1, by omega⟩
  rw [show (((j + 1 : Nat) : Int) - 1) = (j : Int) by omega]
  have h2 := List.pairwise_iff_getElem.1 h j (j + 1) (by omega) hk (by omega)
  have e1 := ix_some xs (show j < xs.length by omega)
  have e2 := ix_some xs hk
  rw [List.getElem?_eq_getElem (by omega)] at e1
  rw [List.getElem?_eq_getElem hk] at e2
  rw [<- Option.some.inj e1, <- Option.some.inj e2]; exact h2
def hasB (xs : List Int) (a : Nat) : Bool := decide ((a : Int) ∈ xs)
/-- A rising list within bounds, by its members. -/
theorem up_eq_sel {xs : List Int} {n : Nat} (h : Up xs) (hb : ∀ x ∈ xs, 0 <= x /\ x < n) : xs = sel (hasB xs) n :=
  up_ext h (up_sel _ _) (fun a => by
    rw [mem_sel]
    constructor
    · intro ha
      have := hb a ha
      exact ⟨a.toNat, by omega, by unfold hasB; exact decide_eq_true (by rw [show ((a.toNat : Nat) : Int) = a by omega]; exact ha), by omega⟩
    · rintro ⟨k, _, h2, rfl⟩
      exact of_decide_eq_true h2)
theorem sel_ext {p q : Nat -> Bool} {n m : Nat} (h : ∀ k, (k < n /\ p k = true) ↔ (k < m /\ q k = true)) : sel p n = sel q m :=
  up_ext (up_sel _ _) (up_sel _ _) (fun a => by
    rw [mem_sel, mem_sel]
    constructor
    · rintro ⟨k, h1, h2, h3⟩; have := (h k).1 ⟨h1, h2⟩; exact ⟨k, this.1, this.2, h3⟩
    · rintro ⟨k, h1, h2, h3⟩; have := (h k).2 ⟨h1, h2⟩; exact ⟨k, this.1, this.2, h3⟩)

/-! one number less, one more -/
def without (xs : List Int) (a : Int) : List Int := xs.filter fun x => decide (x ≠ a)
theorem mem_without {xs : List Int} {a x : Int} : x ∈ without xs a ↔ x ∈ xs /\ x ≠ a := by simp [without]
theorem up_without {xs : List Int} (h : Up xs) (a : Int) : Up (without xs a) := List.Pairwise.filter _ h
/-- Put a number to its place, once. -/
def putF : List Int -> Int -> List Int
  | [], n => [n]
  | x :: r, n => if x < n then x :: putF r n else if x = n then x :: r else n :: x :: r
theorem mem_putF {n a : Int} : ∀ {xs : List Int}, a ∈ putF xs n ↔ a = n \/ a ∈ xs
  | [] => by simp [putF]
  | x :: r => by
    unfold putF
    split
    · rw [List.mem_cons, mem_putF (xs := r), List.mem_cons]
      constructor
      · rintro (h | h | h) <;> simp [h]
      · rintro (h | h | h) <;> simp [h]
    · split
      · rename_i h; subst h; simp
      · simp
theorem up_putF {n : Int} : ∀ {xs : List Int}, Up xs -> Up (putF xs n)
  | [], _ => List.pairwise_singleton _ _
  | x :: r, h => by
    obtain ⟨h1, h2⟩ := List.pairwise_cons.1 h
    unfold putF
    split
    · refine List.pairwise_cons.2 ⟨fun a ha => ?_, up_putF h2⟩
      rcases mem_putF.1 ha with e | e
      · omega
      · exact h1 a e
    · split
      · exact h
      · refine List.pairwise_cons.2 ⟨fun a ha => ?_, h⟩
        rcases List.mem_cons.1 ha with e | e
        · omega
        · have := h1 a e; omega
/-- The set after a swap. -/
def swapL (xs : List Int) (a b : Int) : List Int := putF (without xs a) b
theorem up_swap {xs : List Int} (h : Up xs) (a b : Int) : Up (swapL xs a b) := up_putF (up_without h a)
theorem mem_swap {xs : List Int} {a b x : Int} : x ∈ swapL xs a b ↔ x = b \/ (x ∈ xs /\ x ≠ a) := by rw [swapL, mem_putF, mem_without]

/-! bits -/
/-- The bits of a list. -/
def bagF : List Int -> Nat -> Nat
  | [], b => b
  | x :: r, b => bagF r (b ||| (1 * 2 ^ x.toNat))
theorem bagF_take (xs : List Int) (b : Nat) {k : Nat} (h : k < xs.length) : bagF (xs.take (k + 1)) b = bagF (xs.take k) b ||| (1 * 2 ^ (ix xs (k : Int)).toNat) := by
  rw [take_ix xs h]
  generalize xs.take k = l
  induction l generalizing b with
  | nil => rfl
  | cons x l ih => exact ih _
theorem testBit_one (n a : Nat) : (1 * 2 ^ n).testBit a = decide (n = a) := by rw [Nat.one_mul]; exact Nat.testBit_two_pow
theorem bagF_bit : ∀ (xs : List Int) (b a : Nat), (∀ x ∈ xs, 0 <= x) -> (bagF xs b).testBit a = (b.testBit a || decide ((a : Int) ∈ xs))
  | [], b, a, _ => by simp [bagF]
  | x :: r, b, a, h => by
    rw [bagF, bagF_bit r _ a (fun y hy => h y (List.mem_cons_of_mem _ hy)), Nat.testBit_or, testBit_one]
    have h0 := h x List.mem_cons_self
    have e : decide (x.toNat = a) = decide ((a : Int) = x) := decide_eq_decide.2 (by omega)
    rw [e]
    simp only [List.mem_cons, Bool.decide_or, Bool.or_assoc]
def bag (xs : List Int) : Nat := bagF xs 0
theorem bag_bit {xs : List Int} (h : ∀ x ∈ xs, 0 <= x) (a : Nat) : (bag xs).testBit a = hasB xs a := by rw [bag, bagF_bit xs 0 a h]; simp [hasB]
theorem bagF_lt {n : Nat} : ∀ (xs : List Int) (b : Nat), b < 2 ^ n -> (∀ x ∈ xs, 0 <= x /\ x < n) -> bagF xs b < 2 ^ n
  | [], b, hb, _ => hb
  | x :: r, b, hb, h => by
    have h0 := h x List.mem_cons_self
    refine bagF_lt r _ (Nat.or_lt_two_pow hb ?_) (fun y hy => h y (List.mem_cons_of_mem _ hy))
    rw [Nat.one_mul]
    exact Nat.pow_lt_pow_right (by omega) (by omega)
/-- The numbers whose bits are set. -/
def bagL (b : Nat) : List Int := sel b.testBit 64
theorem bit_lt {b n k : Nat} (hb : b < 2 ^ n) (h : b.testBit k = true) : k < n := by
  refine Nat.lt_of_not_le (fun hk => ?_)
  rw [Nat.testBit_lt_two_pow (Nat.lt_of_lt_of_le hb (Nat.pow_le_pow_right (by omega) hk))] at h
  cases h
theorem bagL_eq {b n : Nat} (hb : b < 2 ^ n) (hn : n <= 64) : bagL b = sel b.testBit n :=
  sel_ext (fun k => ⟨fun h => ⟨bit_lt hb h.2, h.2⟩, fun h => ⟨by omega, h.2⟩⟩)
theorem mem_bagL {b n : Nat} (hb : b < 2 ^ n) (hn : n <= 64) {x : Int} : x ∈ bagL b ↔ 0 <= x /\ b.testBit x.toNat = true := by
  unfold bagL
  rw [mem_sel]
  constructor
  · rintro ⟨k, h1, h2, rfl⟩; exact ⟨by omega, by simpa using h2⟩
  · intro h
    have := bit_lt hb h.2
    exact ⟨x.toNat, by omega, h.2, by omega⟩
/-- A rising list of small numbers is the list of its bits. -/
theorem bagL_bag {xs : List Int} {n : Nat} (h : Up xs) (hb : ∀ x ∈ xs, 0 <= x /\ x < n) (hn : n <= 64) : bagL (bag xs) = xs := by
  have h0 : bag xs < 2 ^ n := bagF_lt xs 0 (Nat.two_pow_pos n) hb
  refine up_ext (up_sel _ _) h (fun a => ?_)
  rw [mem_bagL h0 hn]
  constructor
  · rintro ⟨h1, h2⟩
    rw [bag_bit (fun x hx => (hb x hx).1)] at h2
    have := of_decide_eq_true h2
    rwa [show ((a.toNat : Nat) : Int) = a by omega] at this
  · intro ha
    have := hb a ha
    refine ⟨this.1, ?_⟩
    rw [bag_bit (fun x hx => (hb x hx).1)]
    exact decide_eq_true (by rw [show ((a.toNat : Nat) : Int) = a by omega]; exact ha)
theorem pow7 : ∀ m : Nat, m < 7 -> (0 : Int) <= 1 * 2 ^ m /\ (1 : Int) * 2 ^ m <= 64 /\ ((1 : Int) * 2 ^ m).toNat = 1 * 2 ^ m := by decide
theorem bitN_or (x y : Nat) : bitN .or x y = x ||| y := rfl
theorem bitN_and (x y : Nat) : bitN .and x y = x &&& y := rfl
theorem bitN_andNot (x y : Nat) : bitN .andNot x y = x ^^^ (x &&& y) := rfl
theorem bag_lt {xs : List Int} (h : ∀ x ∈ xs, 0 <= x /\ x < 7) : bag xs < 128 := bagF_lt (n := 7) xs 0 (by decide) h
theorem bagF_lt7 {xs : List Int} (h : ∀ x ∈ xs, 0 <= x /\ x < 7) (k : Nat) : bagF (xs.take k) 0 < 128 := bag_lt (fun x hx => h x (List.mem_of_mem_take hx))
theorem shr_pos (b x : Nat) : 0 < (b : Int) / 2 ^ x ↔ 2 ^ x <= b := by
  have e : (b : Int) / 2 ^ x = ((b / 2 ^ x : Nat) : Int) := by simp
  rw [e]
  have h : 0 < b / 2 ^ x ↔ 2 ^ x <= b := Nat.div_pos_iff.trans ⟨fun h => h.2, fun h => ⟨Nat.two_pow_pos x, h⟩⟩
  omega
theorem shr_nat (b x : Nat) : ((b : Int) / 2 ^ x).toNat = b / 2 ^ x := by
  have e : (b : Int) / 2 ^ x = ((b / 2 ^ x : Nat) : Int) := by simp
  rw [e]; rfl
theorem shr_le (b x : Nat) : 0 <= (b : Int) / 2 ^ x /\ (b : Int) / 2 ^ x <= b := by
  have e : (b : Int) / 2 ^ x = ((b / 2 ^ x : Nat) : Int) := by simp
  rw [e]
  exact ⟨Int.natCast_nonneg _, Int.ofNat_le.2 (Nat.div_le_self _ _)⟩
theorem bit_one (b x : Nat) : decide ((((b / 2 ^ x) &&& 1 : Nat) : Int) = 1) = b.testBit x := by
  rw [Nat.testBit_eq_decide_div_mod_eq, Nat.and_one_is_mod]
  exact decide_eq_decide.2 (by omega)
theorem lt_pow7 {b x : Nat} (hb : b < 128) (hx : 2 ^ x <= b) : x < 7 := by
  refine Nat.lt_of_not_le (fun h => ?_)
  have : 2 ^ 7 <= 2 ^ x := Nat.pow_le_pow_right (by omega) h
  omega
theorem xor_lt {a b : Nat} (ha : a < 128) (hb : b < 128) : a ^^^ b < 128 := Nat.xor_lt_two_pow (n := 7) ha hb
theorem andNot_lt {a : Nat} (b : Nat) (ha : a < 128) : a ^^^ (a &&& b) < 128 := xor_lt ha (Nat.lt_of_le_of_lt Nat.and_le_left ha)
theorem andNot_bit (x y a : Nat) : (x ^^^ (x &&& y)).testBit a = (x.testBit a && !y.testBit a) := by
  rw [Nat.testBit_xor, Nat.testBit_and]
  cases x.testBit a <;> cases y.testBit a <;> rfl
theorem or_lt {a b : Nat} (ha : a < 128) (hb : b < 128) : a ||| b < 128 := Nat.or_lt_two_pow (n := 7) ha hb
theorem filter_take (p : Int -> Bool) (xs : List Int) {k : Nat} (h : k < xs.length) : (xs.take (k + 1)).filter p = (xs.take k).filter p ++ if p (ix xs (k : Int)) = true then [ix xs (k : Int)] else [] := by
  rw [take_ix xs h, List.filter_append]
  congr 1
  cases hp : p (ix xs (k : Int)) <;> simp [List.filter, hp]
theorem filter_take_t {p : Int -> Bool} {xs : List Int} {k : Nat} (h : k < xs.length) (hp : p (ix xs (k : Int)) = true) : (xs.take (k + 1)).filter p = (xs.take k).filter p ++ [ix xs (k : Int)] := by rw [filter_take p xs h, if_pos hp]
theorem filter_take_f {p : Int -> Bool} {xs : List Int} {k : Nat} (h : k < xs.length) (hp : p (ix xs (k : Int)) = false) : (xs.take (k + 1)).filter p = (xs.take k).filter p := by rw [filter_take p xs h, if_neg (by rw [hp]; simp), List.append_nil]
theorem filter_len (p : Int -> Bool) (xs : List Int) (k : Nat) : ((xs.take k).filter p).length <= k := by
  have := List.length_filter_le p (xs.take k)
  have := List.length_take_le k xs
  omega
theorem srvF_mem (row : List Int) : ∀ (xs : List Int) (b : Int), srvF row b xs = b \/ srvF row b xs ∈ xs
  | [], b => .inl rfl
  | x :: r, b => by
    rw [srvF]
    rcases srvF_mem row r (if ix row x < ix row b then x else b) with h | h
    · by_cases e : ix row x < ix row b
      · rw [if_pos e] at h ⊢; exact .inr (by rw [h]; exact List.mem_cons_self)
      · rw [if_neg e] at h ⊢; exact .inl h
    · exact .inr (List.mem_cons_of_mem _ h)
theorem srv_mem (row : List Int) {set : List Int} (h : 0 < set.length) : srv row set ∈ set := by
  unfold srv
  rcases srvF_mem row set (ix set 0) with e | e
  · rw [e]; exact ix_mem set h
  · exact e
theorem OpenOK.seven {o : List Int} {d : List (List Int)} {set : List Int} (h : OpenOK o d set) : ∀ x ∈ set, 0 <= x /\ x < 7 := fun x hx => by
  obtain ⟨k, hk, rfl⟩ := mem_ix hx
  have := h.xin k hk
  have := h.f.n7
  omega
/-- The clients that a site of a set serves. -/
def clientsL (d : List (List Int)) (set : List Int) (s : Int) : List Int := sel (fun i => decide (srv (ix d (i : Int)) set = s)) d.length
theorem clientsL_nil {d : List (List Int)} {set : List Int} {s : Int} : clientsL d set s = [] ↔ ∀ i, i < d.length -> srv (ix d (i : Int)) set ≠ s := by
  constructor
  · intro h i hi e
    have : (i : Int) ∈ clientsL d set s := mem_sel.2 ⟨i, hi, decide_eq_true e, rfl⟩
    rw [h] at this; cases this
  · intro h
    apply List.eq_nil_iff_forall_not_mem.2
    intro x hx
    obtain ⟨k, hk, h2, _⟩ := mem_sel.1 hx
    exact h k hk (of_decide_eq_true h2)
def idleL (d : List (List Int)) (set : List Int) : List Int := set.filter fun s => decide ((clientsL d set s).length = 0)
theorem idle_eq {o : List Int} {d : List (List Int)} {set : List Int} (h : OpenOK o d set) (hu : Up set) : bagL (bag set ^^^ (bag set &&& bag (servedL d set))) = idleL d set := by
  have h7 := h.seven
  have hs : ∀ x ∈ servedL d set, 0 <= x /\ x < 7 := fun x hx => by
    obtain ⟨k, hk, rfl⟩ := mem_tab.1 hx
    exact h7 _ (srv_mem _ h.pos)
  have hb := andNot_lt (bag (servedL d set)) (bag_lt h7)
  refine up_ext (up_sel _ _) (List.Pairwise.filter _ hu) (fun a => ?_)
  have hm := mem_bagL (n := 7) (x := a) hb (by omega)
  rw [hm, andNot_bit, bag_bit (fun x hx => (h7 x hx).1), bag_bit (fun x hx => (hs x hx).1), idleL, List.mem_filter]
  simp only [hasB, Bool.and_eq_true, decide_eq_true_eq, Bool.not_eq_true', decide_eq_false_iff_not]
  rw [List.length_eq_zero_iff, clientsL_nil]
  constructor
  · rintro ⟨h0, h1, h2⟩
    rw [show ((a.toNat : Nat) : Int) = a by omega] at h1 h2
    exact ⟨h1, fun i hi e => h2 (mem_tab.2 ⟨i, hi, e⟩)⟩
  · rintro ⟨h1, h2⟩
    have h0 := (h7 a h1).1
    rw [show ((a.toNat : Nat) : Int) = a by omega]
    exact ⟨h0, h1, fun hm => by obtain ⟨i, hi, e⟩ := mem_tab.1 hm; exact h2 i hi e⟩

/-! prices that meet a set -/
def meet1 (d : List (List Int)) (set : List Int) (p : Int) (j : Nat) : Bool :=
  decide (near (ix d (j : Int)) set <= p) && allN (fun i => !(decide (ix set (i : Int) ≠ srv (ix d (j : Int)) set) && decide (ix (ix d (j : Int)) (ix set (i : Int)) < p))) set.length
def meetT (o : List Int) (d : List (List Int)) (ps set : List Int) (i : Nat) : Bool := decide (clm d ps 1 (ix set (i : Int)) = ix o (ix set (i : Int)))
def meetB (o : List Int) (d : List (List Int)) (ps set : List Int) : Bool := allN (meetT o d ps set) set.length && allN (fun j => meet1 d set (ix ps (j : Int)) j) d.length
def meetK (d : List (List Int)) (set : List Int) (p : Int) (j i : Nat) : Bool :=
  !((decide (ix set (i : Int) = srv (ix d (j : Int)) set) && decide (p < ix (ix d (j : Int)) (ix set (i : Int)))) || (decide (ix set (i : Int) ≠ srv (ix d (j : Int)) set) && decide (ix (ix d (j : Int)) (ix set (i : Int)) < p)))
theorem meet1_eq {d : List (List Int)} {set : List Int} (h : 0 < set.length) (p : Int) (j : Nat) : allN (meetK d set p j) set.length = meet1 d set p j := by
  have key : allN (meetK d set p j) set.length = true ↔ meet1 d set p j = true := by
    rw [allN_iff, meet1, Bool.and_eq_true, allN_iff, decide_eq_true_eq]
    simp only [meetK, Bool.not_eq_true', Bool.or_eq_false_iff, Bool.and_eq_false_iff, decide_eq_false_iff_not]
    constructor
    · intro h1
      refine ⟨?_, fun k hk => (h1 k hk).2⟩
      obtain ⟨k, hk, e⟩ := mem_ix (srv_mem (ix d (j : Int)) h)
      have h2 := (h1 k hk).1
      rw [e] at h2
      unfold near
      rcases h2 with h2 | h2
      · exact (h2 rfl).elim
      · omega
    · rintro ⟨h1, h2⟩ k hk
      refine ⟨?_, h2 k hk⟩
      by_cases e : ix set (k : Int) = srv (ix d (j : Int)) set
      · right; rw [e]; unfold near at h1; omega
      · exact .inl e
  cases h1 : allN (meetK d set p j) set.length with
  | true => exact (key.1 h1).symm
  | false =>
    cases h2 : meet1 d set p j with
    | false => rfl
    | true => rw [key.2 h2] at h1; cases h1
theorem tight_sub {o : List Int} {d : List (List Int)} {ps set : List Int} (h : OpenOK o d set) : (bag set ^^^ (bag set &&& bag (tightL o d ps)) = 0) ↔ allN (meetT o d ps set) set.length = true := by
  have h7 := h.seven
  have hn := h.f.n7
  have ht : ∀ x ∈ tightL o d ps, 0 <= x /\ x < 7 := fun x hx => by
    obtain ⟨k, hk, _, rfl⟩ := mem_sel.1 hx
    omega
  rw [allN_iff]
  constructor
  · intro h0 k hk
    have hx := h7 _ (ix_mem set hk)
    have hb : (bag set ^^^ (bag set &&& bag (tightL o d ps))).testBit (ix set (k : Int)).toNat = false := by rw [h0]; simp
    rw [andNot_bit, bag_bit (fun x hx => (h7 x hx).1), bag_bit (fun x hx => (ht x hx).1)] at hb
    have e : (((ix set (k : Int)).toNat : Nat) : Int) = ix set (k : Int) := by omega
    have h1 : hasB set (ix set (k : Int)).toNat = true := decide_eq_true (by rw [e]; exact ix_mem set hk)
    rw [h1, Bool.true_and, Bool.not_eq_false'] at hb
    have h2 := of_decide_eq_true hb
    rw [e] at h2
    obtain ⟨q, hq, h3, h4⟩ := mem_sel.1 h2
    rw [meetT, <- h4]; exact h3
  · intro h0
    apply Nat.eq_of_testBit_eq
    intro a
    rw [andNot_bit, bag_bit (fun x hx => (h7 x hx).1), bag_bit (fun x hx => (ht x hx).1), Nat.zero_testBit]
    cases hs : hasB set a with
    | false => rfl
    | true =>
      have hm := of_decide_eq_true hs
      obtain ⟨k, hk, e⟩ := mem_ix hm
      have h1 := h0 k hk
      rw [meetT, e] at h1
      have h2 := h.xin k hk
      have : hasB (tightL o d ps) a = true := decide_eq_true (mem_sel.2 ⟨a, by omega, h1, rfl⟩)
      rw [this]; rfl
end Go.Vc
