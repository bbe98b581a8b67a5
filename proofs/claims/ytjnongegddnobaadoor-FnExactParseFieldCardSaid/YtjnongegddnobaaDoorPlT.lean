/- Plain facts on trees of at most seven nodes: no program in sight. -/
import Derived.Test.YtjnongegddnobaaDoorPl
namespace Go.Vc
set_option linter.unusedSimpArgs false
set_option linter.unusedVariables false

/-! sums -/
def sumN (f : Nat -> Int) : Nat -> Int
  | 0 => 0
  | n + 1 => sumN f n + f n
theorem sumN_congr {f g : Nat -> Int} : ∀ {n : Nat}, (∀ i, i < n -> f i = g i) -> sumN f n = sumN g n
  | 0, _ => rfl
  | n + 1, h => by rw [sumN, sumN, sumN_congr (fun i hi => h i (by omega)), h n (by omega)]
theorem sumN_add (f g : Nat -> Int) : ∀ n : Nat, sumN (fun i => f i + g i) n = sumN f n + sumN g n
  | 0 => rfl
  | n + 1 => by simp only [sumN]; rw [sumN_add f g n]; omega
theorem sumN_zero {f : Nat -> Int} : ∀ {n : Nat}, (∀ i, i < n -> f i = 0) -> sumN f n = 0
  | 0, _ => rfl
  | n + 1, h => by rw [sumN, sumN_zero (fun i hi => h i (by omega)), h n (by omega)]; rfl
theorem sumN_one {f : Nat -> Int} {n k : Nat} (hk : k < n) (h : ∀ i, i < n -> i ≠ k -> f i = 0) : sumN f n = f k := by
  induction n with
  | zero => omega
  | succ n ih =>
    rw [sumN]
    by_cases e : k = n
    · subst e; rw [sumN_zero (fun i hi => h i (by omega) (by omega))]; omega
    · rw [ih (by omega) (fun i hi he => h i (by omega) he), h n (by omega) (fun e' => e e'.symm)]; omega
theorem sumN_bd {f : Nat -> Int} {lo hi : Int} : ∀ {n : Nat}, (∀ i, i < n -> lo <= f i /\ f i <= hi) -> lo * n <= sumN f n /\ sumN f n <= hi * n
  | 0, _ => by simp [sumN]
  | n + 1, h => by
    have h1 := sumN_bd (n := n) (fun i hi => h i (by omega))
    have h2 := h n (by omega)
    rw [sumN]
    simp only [Int.natCast_add, Int.mul_add, Int.natCast_one, Int.mul_one]
    omega

/-! trees: a list of parents -/
structure TreeOK (ps : List Int) : Prop where
  n1 : 1 <= ps.length
  n7 : ps.length <= 7
  root : ix ps 0 = -1
  par : ∀ k : Nat, k < ps.length -> 0 < k -> 0 <= ix ps (k : Int) /\ ix ps (k : Int) < k
def tree (ps : List Int) : Bool := decide ((1 <= ps.length /\ ps.length <= 7) /\ ix ps 0 = -1 /\ ∀ k : Nat, k < ps.length -> 0 < k -> 0 <= ix ps (k : Int) /\ ix ps (k : Int) < k)
theorem tree_iff {ps : List Int} : tree ps = true ↔ TreeOK ps := by
  simp only [tree, decide_eq_true_eq]
  exact ⟨fun ⟨⟨a, b⟩, c, d⟩ => ⟨a, b, c, d⟩, fun h => ⟨⟨h.n1, h.n7⟩, h.root, h.par⟩⟩

/-- From z up the tree, as long as the node is greater than x. -/
def upT (ps : List Int) (x : Nat) : Nat -> Nat -> Nat
  | 0, z => z
  | f + 1, z => if x < z then upT ps x f (ix ps (z : Int)).toNat else z
theorem upT_fuel {ps : List Int} (h : TreeOK ps) (x : Nat) : ∀ (f z : Nat), z <= f -> z < ps.length -> upT ps x f z = upT ps x z z := by
  intro f
  induction f using Nat.strongRecOn with
  | _ f ih =>
    intro z hz hn
    match f, z with
    | 0, 0 => rfl
    | f + 1, 0 => simp [upT]
    | 0, z + 1 => omega
    | f + 1, z + 1 =>
      simp only [upT]
      split
      · have hp := h.par (z + 1) hn (by omega)
        have hlt : (ix ps ((z + 1 : Nat) : Int)).toNat <= z := by omega
        rw [ih f (by omega) _ (by omega) (by omega)]
        by_cases e : z < f
        · rw [ih z (by omega) _ hlt (by omega)]
        · have : z = f := by omega
          subst this; rw [ih z (by omega) _ hlt (by omega)]
      · rfl
def up (ps : List Int) (x y : Nat) : Nat := upT ps x y y
theorem up_low (ps : List Int) {x y : Nat} (h : y <= x) : up ps x y = y := by
  unfold up
  cases y with
  | zero => rfl
  | succ y => simp only [upT]; rw [if_neg (by omega)]
theorem up_step {ps : List Int} (h : TreeOK ps) {x y : Nat} (hx : x < y) (hy : y < ps.length) : up ps x y = up ps x (ix ps (y : Int)).toNat := by
  have hp := h.par y hy (by omega)
  unfold up
  match y with
  | 0 => omega
  | y + 1 =>
    rw [upT, if_pos hx]
    exact upT_fuel h x y _ (by omega) (by omega)
theorem up_le {ps : List Int} (h : TreeOK ps) (x : Nat) : ∀ (y : Nat), y < ps.length -> up ps x y <= x /\ up ps x y <= y := by
  intro y
  induction y using Nat.strongRecOn with
  | _ y ih =>
    intro hy
    by_cases e : x < y
    · have hp := h.par y hy (by omega)
      rw [up_step h e hy]
      have := ih (ix ps (y : Int)).toNat (by omega) (by omega)
      omega
    · rw [up_low ps (by omega)]; omega
/-- One node less may be passed. -/
theorem up_next {ps : List Int} (h : TreeOK ps) {x : Nat} (hx : 0 < x) (hxn : x < ps.length) : ∀ (y : Nat), y < ps.length -> up ps (x - 1) y = if up ps x y = x then (ix ps (x : Int)).toNat else up ps x y := by
  intro y
  have hpx := h.par x hxn hx
  induction y using Nat.strongRecOn with
  | _ y ih =>
    intro hy
    by_cases e : x < y
    · have hp := h.par y hy (by omega)
      rw [up_step h e hy, up_step h (show x - 1 < y by omega) hy]
      exact ih _ (by omega) (by omega)
    · rw [up_low ps (show y <= x by omega)]
      by_cases e2 : y = x
      · subst e2
        rw [if_pos rfl, up_step h (by omega) hy, up_low ps (by omega)]
      · rw [if_neg e2, up_low ps (by omega)]
/-- The weight of a node and of all below it. -/
def wtT (ps ws : List Int) (x : Nat) : Int := sumN (fun y => if up ps x y = x then ix ws (y : Int) else 0) ps.length
/-- What is reckoned when all nodes greater than x have been passed on. -/
def belowT (ps ws : List Int) (x v : Nat) : Int := sumN (fun y => if up ps (max x v) y = v then ix ws (y : Int) else 0) ps.length
theorem below_zero (ps ws : List Int) (v : Nat) : belowT ps ws 0 v = wtT ps ws v := by unfold belowT wtT; rw [Nat.zero_max]
theorem below_first {ps ws : List Int} (h : TreeOK ps) {v : Nat} (hv : v < ps.length) : belowT ps ws (ps.length - 1) v = ix ws (v : Int) := by
  unfold belowT
  rw [sumN_one hv (fun i hi he => ?_)]
  · rw [if_pos (up_low ps (by omega))]
  · rw [if_neg]; rw [up_low ps (by omega)]; exact he
theorem below_next {ps ws : List Int} (h : TreeOK ps) {x v : Nat} (hx : 0 < x) (hxn : x < ps.length) (hv : v < ps.length) :
    belowT ps ws (x - 1) v = if v = (ix ps (x : Int)).toNat then belowT ps ws x v + belowT ps ws x x else belowT ps ws x v := by
  have hpx := h.par x hxn hx
  unfold belowT
  by_cases e : x <= v
  · rw [if_neg (by omega), show max (x - 1) v = max x v by omega]
  · rw [show max (x - 1) v = x - 1 by omega, show max x v = x by omega, show max x x = x by omega]
    split
    · rename_i e2
      rw [<- sumN_add]
      apply sumN_congr
      intro i hi
      rw [up_next h hx hxn i hi]
      by_cases e3 : up ps x i = x
      · rw [if_pos e3, if_pos e2.symm, if_neg (by omega), if_pos e3]; omega
      · rw [if_neg e3, if_neg e3]; omega
    · rename_i e2
      apply sumN_congr
      intro i hi
      rw [up_next h hx hxn i hi]
      by_cases e3 : up ps x i = x
      · rw [if_pos e3, if_neg (fun e4 => e2 e4.symm), if_neg (by omega)]
      · rw [if_neg e3]
/-- The list of what is reckoned. -/
def belowL (ps ws : List Int) (x : Nat) : List Int := (List.range ps.length).map fun v => belowT ps ws x v
theorem belowL_len (ps ws : List Int) (x : Nat) : (belowL ps ws x).length = ps.length := by simp [belowL]
theorem belowL_ix {ps ws : List Int} {x v : Nat} (hv : v < ps.length) : ix (belowL ps ws x) (v : Int) = belowT ps ws x v := by
  have h1 := ix_some (belowL ps ws x) (k := v) (by rw [belowL_len]; exact hv)
  have h2 : (belowL ps ws x)[v]? = some (belowT ps ws x v) := by simp [belowL, hv]
  rw [h1] at h2
  exact Option.some.inj h2
theorem belowL_first {ps ws : List Int} (h : TreeOK ps) (hl : ws.length = ps.length) : belowL ps ws (ps.length - 1) = ws :=
  ix_ext (by rw [belowL_len, hl]) (fun k hk => by rw [belowL_len] at hk; rw [belowL_ix hk, below_first h hk])
theorem belowL_next {ps ws : List Int} (h : TreeOK ps) {x : Nat} (hx : 0 < x) (hxn : x < ps.length) :
    (belowL ps ws x).set (ix ps (x : Int)).toNat (ix (belowL ps ws x) (ix ps (x : Int)) + ix (belowL ps ws x) (x : Int)) = belowL ps ws (x - 1) := by
  have hpx := h.par x hxn hx
  refine ix_ext (by simp [belowL_len]) (fun k hk => ?_)
  rw [List.length_set, belowL_len] at hk
  rw [ix_set _ _ (by rw [belowL_len]; omega), belowL_ix hk, belowL_ix hk, below_next h hx hxn hk, belowL_ix hxn]
  have e : ix ps (x : Int) = ((ix ps (x : Int)).toNat : Int) := by omega
  split
  · rename_i e2; subst e2
    have e3 := belowL_ix (ps := ps) (ws := ws) (x := x) (v := (ix ps (x : Int)).toNat) (by omega)
    rw [<- e] at e3
    rw [e3]
  · rfl
theorem wtT_bd {ps ws : List Int} (hw : ∀ k : Nat, k < ps.length -> 0 <= ix ws (k : Int) /\ ix ws (k : Int) <= 99) (n7 : ps.length <= 7) (x : Nat) : 0 <= wtT ps ws x /\ wtT ps ws x <= 693 := by
  have := sumN_bd (f := fun y => if up ps x y = x then ix ws (y : Int) else 0) (lo := 0) (hi := 99) (n := ps.length) (fun i hi => by
    have := hw i hi
    split <;> omega)
  unfold wtT; omega
theorem below_bd {ps ws : List Int} (hw : ∀ k : Nat, k < ps.length -> 0 <= ix ws (k : Int) /\ ix ws (k : Int) <= 99) (n7 : ps.length <= 7) (x v : Nat) : 0 <= belowT ps ws x v /\ belowT ps ws x v <= 693 := by
  have := sumN_bd (f := fun y => if up ps (max x v) y = v then ix ws (y : Int) else 0) (lo := 0) (hi := 99) (n := ps.length) (fun i hi => by
    have := hw i hi
    split <;> omega)
  unfold belowT; omega
/-! lengths in a tree -/
def apt (ps ls : List Int) : Nat -> Nat -> Nat -> Int
  | 0, _, _ => 0
  | f + 1, x, y => if x = y then 0 else if y < x then ix ls (x : Int) + apt ps ls f (ix ps (x : Int)).toNat y else ix ls (y : Int) + apt ps ls f x (ix ps (y : Int)).toNat
theorem apt_same (ps ls : List Int) (f x : Nat) : apt ps ls f x x = 0 := by cases f <;> simp [apt]
theorem apt_fuel {ps : List Int} (ls : List Int) (h : TreeOK ps) : ∀ (f x y : Nat), x + y <= f -> x < ps.length -> y < ps.length -> apt ps ls f x y = apt ps ls (x + y) x y := by
  intro f
  induction f using Nat.strongRecOn with
  | _ f ih =>
    intro x y hxy hx hy
    by_cases e : x = y
    · subst e; rw [apt_same, apt_same]
    · obtain ⟨m, hm⟩ : ∃ m, x + y = m + 1 := ⟨x + y - 1, by omega⟩
      obtain ⟨g, rfl⟩ : ∃ g, f = g + 1 := ⟨f - 1, by omega⟩
      rw [hm]
      simp only [apt]
      rw [if_neg e, if_neg e]
      split
      · have hp := h.par x hx (by omega)
        rw [ih g (by omega) _ _ (by omega) (by omega) hy]
        by_cases e2 : m = g
        · rw [e2, ih g (by omega) _ _ (by omega) (by omega) hy]
        · rw [ih m (by omega) _ _ (by omega) (by omega) hy]
      · have hp := h.par y hy (by omega)
        rw [ih g (by omega) _ _ (by omega) hx (by omega)]
        by_cases e2 : m = g
        · rw [e2, ih g (by omega) _ _ (by omega) hx (by omega)]
        · rw [ih m (by omega) _ _ (by omega) hx (by omega)]
def apart (ps ls : List Int) (x y : Nat) : Int := apt ps ls (x + y) x y
theorem apart_same (ps ls : List Int) (x : Nat) : apart ps ls x x = 0 := apt_same _ _ _ _
theorem apart_gt {ps : List Int} (ls : List Int) (h : TreeOK ps) {x y : Nat} (hxy : y < x) (hx : x < ps.length) : apart ps ls x y = ix ls (x : Int) + apart ps ls (ix ps (x : Int)).toNat y := by
  have hp := h.par x hx (by omega)
  unfold apart
  obtain ⟨m, hm⟩ : ∃ m, x + y = m + 1 := ⟨x + y - 1, by omega⟩
  rw [hm]
  simp only [apt]
  rw [if_neg (by omega), if_pos hxy, apt_fuel ls h m _ _ (by omega) (by omega) (by omega)]
theorem apart_lt {ps : List Int} (ls : List Int) (h : TreeOK ps) {x y : Nat} (hxy : x < y) (hy : y < ps.length) : apart ps ls x y = ix ls (y : Int) + apart ps ls x (ix ps (y : Int)).toNat := by
  have hp := h.par y hy (by omega)
  unfold apart
  obtain ⟨m, hm⟩ : ∃ m, x + y = m + 1 := ⟨x + y - 1, by omega⟩
  rw [hm]
  simp only [apt]
  rw [if_neg (by omega), if_neg (by omega), apt_fuel ls h m _ _ (by omega) (by omega) (by omega)]
theorem apart_bd {ps ls : List Int} (h : TreeOK ps) (hw : ∀ k : Nat, k < ps.length -> 0 <= ix ls (k : Int) /\ ix ls (k : Int) <= 99) : ∀ (m x y : Nat), x + y <= m -> x < ps.length -> y < ps.length -> 0 <= apart ps ls x y /\ apart ps ls x y <= 99 * m := by
  intro m
  induction m with
  | zero => intro x y hm hx hy; rw [show x = 0 by omega, show y = 0 by omega, apart_same]; omega
  | succ m ih =>
    intro x y hm hx hy
    rcases Nat.lt_trichotomy x y with e | e | e
    · have hp := h.par y hy (by omega)
      rw [apart_lt ls h e hy]
      have h1 := ih x (ix ps (y : Int)).toNat (by omega) hx (by omega)
      have h2 := hw y hy
      omega
    · subst e; rw [apart_same]; omega
    · have hp := h.par x hx (by omega)
      rw [apart_gt ls h e hx]
      have h1 := ih (ix ps (x : Int)).toNat y (by omega) (by omega) hy
      have h2 := hw x hx
      omega
/-- The greatest part without x: over the nodes less than y. -/
def mostT (ps ws : List Int) (x : Nat) : Nat -> Int
  | 0 => wtT ps ws 0 - wtT ps ws x
  | y + 1 => if ix ps (y : Int) = x then max (mostT ps ws x y) (wtT ps ws y) else mostT ps ws x y
theorem mostT_start {ps ws : List Int} (h : TreeOK ps) {x : Nat} : ∀ y, y <= x + 1 -> y <= ps.length -> mostT ps ws x y = mostT ps ws x 0
  | 0, _, _ => rfl
  | y + 1, hy, hn => by
    have hne : ¬ ix ps (y : Int) = x := by
      by_cases e : y = 0
      · subst e; have := h.root; simp only [Int.natCast_zero]; omega
      · have := h.par y (by omega) (by omega); omega
    rw [show mostT ps ws x (y + 1) = if ix ps (y : Int) = x then max (mostT ps ws x y) (wtT ps ws y) else mostT ps ws x y from rfl, if_neg hne, mostT_start h y (by omega) (by omega)]
theorem mostT_bd {ps ws : List Int} (hw : ∀ k : Nat, k < ps.length -> 0 <= ix ws (k : Int) /\ ix ws (k : Int) <= 99) (n7 : ps.length <= 7) (x : Nat) : ∀ y, -693 <= mostT ps ws x y /\ mostT ps ws x y <= 693
  | 0 => by have := wtT_bd hw n7 x; have := wtT_bd hw n7 0; simp only [mostT]; omega
  | y + 1 => by
    have := wtT_bd hw n7 y
    have := mostT_bd hw n7 x y
    simp only [mostT]
    split <;> omega
/-- The first node for which a test says yes. -/
def fst (p : Nat -> Bool) (n : Nat) : Option Nat := (List.range n).find? p
theorem fst_some {p : Nat -> Bool} {n k : Nat} (hk : k < n) (hp : p k = true) (hl : ∀ j, j < k -> p j = false) : fst p n = some k := by
  unfold fst
  rw [List.find?_range_eq_some]
  exact ⟨hp, List.mem_range.2 hk, fun j hj => by rw [hl j hj]; rfl⟩
theorem fst_none {p : Nat -> Bool} {n : Nat} (hl : ∀ j, j < n -> p j = false) : fst p n = none := by
  unfold fst
  rw [List.find?_eq_none]
  intro x hx
  rw [hl x (List.mem_range.1 hx)]; simp
def majP (ps ws : List Int) (x : Nat) : Bool := decide (2 * mostT ps ws x ps.length <= wtT ps ws 0)
def majOK (ps ws : List Int) : Bool := tree ps && (rowOK 99 ws && decide ((ws.length : Int) = ps.length))
def majI (ps ws : List Int) : Int := match fst (majP ps ws) ps.length with | some k => (k : Int) | none => 0
def majB (ps ws : List Int) : Bool := (fst (majP ps ws) ps.length).isSome
end Go.Vc
