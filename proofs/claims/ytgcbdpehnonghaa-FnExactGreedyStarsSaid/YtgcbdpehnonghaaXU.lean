/- Clients by their lengths: the library's stable sort of few numbers walked, in the words of the abstract run. -/
import Derived.Test.YtgcbdpehnonghaaTy
import Derived.Test.YtgcbdpehnonghaaPlP
import Derived.Test.YtgcbdpehnonghaaPlM
import Derived.WalkKit
import Derived.Deep.OwnRows
import Derived.Deep.LoopGhost
import Derived.Shelf.Abstract
import Derived.BigGuard
import Derived.BigCall
import Derived.CellFam
import Derived.Deep.Draws
import Derived.Deep.QuietTactic
import Derived.BigQuiet
namespace Go.Proofs.Ytgcbdpehnonghaa
open Go.Vc Go.RowKit Go.Shelf
set_option maxRecDepth 100000
set_option linter.unusedSimpArgs false
set_option linter.unusedVariables false

def cutF (lt : Int -> Int -> Bool) (S : List Int) (x : Int) : Nat -> Nat
  | 0 => 0
  | j + 1 => if lt x (ix S (j : Int)) = true then cutF lt S x j else j + 1
theorem cutF_s (lt : Int -> Int -> Bool) (S : List Int) (x : Int) (j : Nat) : cutF lt S x (j + 1) = if lt x (ix S (j : Int)) = true then cutF lt S x j else j + 1 := rfl
theorem cutF_le (lt : Int -> Int -> Bool) (S : List Int) (x : Int) : ∀ j, cutF lt S x j <= j
  | 0 => Nat.le_refl _
  | j + 1 => by have := cutF_le lt S x j; unfold cutF; split <;> omega
def insL (lt : Int -> Int -> Bool) (S : List Int) (x : Int) : List Int := S.take (cutF lt S x S.length) ++ x :: S.drop (cutF lt S x S.length)
theorem insL_len (lt : Int -> Int -> Bool) (S : List Int) (x : Int) : (insL lt S x).length = S.length + 1 := by
  have := cutF_le lt S x S.length
  unfold insL; simp; omega
def insF (lt : Int -> Int -> Bool) : List Int -> List Int := List.foldl (insL lt) []
theorem foldl_len (lt : Int -> Int -> Bool) : ∀ (xs S : List Int), (xs.foldl (insL lt) S).length = S.length + xs.length
  | [], S => rfl
  | x :: xs, S => by rw [List.foldl_cons, foldl_len lt xs, insL_len]; simp; omega
theorem insF_len (lt : Int -> Int -> Bool) (xs : List Int) : (insF lt xs).length = xs.length := by unfold insF; rw [foldl_len]; simp
theorem insF_succ (lt : Int -> Int -> Bool) {xs : List Int} {i : Nat} (h : i < xs.length) : insF lt (xs.take (i + 1)) = insL lt (insF lt (xs.take i)) (ix xs (i : Int)) := by
  unfold insF
  rw [take_ix xs h, List.foldl_append]; rfl
theorem ix_ins {S : List Int} {x : Int} {c q : Nat} (hc : c <= S.length) (hq : q <= S.length) : ix (S.take c ++ x :: S.drop c) (q : Int) = if q < c then ix S (q : Int) else if q = c then x else ix S ((q - 1 : Nat) : Int) := by
  have hl : (S.take c ++ x :: S.drop c).length = S.length + 1 := by simp; omega
  have h1 := ix_some (S.take c ++ x :: S.drop c) (k := q) (by omega)
  have ht : (S.take c).length = c := by simp; omega
  by_cases e1 : q < c
  · rw [if_pos e1]
    rw [List.getElem?_append_left (by omega), List.getElem?_take_of_lt e1, ix_some S (by omega)] at h1
    exact (Option.some.inj h1).symm
  · rw [if_neg e1]
    rw [List.getElem?_append_right (by omega), ht] at h1
    by_cases e2 : q = c
    · subst e2
      rw [if_pos rfl]
      rw [Nat.sub_self] at h1
      exact (Option.some.inj h1).symm
    · rw [if_neg e2]
      rw [show q - c = (q - c - 1) + 1 by omega, List.getElem?_cons_succ, List.getElem?_drop, show c + (q - c - 1) = q - 1 by omega, ix_some S (by omega)] at h1
      exact (Option.some.inj h1).symm

structure RowF (w wr : World) (g : Nat) (el : TypeId) (sz n : Nat) (F : Nat -> Int) : Prop where
  blk : ∃ cs' : Array Value, wr.heap[g]? = some (.cells cs' el (0, 0)) /\ cs'.size = sz /\ ∀ q : Nat, q < n -> cs'[q]? = some (.int .i64 (F q))
  oth : ∀ b, b ≠ g -> wr.heap[b]? = w.heap[b]?
  size : wr.heap.size = w.heap.size
  os : wr.os = w.os
  tape : wr.tape = w.tape
  output : wr.output = w.output
  drawn : w.drawn <= wr.drawn
section
variable {w wr : World} {g : Nat} {el : TypeId} {sz n : Nat} {F : Nat -> Int}
theorem RowF.cell (h : RowF w wr g el sz n F) {q : Nat} (hq : q < n) : wr.cell? ⟨g, q, none⟩ = some (.int .i64 (F q)) := by
  obtain ⟨cs, h1, h2, h3⟩ := h.blk
  show (match wr.heap[g]? with | some (.cells c _ _) => if (none : Option _).isSome then none else c[q]? | _ => none) = _
  rw [h1]; exact h3 q hq
theorem RowF.frozen (h : RowF w wr g el sz n F) (q : Nat) : wr.frozen? ⟨g, q, none⟩ = false := by
  obtain ⟨cs, h1, h2, h3⟩ := h.blk
  simp [World.frozen?, h1]
theorem RowF.set (h : RowF w wr g el sz n F) {q : Nat} (hq : q < n) (v : Int) : RowF w (wr.setCell ⟨g, q, none⟩ (.int .i64 v)) g el sz n (fun r => if r = q then v else F r) := by
  obtain ⟨cs, h1, h2, h3⟩ := h.blk
  have hin : q < cs.size := (Array.getElem?_eq_some_iff.1 (h3 q hq)).1
  refine ⟨⟨cs.setIfInBounds q (.int .i64 v), by simp [World.setCell, Array.getElem?_modify, h1], by simp [h2], fun r hr => ?_⟩, fun b hb => by rw [Below.heap_setCell _ _ _ _ hb]; exact h.oth b hb, ?_, h.os, h.tape, h.output, h.drawn⟩
  · rw [Array.getElem?_setIfInBounds]
    by_cases e : q = r
    · subst e; rw [if_pos rfl, if_pos hin, if_pos rfl]
    · rw [if_neg e, if_neg (fun e2 => e e2.symm)]; exact h3 r hr
  · have : (wr.setCell ⟨g, q, none⟩ (.int .i64 v)).heap.size = wr.heap.size := by simp [World.setCell]
    exact this.trans h.size
theorem RowF.drew (h : RowF w wr g el sz n F) : RowF w wr.drew g el sz n F := ⟨h.blk, h.oth, h.size, h.os, h.tape, h.output, Nat.le_trans h.drawn (Nat.le_succ _)⟩
theorem RowF.drewN (h : RowF w wr g el sz n F) (k : Nat) : RowF w (wr.drewN k) g el sz n F := ⟨h.blk, h.oth, h.size, h.os, h.tape, h.output, Nat.le_trans h.drawn (Nat.le_add_right _ _)⟩
theorem RowF.congr (h : RowF w wr g el sz n F) {F' : Nat -> Int} (e : ∀ q, q < n -> F q = F' q) : RowF w wr g el sz n F' := by
  obtain ⟨cs, h1, h2, h3⟩ := h.blk
  exact ⟨⟨cs, h1, h2, fun q hq => by rw [h3 q hq, e q hq]⟩, h.oth, h.size, h.os, h.tape, h.output, h.drawn⟩
end
def swF (S : List Int) (x : Int) (xs : List Int) (i j q : Nat) : Int := if q < j then ix S (q : Int) else if q = j then x else if q <= i then ix S ((q - 1 : Nat) : Int) else ix xs (q : Int)
def prF (lt : Int -> Int -> Bool) (xs : List Int) (i q : Nat) : Int := if q < i then ix (insF lt (xs.take i)) (q : Int) else ix xs (q : Int)

theorem prF_one (lt : Int -> Int -> Bool) (xs : List Int) (q : Nat) : ix xs (q : Int) = prF lt xs 1 q := by
  unfold prF
  split
  · obtain rfl : q = 0 := by omega
    cases xs with
    | nil => rfl
    | cons x xs => rfl
  · rfl
theorem prF_sw (lt : Int -> Int -> Bool) (xs : List Int) (i q : Nat) : prF lt xs i q = swF (insF lt (xs.take i)) (ix xs (i : Int)) xs i i q := by
  unfold prF swF
  by_cases h1 : q < i
  · rw [if_pos h1, if_pos h1]
  · rw [if_neg h1, if_neg h1]
    by_cases h2 : q = i
    · subst h2; rw [if_pos rfl]
    · rw [if_neg h2, if_neg (by omega)]
theorem sw_a (S : List Int) (x : Int) (xs : List Int) (i j : Nat) : swF S x xs i (j + 1) (j + 1) = x := by unfold swF; simp
theorem sw_b (S : List Int) (x : Int) (xs : List Int) (i j : Nat) : swF S x xs i (j + 1) j = ix S (j : Int) := by unfold swF; simp
theorem sw_out {lt : Int -> Int -> Bool} {S xs : List Int} {x : Int} {i j : Nat} (hi : i < xs.length) (lS : S.length = i) (hS : S = insF lt (xs.take i)) (hx : x = ix xs (i : Int)) (hj : cutF lt S x S.length = j) (q : Nat) : swF S x xs i j q = prF lt xs (i + 1) q := by
  have hle := cutF_le lt S x S.length
  unfold prF swF
  rw [insF_succ lt hi, <- hS, <- hx]
  unfold insL
  rw [hj] at hle ⊢
  by_cases h1 : q < i + 1
  · rw [if_pos h1, ix_ins hle (by omega)]
    by_cases h2 : q < j
    · rw [if_pos h2, if_pos h2]
    · rw [if_neg h2, if_neg h2]
      by_cases h3 : q = j
      · rw [if_pos h3, if_pos h3]
      · rw [if_neg h3, if_neg h3, if_pos (by omega)]
  · rw [if_neg h1, if_neg (by omega), if_neg (by omega), if_neg (by omega)]
theorem sw_swap {S xs : List Int} {x : Int} {i j : Nat} (hj : j < i) (q : Nat) : (if q = j then x else if q = j + 1 then ix S (j : Int) else swF S x xs i (j + 1) q) = swF S x xs i j q := by
  unfold swF
  by_cases h1 : q = j
  · subst h1; rw [if_pos rfl, if_neg (by omega), if_pos rfl]
  · rw [if_neg h1]
    by_cases h2 : q = j + 1
    · subst h2; rw [if_pos rfl, if_neg (by omega), if_neg (by omega), if_pos (by omega), Nat.add_sub_cancel]
    · rw [if_neg h2]
      by_cases h3 : q < j
      · rw [if_pos (by omega), if_pos h3]
      · rw [if_neg (by omega), if_neg h2, if_neg h3, if_neg h1]
theorem nanW (x : Int) (w : World) : Calls Try.prog 72 #[.int .i64 x] w fun e w' => e = .returned (.bool false) /\ w' = w := by
  go_enter Try.func72, Try.ntmps72
  go_wp2
  all_goals first | (go_ret; exact ⟨rfl, rfl⟩) | skip
theorem cmpZ_neg {x y : Int} (h : cmpZ x y < 0) : x < y := by unfold cmpZ at h; split at h; assumption; split at h <;> omega
theorem cmpZ_nn {x y : Int} (h : 0 <= cmpZ x y) : y <= x := by unfold cmpZ at h; split at h <;> omega
def ltT (T : List Int) (x y : Int) : Bool := decide (ix T x < ix T y)
theorem insCW (T : List Int) (p p2 : Value) (g cap : Nat) (el : TypeId) (sz : Nat) (xs : List Int) (w : World) (Val : Int -> Prop) (hV : ∀ q, q < xs.length -> Val (ix xs (q : Int))) (hcmp : ∀ wr : World, (∀ b, b ≠ g -> wr.heap[b]? = w.heap[b]?) -> ∀ x y, Val x -> Val y -> Calls Try.prog 59 #[.int .i64 x, .int .i64 y, p, p2] wr fun e w' => e = .returned (.int .i64 (cmpZ (ix T x) (ix T y))) /\ ∃ q, w' = wr.drewN q) (h0 : RowF w w g el sz xs.length (fun q => ix xs (q : Int))) (hn : xs.length <= 7) :
    Calls Try.prog 83 #[.slice (some ⟨g, 0, none⟩) xs.length cap, .int .i64 0, .int .i64 xs.length, .func (.func 59) #[] #[p, p2]] w fun e w' => e = .returned (.tuple #[]) /\ RowF w w' g el sz xs.length (fun q => ix (insF (ltT T) xs) (q : Int)) := by
  have hc : ∀ args w, (callFunc 59 args).run Try.prog w = .ok (.enter 59 args) w := enters_of Try.func59 (by kernel_rfl) rfl
  generalize hnn : xs.length = n at *
  go_enter Try.func83, Try.ntmps83
  go_wp2
  go_loopg [8] n (fun m ii wr => ∃ i : Nat, m = n + 1 - i /\ 1 <= i /\ i <= n + 1 /\ ii = .int .i64 i /\ RowF w wr g el sz n (prF (ltT T) xs i) /\ ∀ q, q < n -> Val (prF (ltT T) xs i q))
  case atStart => exact ⟨1, by omega, by omega, by omega, rfl, h0.congr (fun q hq => prF_one (ltT T) xs q), fun q hq => by rw [<- prF_one]; exact hV q hq⟩
  case round =>
    obtain ⟨i, rfl, hi1, hi2, rfl, hR, hVa⟩ := hrel
    go_wp2
    · have hlt : i < n := by omega
      obtain ⟨S, hS⟩ : ∃ S, S = insF (ltT T) (xs.take i) := ⟨_, rfl⟩
      obtain ⟨x, hx⟩ : ∃ x, x = ix xs (i : Int) := ⟨_, rfl⟩
      have lS : S.length = i := by rw [hS, insF_len]; simp; omega
      have hR0 := hR.congr (F' := swF S x xs i i) (fun q _ => by rw [hS, hx]; exact prF_sw (ltT T) xs i q)
      go_loopg [9] i (fun m jj wr => ∃ j : Nat, j = m /\ j <= i /\ jj = .int .i64 j /\ cutF (ltT T) S x j = cutF (ltT T) S x i /\ RowF w wr g el sz n (swF S x xs i j) /\ ∀ q, q < n -> Val (swF S x xs i j q))
      case atStart => exact ⟨i, rfl, Nat.le_refl _, rfl, rfl, hR0, fun q hq => by rw [hS, hx, <- prF_sw]; exact hVa q hq⟩
      case round =>
        obtain ⟨j, rfl, hj, rfl, hcut, hR2, hV2⟩ := hrel
        obtain ⟨G, hG⟩ : ∃ G : Nat -> Int, ∀ t, G t = swF S x xs i j t := ⟨fun t => swF S x xs i j t, fun _ => rfl⟩
        have hcw : ∀ t, t < n -> wr.cell? ⟨g, t, none⟩ = some (.int .i64 (G t)) := fun t ht => by rw [hG]; exact hR2.cell ht
        have hfw : ∀ t, t < n -> wr.frozen? ⟨g, t, none⟩ = false := fun t _ => hR2.frozen t
        have HR : Hid (RowF w wr g el sz n (swF S x xs i j)) := hR2
        have HG : Hid (∀ t, G t = swF S x xs i j t) := hG
        have HC : Hid (cutF (ltT T) S x j = cutF (ltT T) S x i) := hcut
        have HS : Hid (S = insF (ltT T) (xs.take i)) := hS
        have HX : Hid (x = ix xs (i : Int)) := hx
        have HV : Hid (∀ q, q < n -> Val (swF S x xs i j q)) := hV2
        have HCM : Hid _ := fun m => hcmp (wr.drewN m) (fun b hb => hR2.oth b hb)
        clear hR2 hG hcut hR hR0 hS hx h0 hV2 hVa hV hcmp
        rcases j with _ | jp
        · go_wp2
          go_quiet (first | (go_at_call 59; refine Calls.quiet_of (HCM.out _ _ _ (by first | (rw [HG.out]; exact HV.out _ (by omega))) (by first | (rw [HG.out]; exact HV.out _ (by omega))))))
          go_wp2
          have hso := fun q => sw_out (j := 0) (by omega) lS HS.out HX.out (by rw [lS]; exact HC.out.symm) q
          go_roundg (n + 1 - (i + 1))
          case measure => omega
          case rel => exact ⟨i + 1, rfl, by omega, by omega, rfl, ((HR.out.drewN nq).congr fun q hq => hso q), fun q hq => by rw [<- hso q]; exact HV.out q hq⟩
        · have hc1 := hcw (jp + 1) (by omega)
          have hc2 := hcw jp (by omega)
          have hf1 := hfw (jp + 1) (by omega)
          have hf2 := hfw jp (by omega)
          go_wp2
          go_quiet (first | (go_at_call 59; refine Calls.quiet_of (HCM.out _ _ _ (by first | (rw [HG.out]; exact HV.out _ (by omega))) (by first | (rw [HG.out]; exact HV.out _ (by omega))))))
          go_wp2
          · have hl : cmpZ (ix T (G (jp + 1))) (ix T (G jp)) < 0 := by assumption
            rw [HG.out, HG.out, sw_a, sw_b] at hl
            have hl := cmpZ_neg hl
            have hcu := HC.out
            rw [cutF_s, if_pos (show ltT T x (ix S (jp : Int)) = true from decide_eq_true hl)] at hcu
            go_region
            all_goals go_wp2
            go_roundg jp
            case measure => omega
            case rel =>
              refine ⟨jp, rfl, by omega, ?_, hcu, ?_, fun q hq => ?_⟩
              · rfl
              · refine (((HR.out.drewN (nq + 1)).set (by omega) (G jp)).set (q := jp) (by omega) (G (jp + 1))).congr (fun q hq => ?_)
                rw [HG.out, HG.out, sw_a, sw_b]
                exact sw_swap (by omega) q
              · rw [<- sw_swap (by omega) q]
                split
                · exact (sw_a S x xs i jp) ▸ HV.out (jp + 1) (by omega)
                · split
                  · exact (sw_b S x xs i jp) ▸ HV.out jp (by omega)
                  · exact HV.out q hq
          · have hl : 0 <= cmpZ (ix T (G (jp + 1))) (ix T (G jp)) := by assumption
            rw [HG.out, HG.out, sw_a, sw_b] at hl
            have hl := cmpZ_nn hl
            have hcu := HC.out
            rw [cutF_s, if_neg (by simp [ltT]; omega)] at hcu
            have hso := fun q => sw_out (j := jp + 1) (by omega) lS HS.out HX.out (by rw [lS]; exact hcu.symm) q
            go_roundg (n + 1 - (i + 1))
            case measure => omega
            case rel => exact ⟨i + 1, rfl, by omega, by omega, rfl, ((HR.out.drewN nq).congr fun q hq => hso q), fun q hq => by rw [<- hso q]; exact HV.out q hq⟩
    · have hin : i = n \/ i = n + 1 := by omega
      go_end0
      refine ⟨rfl, hR.congr (fun q hq => ?_)⟩
      unfold prF
      rw [if_pos (by omega), List.take_of_length_le (by omega)]
theorem cmpW (x y : Int) (w : World) : Calls Try.prog 60 #[.int .i64 x, .int .i64 y] w fun e w' => e = .returned (.int .i64 (cmpZ x y)) /\ w' = w := by
  have c := fun x w => nanW x w
  have hc : ∀ args w, (callFunc 72 args).run Try.prog w = .ok (.enter 72 args) w := enters_of Try.func72 (by kernel_rfl) rfl
  go_enter Try.func60, Try.ntmps60
  go_wp2_with (go_at_call 72; refine (c _ _).mono ?_; rintro e w' ⟨rfl, hw⟩; rw [hw])
  all_goals (go_ret; refine ⟨congrArg (fun z => Ending.returned (Value.int .i64 z)) ?_, rfl⟩; unfold cmpZ; first | (rw [if_pos (by omega)]; done) | (rw [if_neg (by omega), if_pos (by omega)]; done) | (rw [if_neg (by omega), if_neg (by omega)]; done))
theorem cmpTW (bb off ab ao mb mo mcap : Nat) (d : List (List Int)) (n : Nat) (a : Nat) (w : World) (x y : Nat) (hx : x < d.length) (hy : y < d.length) (hd : ∀ r ∈ d, r.length = n) (ha : a < n) (hb : d.length <= 1000) (hn : n <= 1000)
    (hc0 : w.cell? ⟨bb, off + 1, none⟩ = some (.slice (some ⟨mb, mo, none⟩) d.length mcap)) (hca : w.cell? ⟨ab, ao, none⟩ = some (.int .i64 a))
    (hT : ∀ q, q < d.length -> ∃ rb ro rc, w.cell? ⟨mb, mo + q, none⟩ = some (.slice (some ⟨rb, ro, none⟩) n rc) /\ w.cell? ⟨rb, ro + a, none⟩ = some (.int .i64 (ix (ix d (q : Int)) (a : Int)))) :
    Calls Try.prog 59 #[.int .i64 x, .int .i64 y, .pointer (some ⟨bb, off, none⟩), .pointer (some ⟨ab, ao, none⟩)] w fun e w' => e = .returned (.int .i64 (cmpZ (ix (ix d (x : Int)) (a : Int)) (ix (ix d (y : Int)) (a : Int)))) /\ ∃ q, w' = w.drewN q := by
  have c := fun x y w => cmpW x y w
  have hc : ∀ args w, (callFunc 60 args).run Try.prog w = .ok (.enter 60 args) w := enters_of Try.func60 (by kernel_rfl) rfl
  obtain ⟨rb1, ro1, rc1, h1, h2⟩ := hT x hx
  obtain ⟨rb2, ro2, rc2, h3, h4⟩ := hT y hy
  go_enter Try.func59, Try.ntmps59
  go_wp2
  go_quiet (first | (go_at_call 60; refine Calls.quiet_of_same (c _ _ _)))
  go_wp2
  go_ret
  exact ⟨rfl, _, rfl⟩
theorem insCW0 (a : Option Addr) (cap : Nat) (p : Value) (w : World) : Calls Try.prog 83 #[.slice a 0 cap, .int .i64 0, .int .i64 0, p] w fun e w' => e = .returned (.tuple #[]) /\ w' = w := by
  go_enter Try.func83, Try.ntmps83
  go_wp2
  go_loopg [8] 0 (fun m ii wr => ii = .int .i64 1 /\ wr = w)
  case atStart => exact ⟨rfl, rfl⟩
  case round =>
    obtain ⟨rfl, rfl⟩ := hrel
    go_wp2
    go_end0
    exact ⟨rfl, rfl⟩
/-- A walk over an own row of numbers, in the words of the abstract run. -/
theorem rowM {f : FuncId} {rest : List AV} {xs ys : List Int} (hl : ys.length = xs.length)
    (hrun : ∀ (S : Store) (ρ : Rho) (w : World) (a : Option Addr) (cap : Nat) (vs : List Value), (∀ b c, S b = some c -> CellsIn w b c) -> vs.length = rest.length ->
      (∀ (j : Nat) x v, rest[j]? = some x -> vs[j]? = some v -> V S ρ (Heap.look [((0 : Nat), Blk.arr (AV.ints xs))]) x v) ->
      (xs.length = 0 -> Calls Try.prog f (Value.slice a xs.length cap :: vs).toArray w fun e w' => e = .returned (.tuple #[]) /\ w' = w) /\
      ∀ g el sz, a = some ⟨g, 0, none⟩ -> S g = none -> RowF w w g el sz xs.length (fun q => ix xs (q : Int)) ->
        Calls Try.prog f (Value.slice a xs.length cap :: vs).toArray w fun e w' => e = .returned (.tuple #[]) /\ RowF w w' g el sz xs.length (fun q => ix ys (q : Int))) :
    SpecM Try.prog f (.sl 0 :: rest) [(0, .arr (.ints xs))] 1 (.tup []) [(0, .arr (.ints ys))] := by
  have hlk : ∀ {z : List Int} (r) (k' : Blk), Heap.look [((0 : Nat), Blk.arr (AV.ints z))] r = some k' -> r = 0 /\ k' = .arr (.ints z) := fun r k' h => by
    unfold Heap.look at h
    split at h
    · rename_i e; cases h; exact ⟨e.symm, rfl⟩
    · cases h
  refine ⟨fun r k1 k2 h1 h2 => ?_, ?_⟩
  · obtain ⟨rfl, rfl⟩ := hlk r k1 h1
    obtain ⟨_, rfl⟩ := hlk _ k2 h2
    exact ss_ints hl.symm
  intro own S ρ w cargs hown hrel hsz hargs
  obtain ⟨v0, vs, rfl⟩ : ∃ v0 vs, cargs = (v0 :: vs).toArray := by
    obtain ⟨l⟩ := cargs
    cases l with
    | nil => simp at hsz
    | cons a l => exact ⟨a, l, rfl⟩
  have hv0 := hargs 0 _ v0 rfl rfl
  have hlook : Heap.look [((0 : Nat), Blk.arr (AV.ints xs))] 0 = some (.arr (.ints xs)) := rfl
  have hft : ∀ {z : List Int} r j, foot ρ (Heap.look [((0 : Nat), Blk.arr (AV.ints z))]) r j -> (r = 0 /\ j = 0) /\ ρ.cap 0 ≠ 0 := fun {z} r j h => by
    unfold foot at h
    cases hr : Heap.look [((0 : Nat), Blk.arr (AV.ints z))] r with
    | none => rw [hr] at h; exact h.elim
    | some k' =>
      obtain ⟨rfl, rfl⟩ := hlk r k' hr
      rw [hr] at h
      exact ⟨⟨rfl, h.1⟩, h.2⟩
  obtain ⟨v, zs, m, a, e1, e2, e3, e4⟩ := hv0.sl_inv
  rw [hlook] at e2; cases e2
  simp only [AV.elems, Option.some.injEq, Prod.mk.injEq] at e3
  obtain ⟨rfl, rfl⟩ := e3
  subst e1
  obtain ⟨zs, m, c, he, hc, hcs, hcap, hcm, harr⟩ := hrel.blk 0 _ hlook
  simp only [AV.elems, Option.some.injEq, Prod.mk.injEq] at he
  obtain ⟨rfl, rfl⟩ := he
  rw [List.length_map] at hcap ⊢
  obtain ⟨hr0, hr1⟩ := hrun S ρ w a (ρ.cap 0) vs hrel.stab (by simpa using hsz) (fun j x v h1 h2 => hargs (j + 1) x v h1 (by simpa using h2))
  have hown0 : ρ.cap 0 ≠ 0 -> own (ρ.blk 0 0) /\ S (ρ.blk 0 0) = none := fun h => hrel.owned 0 0 (foot_arr hlook h)
  have fin : ∀ (w' : World) (c' : Array Value), (ρ.cap 0 ≠ 0 -> OwnCells w' (ρ.blk 0 0) c') -> c'.size = c.size -> (∀ i, i < xs.length -> c'[i]? = some (.int .i64 (ix ys (i : Int)))) ->
      (∀ b, (ρ.cap 0 ≠ 0 -> b ≠ ρ.blk 0 0) -> w'.heap[b]? = w.heap[b]?) -> w'.os = w.os -> w'.tape = w.tape -> w'.output = w.output -> w'.heap.size = w.heap.size -> w.drawn <= w'.drawn ->
      ∃ cv S' ρ', Ending.returned (.tuple #[]) = Ending.returned cv /\ Rel own S' ρ' (Heap.look [((0 : Nat), Blk.arr (AV.ints ys))]) w' /\ S.le S' /\ (∀ b, S b = none -> S' b ≠ none -> own b) /\
        Kept own w w' /\ V S' ρ' (Heap.look [((0 : Nat), Blk.arr (AV.ints ys))]) (.tup []) cv /\ ∀ r, r < 1 -> Heap.look [((0 : Nat), Blk.arr (AV.ints ys))] r ≠ none -> (∀ j, ρ'.blk r j = ρ.blk r j) /\ ρ'.cap r = ρ.cap r /\ ∀ i, ρ'.rcap r i = ρ.rcap r i := by
    intro w' c' hc' hcs' hv' hoth h1 h2 h3 h4 h5
    refine ⟨.tuple #[], S, ρ, rfl, ⟨fun b c2 hb => ?_, hrel.amb, fun r k' hr => ?_, fun r j h => ?_, fun r j r' j' h h' _ => ?_⟩, fun _ _ h => h, fun b h1 h2 => absurd h1 h2, ⟨h1, h2, h3, by omega, fun b hlt hno => ?_, fun _ => h5⟩, .tup _ _ rfl (fun j x v h1 _ => by cases h1), fun r _ _ => ⟨fun _ => rfl, rfl, fun _ => rfl⟩⟩
    · obtain ⟨el, fr, h⟩ := hrel.stab b c2 hb
      exact ⟨el, fr, by rw [hoth b (fun hh e => by rw [e, (hown0 hh).2] at hb; cases hb)]; exact h⟩
    · obtain ⟨rfl, rfl⟩ := hlk r k' hr
      refine ⟨ys.map (AV.int .i64), 1, c', rfl, hc', by rw [hcs', hcs], by rw [List.length_map, hl]; exact hcap, fun x hx => ?_, fun i x j y hx hy => ?_⟩
      · obtain ⟨y, _, rfl⟩ := List.mem_map.1 hx; rfl
      · have hi : i < xs.length := by have := (List.getElem?_eq_some_iff.1 hx).1; rwa [List.length_map, hl] at this
        have ex : x = .int .i64 (ix ys (i : Int)) := by
          rw [List.getElem?_map, ix_some ys (by omega)] at hx
          exact (Option.some.inj hx).symm
        subst ex
        rcases j with _ | j
        · simp [AV.cells] at hy
          subst hy
          rw [Nat.mul_one, Nat.add_zero]
          exact ⟨_, hv' i hi, .int _ _⟩
        · simp [AV.cells] at hy
    · obtain ⟨⟨rfl, rfl⟩, h0⟩ := hft r j h
      exact hown0 h0
    · obtain ⟨⟨rfl, rfl⟩, _⟩ := hft r j h
      obtain ⟨⟨rfl, rfl⟩, _⟩ := hft r' j' h'
      exact ⟨rfl, rfl⟩
    · exact hoth b (fun hh e => hno (e ▸ (hown0 hh).1))
  by_cases h0 : xs.length = 0
  · refine (hr0 h0).mono ?_
    rintro e w' ⟨rfl, rfl⟩
    exact fin w' c hc rfl (fun i hi => by omega) (fun _ _ => rfl) rfl rfl rfl rfl (Nat.le_refl _)
  · have hcap0 : ρ.cap 0 ≠ 0 := by omega
    obtain ⟨el, hcell⟩ := hc hcap0
    have hR : RowF w w (ρ.blk 0 0) el c.size xs.length (fun q => ix xs (q : Int)) := ⟨⟨c, hcell, rfl, fun q hq => by
      have e1 : (xs.map (AV.int .i64))[q]? = some (.int .i64 (ix xs (q : Int))) := by rw [List.getElem?_map, ix_some xs hq]; rfl
      obtain ⟨cv, h1, h2⟩ := harr q _ 0 _ e1 rfl
      rw [Nat.mul_one, Nat.add_zero] at h1
      rw [h1]
      have := (V.pure (ρ := ρ) (H := fun _ => none) _ _ h2).int_inv
      rw [this]⟩, fun _ _ => rfl, rfl, rfl, rfl, rfl, Nat.le_refl _⟩
    refine (hr1 _ el c.size (e4 hcap0) (hown0 hcap0).2 hR).mono ?_
    rintro e w' ⟨rfl, hR'⟩
    obtain ⟨c', g1, g2, g3⟩ := hR'.blk
    exact fin w' c' (fun _ => ⟨el, g1⟩) g2 g3 (fun b hb => hR'.oth b (hb hcap0)) hR'.os hR'.tape hR'.output hR'.size hR'.drawn
end Go.Proofs.Ytgcbdpehnonghaa
