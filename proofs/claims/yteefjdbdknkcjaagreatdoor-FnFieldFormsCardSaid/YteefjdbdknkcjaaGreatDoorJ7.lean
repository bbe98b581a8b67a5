/- Texts joined: PlM A23 A24 XC XSd A23i A24i X4 SP PlV SQ PlV2. -/
import Derived.Test.YteefjdbdknkcjaaGreatDoorJ6
import Derived.Sort.Statements
import Derived.Test.YteefjdbdknkcjaaGreatDoorTy
import Derived.WalkKit
import Derived.Laws.CopyOwn
import Derived.Deep.OwnRows
import Derived.Deep.LoopGhost
import Derived.Shelf.Abstract
import Derived.Lib.Small
import Derived.Test.YteefjdbdknkcjaaGreatDoorShelf
import Derived.Lib.SplitLaws
namespace Go.Proofs.YteefjdbdknkcjaaGreatDoor
open Go.Vc
set_option maxRecDepth 100000
set_option linter.unusedSimpArgs false
set_option linter.unusedVariables false

def cmpZ (x y : Int) : Int := if x < y then -1 else if y < x then 1 else 0
def cmpL : List Int -> List Int -> Int
  | [], [] => 0
  | [], _ :: _ => -1
  | _ :: _, [] => 1
  | x :: r, y :: s => if cmpZ x y ≠ 0 then cmpZ x y else cmpL r s
def cmpS (a b : List Int) : Int := if cmpZ a.length b.length ≠ 0 then cmpZ a.length b.length else cmpL a b
theorem cmpZ_anti (x y : Int) : cmpZ y x = - cmpZ x y := by unfold cmpZ; split <;> split <;> omega
theorem cmpZ_zero {x y : Int} (h : cmpZ x y = 0) : x = y := by unfold cmpZ at h; split at h <;> (try split at h) <;> omega
theorem cmpZ_trans {x y z : Int} (h : cmpZ x y < 0) (k : cmpZ y z < 0) : cmpZ x z < 0 := by
  unfold cmpZ at *; split at h <;> (try split at h) <;> split at k <;> (try split at k) <;> (try omega)
theorem cmpZ_self (x : Int) : cmpZ x x = 0 := by unfold cmpZ; rw [if_neg (by omega), if_neg (by omega)]
theorem cmpL_anti : ∀ a b : List Int, cmpL b a = - cmpL a b
  | [], [] => rfl
  | [], _ :: _ => rfl
  | _ :: _, [] => rfl
  | x :: r, y :: s => by
    unfold cmpL
    have := cmpZ_anti x y
    by_cases h : cmpZ x y = 0
    · rw [if_neg (by omega), if_neg (by omega), cmpL_anti r s]
    · rw [if_pos (by omega), if_pos (by omega), this]
theorem cmpL_zero : ∀ {a b : List Int}, cmpL a b = 0 -> a = b
  | [], [], _ => rfl
  | [], _ :: _, h => by simp [cmpL] at h
  | _ :: _, [], h => by simp [cmpL] at h
  | x :: r, y :: s, h => by
    unfold cmpL at h
    split at h
    · omega
    · rename_i h1
      rw [cmpZ_zero (x := x) (y := y) (by omega), cmpL_zero h]
theorem cmpL_trans : ∀ {a b c : List Int}, cmpL a b < 0 -> cmpL b c < 0 -> cmpL a c < 0
  | [], [], _, h, _ => by simp [cmpL] at h
  | [], _ :: _, [], _, k => by simp [cmpL] at k
  | [], _ :: _, _ :: _, _, _ => by simp [cmpL]
  | _ :: _, [], _, h, _ => by simp [cmpL] at h
  | _ :: _, _ :: _, [], _, k => by simp [cmpL] at k
  | x :: r, y :: s, z :: t, h, k => by
    unfold cmpL at h k ⊢
    by_cases h1 : cmpZ x y = 0
    · have e := cmpZ_zero h1
      subst e
      rw [if_neg (by omega)] at h
      by_cases h2 : cmpZ x z = 0
      · rw [if_neg (by omega)] at k ⊢
        exact cmpL_trans h k
      · rw [if_pos h2] at k ⊢
        exact k
    · rw [if_pos h1] at h
      by_cases h2 : cmpZ y z = 0
      · have e := cmpZ_zero h2
        subst e
        rw [if_pos h1]; exact h
      · rw [if_pos h2] at k
        have := cmpZ_trans h k
        rw [if_pos (by omega)]; exact this
theorem cmpS_anti (a b : List Int) : cmpS b a = - cmpS a b := by
  unfold cmpS
  have := cmpZ_anti a.length b.length
  by_cases h : cmpZ (a.length : Int) b.length = 0
  · rw [if_neg (by omega), if_neg (by omega), cmpL_anti a b]
  · rw [if_pos (by omega), if_pos (by omega), this]
theorem cmpS_zero {a b : List Int} (h : cmpS a b = 0) : a = b := by
  unfold cmpS at h
  split at h
  · omega
  · exact cmpL_zero h
theorem cmpL_self : ∀ a : List Int, cmpL a a = 0
  | [] => rfl
  | x :: r => by unfold cmpL; rw [if_neg (by rw [cmpZ_self]; simp), cmpL_self r]
theorem cmpS_self (a : List Int) : cmpS a a = 0 := by unfold cmpS; rw [if_neg (by rw [cmpZ_self]; simp), cmpL_self]
theorem cmpS_trans {a b c : List Int} (h : cmpS a b < 0) (k : cmpS b c < 0) : cmpS a c < 0 := by
  unfold cmpS at *
  by_cases h1 : cmpZ (a.length : Int) b.length = 0
  · have e := cmpZ_zero h1
    rw [if_neg (by omega)] at h
    by_cases h2 : cmpZ (b.length : Int) c.length = 0
    · have h3 : cmpZ (a.length : Int) c.length = 0 := by rw [e]; exact h2
      rw [if_neg (by omega)] at k ⊢
      exact cmpL_trans h k
    · have h3 : cmpZ (a.length : Int) c.length = cmpZ (b.length : Int) c.length := by rw [e]
      rw [if_pos h2] at k
      rw [if_pos (by omega), h3]; exact k
  · rw [if_pos h1] at h
    by_cases h2 : cmpZ (b.length : Int) c.length = 0
    · have e := cmpZ_zero h2
      have h3 : cmpZ (a.length : Int) c.length = cmpZ (a.length : Int) b.length := by rw [<- e]
      rw [if_pos (by omega), h3]; exact h
    · rw [if_pos h2] at k
      have := cmpZ_trans h k
      rw [if_pos (by omega)]; exact this
def leS (x y : List Int) : Bool := !decide (cmpS y x < 0)
def sortS (xss : List (List Int)) : List (List Int) := xss.mergeSort leS
theorem leS_trans (a b c : List Int) (h : leS a b = true) (k : leS b c = true) : leS a c = true := by
  unfold leS at *
  simp only [Bool.not_eq_true', decide_eq_false_iff_not] at *
  intro h1
  have e1 := cmpS_anti a b
  have e2 := cmpS_anti b c
  by_cases z1 : cmpS a b = 0
  · have := cmpS_zero z1; subst this; exact k h1
  · by_cases z2 : cmpS b c = 0
    · have := cmpS_zero z2; subst this; exact h h1
    · have := cmpS_trans (a := a) (b := b) (c := c) (by omega) (by omega)
      have e3 := cmpS_anti a c
      omega
theorem sortS_perm (xss : List (List Int)) : (sortS xss).Perm xss := List.mergeSort_perm _ _
def posS (x : List Int) (out : List (List Int)) : Nat -> Nat
  | 0 => 0
  | k + 1 => if cmpS x (ix out (k : Int)) < 0 then posS x out k else k + 1
def insS (x : List Int) (out : List (List Int)) : List (List Int) := out.take (posS x out out.length) ++ [x] ++ out.drop (posS x out out.length)
def foldS (xss : List (List Int)) : Nat -> List (List Int)
  | 0 => []
  | k + 1 => insS (ix xss (k : Int)) (foldS xss k)
end Go.Proofs.YteefjdbdknkcjaaGreatDoor
namespace Go.Proofs.YteefjdbdknkcjaaGreatDoor
open Go.Vc
set_option maxRecDepth 100000
set_option linter.unusedSimpArgs false
set_option linter.unusedVariables false

def allK (n : Nat) (c : Nat) : List (List Int) := tab c fun c => bagL (c + 1)
def allL (n : Nat) : List (List Int) := allK n (2 ^ n - 1)
def setsL (n : Nat) : List (List Int) := sortS (allL n)
theorem pow_7 : ∀ n : Nat, n <= 7 -> 1 <= 2 ^ n /\ 2 ^ n <= 128 /\ ((1 : Int) * 2 ^ n) = ((2 ^ n : Nat) : Int) := by decide
theorem pow_ge2 : ∀ n : Nat, 1 <= n -> 2 <= 2 ^ n := fun n h => by have := Nat.pow_le_pow_right (n := 2) (by omega) h; omega
theorem bag_pos : ∀ b : Nat, b < 128 -> 0 < b -> 0 < (bagL b).length := by decide +kernel
theorem bagL_inj {a b : Nat} (ha : a < 128) (hb : b < 128) (h : bagL a = bagL b) : a = b := by
  refine Nat.eq_of_testBit_eq (fun i => ?_)
  have e : ∀ c : Nat, c < 128 -> (c.testBit i = true ↔ (i : Int) ∈ bagL c) := fun c hc => by
    rw [mem_bagL (n := 7) hc (by omega)]; simp
  have h1 := e a ha
  have h2 := e b hb
  rw [h] at h1
  cases x : a.testBit i <;> cases y : b.testBit i <;> simp_all
theorem allL_len (n : Nat) : (allL n).length = 2 ^ n - 1 := tab_len _ _
theorem allL_nodup {n : Nat} (h : n <= 7) : (allL n).Nodup := by
  have hp := pow_7 n h
  unfold allL allK tab
  rw [List.nodup_iff_pairwise_ne, List.pairwise_map]
  refine List.Pairwise.imp_of_mem (fun {a b} hma hmb hab e => ?_) List.pairwise_lt_range
  have ha := List.mem_range.1 hma
  have hb := List.mem_range.1 hmb
  have := bagL_inj (a := a + 1) (b := b + 1) (by omega) (by omega) e
  omega
theorem allL_mem {n : Nat} (h : n <= 7) {set : List Int} (hm : set ∈ allL n) : 0 < set.length /\ set.length <= 64 /\ ∀ x ∈ set, 0 <= x /\ x < n := by
  have hp := pow_7 n h
  obtain ⟨c, hc, rfl⟩ := mem_tab.1 hm
  refine ⟨bag_pos _ (by omega) (by omega), sel_len _ _, fun x hx => ?_⟩
  obtain ⟨h0, h1⟩ := (mem_bagL (n := 7) (by omega) (by omega)).1 hx
  have := bit_lt (b := c + 1) (n := n) (by omega) h1
  omega
theorem setsL_mem {n : Nat} (h : n <= 7) {set : List Int} (hm : set ∈ setsL n) : 0 < set.length /\ set.length <= 64 /\ ∀ x ∈ set, 0 <= x /\ x < n :=
  allL_mem h ((sortS_perm (allL n)).mem_iff.1 hm)
theorem setsL_len (n : Nat) : (setsL n).length = 2 ^ n - 1 := by
  unfold setsL
  rw [(sortS_perm (allL n)).length_eq, allL_len]
theorem setsL_open {o : List Int} {d : List (List Int)} (hf : FieldOK o d) {set : List Int} (hm : set ∈ setsL o.length) : OpenOK o d set := by
  obtain ⟨h1, h2, h3⟩ := setsL_mem hf.n7 hm
  exact ⟨hf, h1, by omega, fun k hk => h3 _ (ix_mem set hk)⟩

end Go.Proofs.YteefjdbdknkcjaaGreatDoor
namespace Go.Proofs.YteefjdbdknkcjaaGreatDoor
open Go.Vc
set_option maxRecDepth 100000
set_option linter.unusedSimpArgs false
set_option linter.unusedVariables false

def bestT (v : List Int -> Int) (xss : List (List Int)) : Nat -> List Int
  | 0 => ix xss 0
  | k + 1 => if v (ix xss (k : Int)) < v (bestT v xss k) then ix xss (k : Int) else bestT v xss k
def bestL (o : List Int) (d : List (List Int)) : List Int := bestT (total o d) (setsL o.length) (setsL o.length).length
theorem bestT_mem (v : List Int -> Int) {xss : List (List Int)} (h : 0 < xss.length) : ∀ k, k <= xss.length -> bestT v xss k ∈ xss := by
  intro k
  induction k with
  | zero => intro _; exact ix_mem (k := 0) xss h
  | succ k ih =>
    intro hk
    unfold bestT
    split
    · exact ix_mem xss (by omega)
    · exact ih (by omega)
theorem bestL_open {o : List Int} {d : List (List Int)} (hf : FieldOK o d) : OpenOK o d (bestL o d) := by
  have h1 := setsL_len o.length
  have h2 := pow_ge2 o.length hf.n1
  exact setsL_open hf (bestT_mem _ (by omega) _ (Nat.le_refl _))

end Go.Proofs.YteefjdbdknkcjaaGreatDoor
namespace Go.Proofs.YteefjdbdknkcjaaGreatDoor
open Go.Vc Go.RowKit Go.Shelf
set_option maxRecDepth 100000
set_option maxHeartbeats 2000000
set_option linter.unusedSimpArgs false
set_option linter.unusedVariables false
theorem nanW (x : Int) (w : World) : Calls Tryz.prog 127 #[.int .i64 x] w fun e w' => e = .returned (.bool false) /\ w' = w := by
  go_enter Tryz.func127, Tryz.ntmps127
  go_wp2
  go_ret
  exact ⟨by simp, rfl⟩
theorem cmpW (x y : Int) (w : World) : Calls Tryz.prog 102 #[.int .i64 x, .int .i64 y] w fun e w' => e = .returned (.int .i64 (cmpZ x y)) /\ w' = w := by
  have c := fun x => nanW x w
  have hc : ∀ args w, (callFunc 127 args).run Tryz.prog w = .ok (.enter 127 args) w := enters_of Tryz.func127 (by kernel_rfl) rfl
  go_enter Tryz.func102, Tryz.ntmps102
  go_wp2_with (go_at_call 127; refine (c _).mono ?_; rintro e w' ⟨rfl, hw⟩; rw [hw])
  all_goals (go_ret; refine ⟨?_, rfl⟩; unfold cmpZ; (repeat' split) <;> first | rfl | (exfalso; omega))
theorem cmpLW (b1 o1 c1 b2 o2 c2 : Nat) (xs ys : List Int) (w : World) (hx : xs.length <= 1048576000) (hy : ys.length <= 1048576000) (hc1 : ∀ j, j < xs.length -> w.cell? ⟨b1, o1 + j, none⟩ = some (.int .i64 (ix xs (j : Int)))) (hc2 : ∀ j, j < ys.length -> w.cell? ⟨b2, o2 + j, none⟩ = some (.int .i64 (ix ys (j : Int)))) :
    Calls Tryz.prog 103 #[.slice (some ⟨b1, o1, none⟩) xs.length c1, .slice (some ⟨b2, o2, none⟩) ys.length c2] w fun e w' => e = .returned (.int .i64 (cmpL xs ys)) /\ w' = w := by
  have c := fun x y => cmpW x y w
  have hc : ∀ args w, (callFunc 102 args).run Tryz.prog w = .ok (.enter 102 args) w := enters_of Tryz.func102 (by kernel_rfl) rfl
  generalize hn : xs.length = n at *
  generalize hm : ys.length = m at *
  go_enter Tryz.func103, Tryz.ntmps103
  go_wp2
  go_loopg [11] n (fun g s11 wr => ∃ k : Nat, k <= n /\ k <= m /\ n - k <= g /\ s11 = .int .i64 k /\ wr = w /\ cmpL (xs.drop k) (ys.drop k) = cmpL xs ys)
  case atStart => exact ⟨0, Nat.zero_le _, Nat.zero_le _, by omega, rfl, rfl, rfl⟩
  case round =>
    obtain ⟨k, hk, hky, hg, rfl, rfl, heq⟩ := hrel
    by_cases hlt : k < n
    · have g1 := hc1 k hlt
      by_cases hlt2 : k < m
      · have g2 := hc2 k hlt2
        rw [drop_ix xs (show k < xs.length by omega), drop_ix ys (show k < ys.length by omega), cmpL] at heq
        have A : Aside ((if cmpZ (ix xs (k : Int)) (ix ys (k : Int)) ≠ 0 then cmpZ (ix xs (k : Int)) (ix ys (k : Int)) else cmpL (xs.drop (k + 1)) (ys.drop (k + 1))) = cmpL xs ys) := heq
        clear heq hc1 hc2
        generalize ix xs (k : Int) = x at g1 A
        generalize ix ys (k : Int) = y at g2 A
        by_cases hxy : cmpZ x y = 0
        · go_wp2_with (go_at_call 102; refine (c _ _).mono ?_; rintro e w' ⟨rfl, hw⟩; rw [hw])
          go_roundg (n - (k + 1))
          case measure => omega
          case rel =>
            refine ⟨k + 1, by omega, by omega, by omega, by go_num, rfl, ?_⟩
            have := A.out
            rw [if_neg (by omega)] at this
            exact this
        · go_wp2_with (go_at_call 102; refine (c _ _).mono ?_; rintro e w' ⟨rfl, hw⟩; rw [hw])
          go_ret
          have := A.out
          rw [if_pos hxy] at this
          rw [this]
          exact ⟨rfl, rfl⟩
      · have g1' := g1
        clear hc1 hc2
        go_wp2
        go_ret
        rw [drop_ix xs (show k < xs.length by omega), show k = ys.length by omega, List.drop_length, cmpL] at heq
        rw [<- heq]
        exact ⟨rfl, rfl⟩
    · clear hc1 hc2
      rw [show k = xs.length by omega, List.drop_length] at heq
      by_cases hd : xs.length < ys.length
      · rw [drop_ix ys hd, cmpL] at heq
        go_wp2
        go_ret
        rw [<- heq]
        exact ⟨rfl, rfl⟩
      · rw [show xs.length = ys.length by omega, List.drop_length, cmpL] at heq
        go_wp2
        go_ret
        rw [<- heq]
        exact ⟨rfl, rfl⟩
theorem orW (B : Nat) (x y : Int) (w : World) (h1 : w.cell? ⟨B, 0, none⟩ = some (.int .i64 x)) (h2 : w.cell? ⟨B, 1, none⟩ = some (.int .i64 y)) :
    Calls Tryz.prog 101 #[.slice (some ⟨B, 0, none⟩) 2 2] w fun e w' => e = .returned (.int .i64 (if x ≠ 0 then x else y)) /\ w' = w := by
  generalize hz : (if x ≠ 0 then x else y) = z
  go_enter Tryz.func101, Tryz.ntmps101
  go_wp2
  go_loopg [8] 2 (fun g s8 wr => ∃ k : Nat, k <= 2 /\ 2 - k <= g /\ s8 = .int .i64 k /\ wr = w /\ (1 <= k -> x = 0) /\ (2 <= k -> y = 0))
  case atStart => exact ⟨0, by omega, by omega, rfl, rfl, fun h => by omega, fun h => by omega⟩
  case round =>
    obtain ⟨k, hk, hg, rfl, rfl, hx0, hy0⟩ := hrel
    rcases (by omega : k = 0 \/ k = 1 \/ k = 2) with rfl | rfl | rfl
    · by_cases hx : x = 0
      · go_wp2
        go_roundg 1
        case measure => omega
        case rel => exact ⟨1, by omega, by omega, by go_num, rfl, fun _ => hx, fun h => by omega⟩
      · rw [if_pos hx] at hz
        subst hz
        go_wp2
        go_ret
        exact ⟨rfl, rfl⟩
    · have hx := hx0 (by omega)
      rw [if_neg (by omega)] at hz
      subst hz
      by_cases hy : y = 0
      · go_wp2
        go_roundg 0
        case measure => omega
        case rel => exact ⟨2, by omega, by omega, by go_num, rfl, fun _ => hx, fun _ => hy⟩
      · go_wp2
        go_ret
        exact ⟨rfl, rfl⟩
    · have hx := hx0 (by omega)
      have hy := hy0 (by omega)
      rw [if_neg (by omega)] at hz
      subst hz
      go_wp2
      go_ret
      rw [hy]
      exact ⟨rfl, rfl⟩
theorem cmpSW (b1 o1 c1 b2 o2 c2 : Nat) (xs ys : List Int) (w : World) (hx : xs.length <= 1048576000) (hy : ys.length <= 1048576000) (hc1 : ∀ j, j < xs.length -> w.cell? ⟨b1, o1 + j, none⟩ = some (.int .i64 (ix xs (j : Int)))) (hc2 : ∀ j, j < ys.length -> w.cell? ⟨b2, o2 + j, none⟩ = some (.int .i64 (ix ys (j : Int)))) :
    Calls Tryz.prog 84 #[.slice (some ⟨b1, o1, none⟩) xs.length c1, .slice (some ⟨b2, o2, none⟩) ys.length c2] w fun e w' => e = .returned (.int .i64 (cmpS xs ys)) /\ ∃ q os, w' = Sort.grow (w.drewN q) os := by
  have ca := cmpW (xs.length : Int) (ys.length : Int) w
  have cb := cmpLW b1 o1 c1 b2 o2 c2 xs ys w hx hy hc1 hc2
  have ha : ∀ args w, (callFunc 102 args).run Tryz.prog w = .ok (.enter 102 args) w := enters_of Tryz.func102 (by kernel_rfl) rfl
  have hb : ∀ args w, (callFunc 103 args).run Tryz.prog w = .ok (.enter 103 args) w := enters_of Tryz.func103 (by kernel_rfl) rfl
  have hc : ∀ args w, (callFunc 101 args).run Tryz.prog w = .ok (.enter 101 args) w := enters_of Tryz.func101 (by kernel_rfl) rfl
  have cell2 : ∀ (x y : Int) (k : Nat) (v : Value), (#[Value.int .i64 x, Value.int .i64 y] : Array Value)[k]? = some v -> (w.alloc (.cells #[.int .i64 x, .int .i64 y] 3)).cell? ⟨w.heap.size, k, none⟩ = some v := fun x y k v h => by
    show (match (w.heap.push (Obj.cells #[.int .i64 x, .int .i64 y] 3))[w.heap.size]? with | some (.cells c _ _) => if (none : Option Nat).isSome then none else c[k]? | _ => none) = some v
    rw [Array.getElem?_push_size]
    exact h
  have cc : Calls Tryz.prog 101 #[.slice (some ⟨w.heap.size, 0, none⟩) 2 2] (w.alloc (.cells #[.int .i64 (cmpZ xs.length ys.length), .int .i64 (cmpL xs ys)] 3)) fun e w' => e = .returned (.int .i64 (cmpS xs ys)) /\ w' = w.alloc (.cells #[.int .i64 (cmpZ xs.length ys.length), .int .i64 (cmpL xs ys)] 3) :=
    orW w.heap.size _ _ _ (cell2 _ _ 0 _ rfl) (cell2 _ _ 1 _ rfl)
  clear hc1 hc2
  go_enter Tryz.func84, Tryz.ntmps84
  go_wp2_with first | (go_at_call 102; refine ca.mono ?_; rintro e w' ⟨rfl, hw⟩; rw [hw]) | (go_at_call 103; refine cb.mono ?_; rintro e w' ⟨rfl, hw⟩; rw [hw]) | (go_at_call 101; refine cc.mono ?_; rintro e w' ⟨rfl, hw⟩; rw [hw])
  go_ret
  refine ⟨?_, 0, #[.cells #[.int .i64 (cmpZ xs.length ys.length), .int .i64 (cmpL xs ys)] 3], ?_⟩
  · rfl
  · show w.alloc _ = _
    unfold Sort.grow World.alloc World.drewN
    congr 1
end Go.Proofs.YteefjdbdknkcjaaGreatDoor
namespace Go.Proofs.YteefjdbdknkcjaaGreatDoor
open Go.Vc Go.RowKit Go.Sort
set_option maxRecDepth 100000
set_option linter.unusedSimpArgs false
set_option linter.unusedVariables false
theorem sees_intv {S : Store} {n : Int} {v : Value} (h : Sees S (.int .i64 n) v) : v = .int .i64 n := by
  cases h with
  | int => rfl
  | lst _ _ _ _ _ he => simp [AV.elems] at he
theorem mapBlock_row {w : World} {b : Nat} {c : Array Value} {el : TypeId} {fr : Nat × Nat} (f : Array Value -> Array Value) (h : w.heap[b]? = some (.cells c el fr)) : Sort.mapBlock w b f = w.setRow b (f c) := by
  unfold Sort.mapBlock World.setRow
  congr 1
  apply Array.ext_getElem?
  intro k
  simp only [Array.getElem?_modify]
  by_cases hk : b = k
  · subst hk
    simp only [if_true, h, Option.map_some, Sort.onCells]
  · simp [hk]
theorem fin_map {α : Type} [Inhabited α] (xs : List α) : (List.finRange xs.length).map (fun i => ix xs (i.val : Int)) = xs := by
  apply List.ext_getElem
  · simp
  · intro i h1 h2
    have e := ix_some xs h2
    rw [List.getElem?_eq_getElem h2] at e
    simp [<- Option.some.inj e]
theorem sort_map {α : Type} (f : α -> List Int) (l : List α) : (l.mergeSort fun i j => leS (f i) (f j)).map f = (l.map f).mergeSort leS := List.map_mergeSort (fun _ _ _ _ => rfl)
theorem sort_fin (xss : List (List Int)) : ((List.finRange xss.length).mergeSort fun i j => leS (ix xss (i.val : Int)) (ix xss (j.val : Int))).map (fun i => ix xss (i.val : Int)) = sortS xss := by
  have h := sort_map (fun i : Fin xss.length => ix xss (i.val : Int)) (List.finRange xss.length)
  rw [fin_map] at h
  exact h
theorem look1 (k k' : Blk) (r : Nat) (h : Heap.look [(0, k)] r = some k') : r = 0 /\ k' = k := by
  unfold Heap.look at h
  split at h
  · rename_i e; cases h; exact ⟨e.symm, rfl⟩
  · cases h
def g_sortC : List AV -> Heap -> Prop × AV × Heap
  | [.sl 0, .fn 84 []], [(0, .arr (.rows xss))] => (0 < xss.length /\ xss.length <= 1000 /\ xss.Nodup /\ ∀ x ∈ xss, 0 < x.length /\ x.length <= 1048576000, .tup [], [(0, .arr (.rows (sortS xss)))])
  | _, _ => (False, .undef, [])
theorem g_sortC_eq (xss : List (List Int)) : g_sortC [.sl 0, .fn 84 []] [(0, .arr (.rows xss))] = (0 < xss.length /\ xss.length <= 1000 /\ xss.Nodup /\ ∀ x ∈ xss, 0 < x.length /\ x.length <= 1048576000, .tup [], [(0, .arr (.rows (sortS xss)))]) := (rfl)
theorem sortC_ok (xss : List (List Int)) (hp : 0 < xss.length /\ xss.length <= 1000 /\ xss.Nodup /\ ∀ x ∈ xss, 0 < x.length /\ x.length <= 1048576000) : SpecM Tryz.prog 83 [.sl 0, .fn 84 []] [(0, .arr (.rows xss))] 1 (.tup []) [(0, .arr (.rows (sortS xss)))] := by
  obtain ⟨hn0, hn1, hnd, hlen⟩ := hp
  have hsl : (sortS xss).length = xss.length := (sortS_perm xss).length_eq
  refine ⟨fun r k k' h1 h2 => ?_, ?_⟩
  · obtain ⟨rfl, rfl⟩ := look1 _ _ _ h1
    obtain ⟨_, rfl⟩ := look1 _ _ _ h2
    exact .arr _ _ (xss.map .ints) ((sortS xss).map .ints) 1 rfl rfl (by simp [hsl])
  intro own S ρ w cargs hown hrel hsz hargs
  obtain ⟨v0, v1, rfl⟩ : ∃ v0 v1, cargs = #[v0, v1] := by
    obtain ⟨l⟩ := cargs
    match l, hsz with
    | [a, b], _ => exact ⟨a, b, rfl⟩
  have hv0 := hargs 0 _ v0 rfl rfl
  have hv1 := hargs 1 _ v1 rfl rfl
  have hlook : Heap.look [(0, Blk.arr (AV.rows xss))] 0 = some (.arr (.rows xss)) := rfl
  obtain ⟨rfl⟩ : v1 = .func (.func 84) #[] #[] := by
    cases hv1 with
    | pure _ _ h => cases h with
      | fn f cs vs hl h => have : vs = #[] := Array.eq_empty_of_size_eq_zero hl; rw [this]
      | lst _ _ _ _ _ he => simp [AV.elems] at he
    | fn f cs vs hl h => have : vs = #[] := Array.eq_empty_of_size_eq_zero hl; rw [this]
  have hb := hrel.blk 0 _ hlook
  obtain ⟨ys, m, c, he, hc, hcs, hcap, hcm, harr⟩ := hb
  simp only [AV.elems, Option.some.injEq, Prod.mk.injEq] at he
  obtain ⟨rfl, rfl⟩ := he
  rw [List.length_map] at hcap
  have hcap0 : ρ.cap 0 ≠ 0 := by omega
  obtain ⟨el, hcell⟩ := hc hcap0
  have hfoot : foot ρ (Heap.look [(0, Blk.arr (AV.rows xss))]) 0 0 := foot_arr hlook hcap0
  obtain ⟨hownb, hSb⟩ := hrel.owned 0 0 hfoot
  have hv : v0 = .slice (some ⟨ρ.blk 0 0, 0, none⟩) xss.length (ρ.cap 0) := by
    cases hv0 with
    | pure _ _ h => cases h with
      | lst _ _ _ _ _ he => simp [AV.elems] at he
    | sl r v xs m a hr he ha =>
      rw [hlook] at hr; cases hr
      simp only [AV.elems, Option.some.injEq, Prod.mk.injEq] at he
      obtain ⟨rfl, rfl⟩ := he
      rw [ha hcap0, List.length_map]
  subst hv
  generalize hB : ρ.blk 0 0 = B at *
  have hBlt : B < w.heap.size := (Array.getElem?_eq_some_iff.1 hcell).1
  have hcsz : xss.length <= c.size := by rw [hcs]; omega
  haveI : Inhabited (Fin xss.length) := ⟨⟨0, hn0⟩⟩
  let enc : Fin xss.length -> Value := fun i => (c[i.val]?).getD (.slice none 0 0)
  have hsee : ∀ i : Fin xss.length, c[i.val]? = some (enc i) /\ Sees S (.ints (ix xss (i.val : Int))) (enc i) := fun i => by
    have e1 : (xss.map AV.ints)[i.val]? = some (.ints (ix xss (i.val : Int))) := by rw [List.getElem?_map, ix_some xss i.isLt]; rfl
    obtain ⟨cv, h1, h2⟩ := harr i.val _ 0 _ e1 rfl
    rw [Nat.mul_one, Nat.add_zero] at h1
    have : enc i = cv := by show (c[i.val]?).getD _ = cv; rw [h1]; rfl
    rw [this]; exact ⟨h1, h2⟩
  have hone : OneCell enc := fun i => by
    have h := (hsee i).2
    generalize enc i = u at h
    cases h with
    | lst => rfl
  let cf : Fin xss.length -> Fin xss.length -> Int := fun i j => cmpS (ix xss (i.val : Int)) (ix xss (j.val : Int))
  have hinj : ∀ i j : Fin xss.length, ix xss (i.val : Int) = ix xss (j.val : Int) -> i = j := fun i j e => by
    have e1 := ix_some xss i.isLt
    have e2 := ix_some xss j.isLt
    rw [e, <- e2] at e1
    exact Fin.ext ((List.getElem?_inj i.isLt hnd).1 e1)
  have hswo : SWO (ltOf cf) := by
    refine ⟨fun x => ?_, fun x y z h k => ?_, fun x y z h k => ?_⟩
    · unfold ltOf; exact decide_eq_false (by show ¬ cmpS _ _ < 0; rw [cmpS_self]; omega)
    · unfold ltOf at *
      exact decide_eq_true (cmpS_trans (of_decide_eq_true h) (of_decide_eq_true k))
    · unfold ltOf at *
      have h := of_decide_eq_false h
      have k := of_decide_eq_false k
      refine decide_eq_false (fun hxz => ?_)
      have h1 : leS (ix xss (y.val : Int)) (ix xss (x.val : Int)) = true := by unfold leS; simp only [Bool.not_eq_true', decide_eq_false_iff_not]; exact h
      have h2 : leS (ix xss (z.val : Int)) (ix xss (y.val : Int)) = true := by unfold leS; simp only [Bool.not_eq_true', decide_eq_false_iff_not]; exact k
      have h3 := leS_trans _ _ _ h2 h1
      unfold leS at h3
      simp only [Bool.not_eq_true', decide_eq_false_iff_not] at h3
      exact h3 hxz
  have htot : ∀ x y, (ltOf cf) x y = false -> (ltOf cf) y x = false -> x = y := fun x y h k => by
    unfold ltOf at *
    have h := of_decide_eq_false h
    have k := of_decide_eq_false k
    refine hinj x y (cmpS_zero ?_)
    have h' : ¬ cmpS (ix xss (x.val : Int)) (ix xss (y.val : Int)) < 0 := h
    have k' : ¬ cmpS (ix xss (y.val : Int)) (ix xss (x.val : Int)) < 0 := k
    have := cmpS_anti (ix xss (x.val : Int)) (ix xss (y.val : Int))
    omega
  let d : Array (Fin xss.length) := (List.finRange xss.length).toArray
  have hds : d.size = xss.length := by show (List.finRange xss.length).toArray.size = _; simp
  have hH : Holds enc w B 0 d := fun j hj => by
    have hj' : j < xss.length := by rw [<- hds]; exact hj
    have hdj : d[j]! = ⟨j, hj'⟩ := by
      rw [getElem!_pos d j hj]
      show (List.finRange xss.length).toArray[j] = _
      simp
    refine ⟨?_, OwnCells.frozen ⟨el, hcell⟩ _ _⟩
    rw [hdj, (OwnCells.cellsIn ⟨el, hcell⟩).cell, Nat.zero_add]
    exact (hsee ⟨j, hj'⟩).1
  have hstab : ∀ (mm : Nat) (os : Array Obj) (dk : Array (Fin xss.length)), StoreIn S (sortWorld enc w B 0 mm dk os) := fun mm os dk => by
    refine ⟨hrel.amb, fun b c' hb => ?_⟩
    obtain ⟨el', fr', hb'⟩ := hrel.stab b c' hb
    have hne : B ≠ b := fun e => by rw [e, hb] at hSb; cases hSb
    have hlt : b < w.heap.size := (Array.getElem?_eq_some_iff.1 hb').1
    refine ⟨el', fr', ?_⟩
    show ((Array.modify (Sort.ahead w mm).heap B _) ++ os)[b]? = _
    rw [Array.getElem?_append_left (by rw [Array.size_modify]; exact hlt), Array.getElem?_modify, if_neg hne]
    exact hb'
  have hcmp : CmpLays1 Tryz.prog 84 #[] enc cf B 0 d.size w := by
    intro mm os dk hdk x y
    have hst := hstab mm os dk
    have row : ∀ z : Fin xss.length, ∃ b o cc, enc z = .slice (some ⟨b, o, none⟩) (ix xss (z.val : Int)).length cc /\ ∀ j, j < (ix xss (z.val : Int)).length -> (sortWorld enc w B 0 mm dk os).cell? ⟨b, o + j, none⟩ = some (.int .i64 (ix (ix xss (z.val : Int)) (j : Int))) := fun z => by
      have h := (hsee z).2
      have hpos := (hlen _ (ix_mem xss z.isLt)).1
      generalize ix xss (z.val : Int) = xs at h hpos
      generalize enc z = cv at h
      cases h with
      | lst v es m a cap he hcap b off c vals hrow hm hc hs =>
        simp only [AV.elems, Option.some.injEq, Prod.mk.injEq] at he
        obtain ⟨rfl, rfl⟩ := he
        have hne : xs.map AV.i ≠ [] := fun e => by rw [List.map_eq_nil_iff] at e; rw [e] at hpos; simp at hpos
        obtain ⟨rfl, hSc⟩ := hrow hne
        refine ⟨b, off, cap, by rw [List.length_map], fun j hj => ?_⟩
        have e1 : (xs.map AV.i)[j]? = some (.int .i64 (ix xs (j : Int))) := by rw [List.getElem?_map, ix_some xs hj]; rfl
        have h1 := hc j _ 0 _ e1 rfl
        have h2 := hs j _ 0 _ e1 rfl
        rw [(hst.2 b c hSc).cell]
        rw [Nat.mul_one, Nat.add_zero] at h1
        rw [h1, sees_intv h2]
    obtain ⟨b1, o1, c1, e1, g1⟩ := row x
    obtain ⟨b2, o2, c2, e2, g2⟩ := row y
    show Calls Tryz.prog 84 #[enc x, enc y] _ _
    rw [e1, e2]
    exact cmpSW b1 o1 c1 b2 o2 c2 _ _ _ (hlen _ (ix_mem xss x.isLt)).2 (hlen _ (ix_mem xss y.isLt)).2 g1 g2
  have heg : ∀ args w, (callFunc 84 args).run Tryz.prog w = .ok (.enter 84 args) w := enters_of Tryz.func84 (by kernel_rfl) rfl
  have hfin := Tryz.slices_SortFunc_total enc hone cf hswo 84 #[] B 0 (ρ.cap 0) d w heg hcmp hH hBlt (by rw [hds]; omega) htot
  rw [hds] at hfin
  refine hfin.mono ?_
  rintro e w' ⟨rfl, q, os, rfl⟩
  let L : List (Fin xss.length) := d.toList.mergeSort fun x y => !(ltOf cf) y x
  have hL : L.map (fun i => ix xss (i.val : Int)) = sortS xss := by
    have h := sort_fin xss
    exact h
  have hLl : L.length = xss.length := by show (List.mergeSort _ _).length = _; rw [List.length_mergeSort]; show (List.finRange xss.length).toArray.toList.length = _; simp
  let c1 : Array Value := Sort.putCells enc 0 L.toArray c
  have hc1s : c1.size = c.size := by show (Array.mapIdx _ c).size = _; simp
  have hc1 : ∀ i : Nat, (hi : i < xss.length) -> c1[i]? = some (enc (L[i]'(by omega))) := fun i hi => by
    show (Array.mapIdx _ c)[i]? = _
    rw [Array.getElem?_mapIdx, Array.getElem?_eq_getElem (by omega), Option.map_some]
    rw [if_pos ⟨Nat.zero_le _, by simp [hLl]; omega⟩, Nat.sub_zero, getElem!_pos L.toArray i (by simp [hLl]; omega)]
    simp
  have hw : sortWorld enc w B 0 q L.toArray os = Sort.grow ({ w.setRow B c1 with drawn := w.drawn + q }) os := by
    show Sort.grow (Sort.mapBlock (Sort.ahead w q) B _) os = _
    rw [mapBlock_row (w := Sort.ahead w q) (c := c) (el := el) (fr := (0, 0)) _ hcell]
    rfl
  rw [show (d.toList.mergeSort fun x y => !(ltOf cf) y x).toArray = L.toArray from rfl, hw]
  have hlook2 : Heap.look [(0, Blk.arr (AV.rows (sortS xss)))] 0 = some (.arr (.rows (sortS xss))) := rfl
  have hB' : ρ.blk 0 0 = B := hB
  have hrel2 : Rel own S ρ (Heap.look [(0, Blk.arr (AV.rows (sortS xss)))]) (w.setRow B c1) := by
    rw [<- hB']
    refine hrel.write (k' := .arr (.rows (sortS xss))) hlook hfoot hlook2 (fun r hr => ?_) (.arr _ _ (xss.map .ints) ((sortS xss).map .ints) 1 rfl rfl (by simp [hsl])) c1 ?_
    · unfold Heap.look; rw [if_neg (Ne.symm hr), if_neg (Ne.symm hr)]
    · refine ⟨(sortS xss).map .ints, 1, c1, rfl, fun _ => ⟨el, ?_⟩, by rw [hc1s]; exact hcs, by rw [List.length_map, hsl]; exact hcap, fun x hx => by obtain ⟨y, _, rfl⟩ := List.mem_map.1 hx; rfl, fun i x j y hx hy => ?_⟩
      · rw [hB']; exact setRow_heap w B c c1 el (0, 0) hcell
      · have hi : i < xss.length := by have := (List.getElem?_eq_some_iff.1 hx).1; rw [List.length_map, hsl] at this; exact this
        have e1 : x = .ints (ix xss ((L[i]'(by omega)).val : Int)) := by
          rw [<- hL, List.map_map, List.getElem?_map, List.getElem?_eq_getElem (by omega)] at hx
          exact (Option.some.inj hx).symm
        subst e1
        rcases j with _ | j
        · simp [AV.cells] at hy
          subst hy
          rw [Nat.mul_one, Nat.add_zero]
          exact ⟨_, hc1 i hi, (hsee _).2⟩
        · simp [AV.cells] at hy
  have hmono : ∀ (b : Nat) o, (w.setRow B c1).heap[b]? = some o -> (Sort.grow ({ w.setRow B c1 with drawn := w.drawn + q }) os).heap[b]? = some o := fun b o h => by
    show ((w.setRow B c1).heap ++ os)[b]? = _
    rw [Array.getElem?_append_left (Array.getElem?_eq_some_iff.1 h).1]; exact h
  refine ⟨_, S, ρ, rfl, hrel2.world hmono, fun _ _ h => h, fun b h1 h2 => absurd h1 h2, ?_, .tup _ _ rfl (fun j x v hx _ => by simp at hx), fun r _ _ => ⟨fun _ => rfl, rfl, fun _ => rfl⟩⟩
  refine ((Kept.refl own w).write hownb c1).trans ⟨rfl, rfl, rfl, by show _ <= ((w.setRow B c1).heap ++ os).size; rw [Array.size_append]; omega, fun b hlt _ => ?_, fun _ => ?_⟩
  · show ((w.setRow B c1).heap ++ os)[b]? = _
    rw [Array.getElem?_append_left hlt]
  · show (w.setRow B c1).drawn <= w.drawn + q
    rw [setRow_drawn]; omega
def t_sortC : Table := [(83, mutC 1 g_sortC)]
theorem t_sortC_ok : TabOK Tryz.prog t_sortC := .cons Tryz.func83 (by kernel_rfl) (.mut (by intro args pre _ hp; unfold g_sortC at hp ⊢; split at hp <;> first | exact hp.elim | exact sortC_ok _ hp)) (.nil _)
attribute [go_sem] g_sortC_eq t_sortC
end Go.Proofs.YteefjdbdknkcjaaGreatDoor
namespace Go.Proofs.YteefjdbdknkcjaaGreatDoor
open Go.Vc
set_option maxRecDepth 100000
set_option linter.unusedSimpArgs false
set_option linter.unusedVariables false

def g_setsI : List AV -> Prop × AV
  | [.int .i64 m] => (1 <= m /\ m <= 7, .rows (setsL m.toNat))
  | _ => (False, .undef)
theorem g_setsI_eq (m : Int) : g_setsI [.int .i64 m] = (1 <= m /\ m <= 7, .rows (setsL m.toNat)) := (rfl)
theorem setsI_ok (m : Int) (hp : 1 <= m /\ m <= 7) : SpecOK Tryz.prog 61 [.int .i64 m] (.rows (setsL m.toNat)) [] := by
  refine fun_ok (C := t_listI ++ t_sortC) (hint := hintX [3, 5, 16] [] 0 [83] [] [] []) ((t_listI_ok).append t_sortC_ok) mixed Tryz.func61 rfl (by kernel_rfl) rfl ?_
  show codeA _ _ _ _ _ _ _ _
  simp only [go_sem, Tryz.results61]
  obtain ⟨n, rfl⟩ : ∃ n : Nat, m = n := ⟨m.toNat, by omega⟩
  have hp7 := pow_7 n (by omega)
  simp only [Int.toNat_natCast]
  refine loop_intro (fun c : Nat => [(3, .sl 0), (4, .int .u64 ((c + 1 : Nat) : Int)), (0, .int .i64 n)]) (fun c => [(0, .arr (.rows (allK n c)))]) 1 (fun c => c <= 2 ^ n - 1) (fun c => 2 ^ n - 1 - c) 0 (by omega) (by omega) ?_ ?_
  · simp only [go_sem]
    repeat' (first | refine fork_intro (fun hb => ?_) (fun hb => ?_) | refine partB_intro (fun hb => ?_) (fun hb => ?_) | refine And.intro ?_ ?_)
    all_goals first | exact True.intro | omega | with_reducible rfl | exact congrArg (AV.int _) (by omega) | (first | rfl)
  · intro c hc
    have hcl : (allK n c).length = c := tab_len _ _
    have e := tab_succ c fun c => bagL (c + 1)
    have hw : IntKind.u64.wrap (((c + 1 : Nat) : Int) + 1) = ((c + 1 + 1 : Nat) : Int) := by
      have := wrap_nat (x := c + 1 + 1) (by omega)
      rw [<- this]; congr 1
    simp only [go_sem, v_addu, p_addu]
    rw [hw]
    refine ⟨by omega, fork_intro (fun h1 => ?_) (fun h1 => ?_)⟩
    · have hn2 : c + 1 < 2 ^ n := by have := hp7.2.2; omega
      refine ⟨⟨by omega, by omega⟩, by omega, ?_⟩
      refine LoopEnd.intro (c + 1) (by omega) (by omega) (by omega) ?_
      simp only [go_sem]
      exact congrArg AV.rows e.symm
    · have hce : c = 2 ^ n - 1 := by omega
      subst hce
      have hnd := allL_nodup (n := n) (by omega)
      have hme := fun (x : List Int) hx => (allL_mem (n := n) (by omega) (set := x) hx).2.1
      refine ⟨⟨by rw [hcl]; have := pow_ge2 n (by omega); omega, by omega, hnd, fun x hx => ⟨(allL_mem (n := n) (by omega) (set := x) hx).1, Nat.le_trans (hme x hx) (by omega)⟩⟩, rfl⟩
def t_setsI : Table := [(61, pureC g_setsI)]
theorem t_setsI_ok : TabOK Tryz.prog t_setsI := .cons Tryz.func61 (by kernel_rfl) (.pure (by intro args hp; unfold g_setsI at hp ⊢; split at hp <;> first | exact hp.elim | exact setsI_ok _ hp)) (.nil _)
attribute [go_sem] g_setsI_eq t_setsI
end Go.Proofs.YteefjdbdknkcjaaGreatDoor
namespace Go.Proofs.YteefjdbdknkcjaaGreatDoor
open Go.Vc
set_option maxRecDepth 100000
set_option linter.unusedSimpArgs false
set_option linter.unusedVariables false

def valG (g : Nat) (o : List Int) (d : List (List Int)) (set : List Int) : Int := if g = 38 then total o d set else svc d set
def g_least : List AV -> Prop × AV
  | [.rows xss, .bnd g [.agg [.ints o, .rows d]]] => ((g = 38 \/ g = 46) /\ 0 < xss.length /\ xss.length <= 1048576000 /\ ∀ x ∈ xss, OpenOK o d x, .ints (bestT (valG g o d) xss xss.length))
  | _ => (False, .undef)
theorem g_least_eq (xss : List (List Int)) (g : Nat) (o : List Int) (d : List (List Int)) : g_least [.rows xss, .bnd g [.agg [.ints o, .rows d]]] = ((g = 38 \/ g = 46) /\ 0 < xss.length /\ xss.length <= 1048576000 /\ ∀ x ∈ xss, OpenOK o d x, .ints (bestT (valG g o d) xss xss.length)) := (rfl)
theorem least_ok (xss : List (List Int)) (g : Nat) (o : List Int) (d : List (List Int)) (hp : (g = 38 \/ g = 46) /\ 0 < xss.length /\ xss.length <= 1048576000 /\ ∀ x ∈ xss, OpenOK o d x) : SpecOK Tryz.prog 60 [.rows xss, .bnd g [.agg [.ints o, .rows d]]] (.ints (bestT (valG g o d) xss xss.length)) [] := by
  refine fun_ok (C := t_totalI ++ t_serviceI) (hint := hintX [] [] 0 [] [] [] []) ((t_totalI_ok).append t_serviceI_ok) mixed Tryz.func60 rfl (by kernel_rfl) rfl ?_
  show codeA _ _ _ _ _ _ _ _
  simp only [go_sem, Tryz.results60]
  obtain ⟨hg, h0, h1, ho⟩ := hp
  have hb := fun k hk => ho _ (bestT_mem (valG g o d) h0 k hk)
  have hx := fun k (hk : k < xss.length) => ho _ (ix_mem xss hk)
  have step := fun (k : Nat) => (show bestT (valG g o d) xss (k + 1) = if valG g o d (ix xss (k : Int)) < valG g o d (bestT (valG g o d) xss k) then ix xss (k : Int) else bestT (valG g o d) xss k from rfl)
  have go : ∀ v : List Int -> Int, v = valG g o d -> True := fun _ _ => trivial
  rcases hg with rfl | rfl
  · have ev : ∀ s, valG 38 o d s = total o d s := fun s => rfl
    generalize valG 38 o d = v at *
    refine ⟨by omega, ?_⟩
    refine loop_intro (fun k : Nat => [(5, .ints (bestT v xss k)), (11, .rows xss), (12, .int .i64 xss.length), (13, .int .i64 k), (1, .bnd 38 [.agg [.ints o, .rows d]])]) (fun _ => []) 0 (fun k => k <= xss.length) (fun k => xss.length - k) 0 (by omega) (by omega) ?_ ?_
    · simp only [go_sem]
      repeat' (first | refine fork_intro (fun hb => ?_) (fun hb => ?_) | refine partB_intro (fun hb => ?_) (fun hb => ?_) | refine And.intro ?_ ?_)
      all_goals first | exact True.intro | omega | with_reducible rfl | exact congrArg (AV.int _) (by omega) | (first | rfl)
    · intro k hk
      have e := step k
      rw [ev, ev] at e
      simp only [go_sem]
      refine fork_intro (fun hc => ?_) (fun hc => ?_)
      · refine ⟨⟨by omega, by omega⟩, hx k (by omega), hb k hk, fork_intro (fun h3 => ?_) (fun h3 => ?_)⟩
        · rw [if_pos h3] at e
          repeat' (first | refine fork_intro (fun hb => ?_) (fun hb => ?_) | refine partB_intro (fun hb => ?_) (fun hb => ?_) | refine And.intro ?_ ?_)
          all_goals first | exact True.intro | omega | with_reducible rfl | exact congrArg (AV.int _) (by omega) | (refine LoopEnd.intro (k + 1) (by first | omega) (by first | omega | (dsimp only; omega)) (by omega) ?_; simp only [go_sem]; (repeat' (first | refine fork_intro (fun hb => ?_) (fun hb => ?_) | refine partB_intro (fun hb => ?_) (fun hb => ?_) | refine And.intro ?_ ?_)); all_goals first | exact True.intro | omega | with_reducible rfl | exact congrArg (AV.int _) (by omega) | (first | rw [e])) | (first | rw [e])
        · rw [if_neg h3] at e
          repeat' (first | refine fork_intro (fun hb => ?_) (fun hb => ?_) | refine partB_intro (fun hb => ?_) (fun hb => ?_) | refine And.intro ?_ ?_)
          all_goals first | exact True.intro | omega | with_reducible rfl | exact congrArg (AV.int _) (by omega) | (refine LoopEnd.intro (k + 1) (by first | omega) (by first | omega | (dsimp only; omega)) (by omega) ?_; simp only [go_sem]; (repeat' (first | refine fork_intro (fun hb => ?_) (fun hb => ?_) | refine partB_intro (fun hb => ?_) (fun hb => ?_) | refine And.intro ?_ ?_)); all_goals first | exact True.intro | omega | with_reducible rfl | exact congrArg (AV.int _) (by omega) | (first | rw [e])) | (first | rw [e])
      · rw [show k = xss.length by omega]
  · have ev : ∀ s, valG 46 o d s = svc d s := fun s => rfl
    generalize valG 46 o d = v at *
    refine ⟨by omega, ?_⟩
    refine loop_intro (fun k : Nat => [(5, .ints (bestT v xss k)), (11, .rows xss), (12, .int .i64 xss.length), (13, .int .i64 k), (1, .bnd 46 [.agg [.ints o, .rows d]])]) (fun _ => []) 0 (fun k => k <= xss.length) (fun k => xss.length - k) 0 (by omega) (by omega) ?_ ?_
    · simp only [go_sem]
      repeat' (first | refine fork_intro (fun hb => ?_) (fun hb => ?_) | refine partB_intro (fun hb => ?_) (fun hb => ?_) | refine And.intro ?_ ?_)
      all_goals first | exact True.intro | omega | with_reducible rfl | exact congrArg (AV.int _) (by omega) | (first | rfl)
    · intro k hk
      have e := step k
      rw [ev, ev] at e
      simp only [go_sem]
      refine fork_intro (fun hc => ?_) (fun hc => ?_)
      · refine ⟨⟨by omega, by omega⟩, hx k (by omega), hb k hk, fork_intro (fun h3 => ?_) (fun h3 => ?_)⟩
        · rw [if_pos h3] at e
          repeat' (first | refine fork_intro (fun hb => ?_) (fun hb => ?_) | refine partB_intro (fun hb => ?_) (fun hb => ?_) | refine And.intro ?_ ?_)
          all_goals first | exact True.intro | omega | with_reducible rfl | exact congrArg (AV.int _) (by omega) | (refine LoopEnd.intro (k + 1) (by first | omega) (by first | omega | (dsimp only; omega)) (by omega) ?_; simp only [go_sem]; (repeat' (first | refine fork_intro (fun hb => ?_) (fun hb => ?_) | refine partB_intro (fun hb => ?_) (fun hb => ?_) | refine And.intro ?_ ?_)); all_goals first | exact True.intro | omega | with_reducible rfl | exact congrArg (AV.int _) (by omega) | (first | rw [e])) | (first | rw [e])
        · rw [if_neg h3] at e
          repeat' (first | refine fork_intro (fun hb => ?_) (fun hb => ?_) | refine partB_intro (fun hb => ?_) (fun hb => ?_) | refine And.intro ?_ ?_)
          all_goals first | exact True.intro | omega | with_reducible rfl | exact congrArg (AV.int _) (by omega) | (refine LoopEnd.intro (k + 1) (by first | omega) (by first | omega | (dsimp only; omega)) (by omega) ?_; simp only [go_sem]; (repeat' (first | refine fork_intro (fun hb => ?_) (fun hb => ?_) | refine partB_intro (fun hb => ?_) (fun hb => ?_) | refine And.intro ?_ ?_)); all_goals first | exact True.intro | omega | with_reducible rfl | exact congrArg (AV.int _) (by omega) | (first | rw [e])) | (first | rw [e])
      · rw [show k = xss.length by omega]
def t_least : Table := [(60, pureC g_least)]
theorem t_least_ok : TabOK Tryz.prog t_least := .cons Tryz.func60 (by kernel_rfl) (.pure (by intro args hp; unfold g_least at hp ⊢; split at hp <;> first | exact hp.elim | exact least_ok _ _ _ _ hp)) (.nil _)
attribute [go_sem] g_least_eq t_least
def g_bestSetI : List AV -> Prop × AV
  | [.agg [.ints o, .rows d]] => (o.length <= 1048576000 /\ d.length <= 1048576000 /\ ∀ x ∈ d, x.length <= 1048576000, .tup [.ints (bif good o d then bestL o d else []), .bool (good o d)])
  | _ => (False, .undef)
theorem g_bestSetI_eq (o : List Int) (d : List (List Int)) : g_bestSetI [.agg [.ints o, .rows d]] = (o.length <= 1048576000 /\ d.length <= 1048576000 /\ ∀ x ∈ d, x.length <= 1048576000, .tup [.ints (bif good o d then bestL o d else []), .bool (good o d)]) := (rfl)
theorem bestSetI_ok (o : List Int) (d : List (List Int)) (hp : o.length <= 1048576000 /\ d.length <= 1048576000 /\ ∀ x ∈ d, x.length <= 1048576000) : SpecOK Tryz.prog 37 [.agg [.ints o, .rows d]] (.tup [.ints (bif good o d then bestL o d else []), .bool (good o d)]) [] := by
  refine fun_ok (C := t_isF ++ t_setsI ++ t_least) (hint := hintX [] [] 0 [] [] [] []) (((t_isF_ok).append t_setsI_ok).append t_least_ok) mixed Tryz.func37 rfl (by kernel_rfl) rfl ?_
  show codeA _ _ _ _ _ _ _ _
  simp only [go_sem, Tryz.results37]
  refine ⟨hp, partB_intro (fun hg => ?_) (fun hg => ?_)⟩
  · rw [hg]
    have hf := good_iff.1 hg
    have hn := hf.n7
    have hn1 := hf.n1
    have hl := setsL_len o.length
    have h2 := pow_ge2 o.length hn1
    have h3 := pow_7 o.length hn
    refine ⟨by omega, ⟨.inl trivial, by omega, by omega, fun x hx => setsL_open hf hx⟩, rfl, rfl⟩
  · rw [hg]
    repeat' (first | refine fork_intro (fun hb => ?_) (fun hb => ?_) | refine partB_intro (fun hb => ?_) (fun hb => ?_) | refine And.intro ?_ ?_)
    all_goals first | exact True.intro | omega | with_reducible rfl | exact congrArg (AV.int _) (by omega) | (first | rfl)
def t_bestSetI : Table := [(37, pureC g_bestSetI)]
theorem t_bestSetI_ok : TabOK Tryz.prog t_bestSetI := .cons Tryz.func37 (by kernel_rfl) (.pure (by intro args hp; unfold g_bestSetI at hp ⊢; split at hp <;> first | exact hp.elim | exact bestSetI_ok _ _ hp)) (.nil _)
attribute [go_sem] g_bestSetI_eq t_bestSetI
def g_bestTotalI : List AV -> Prop × AV
  | [.agg [.ints o, .rows d]] => (o.length <= 1048576000 /\ d.length <= 1048576000 /\ ∀ x ∈ d, x.length <= 1048576000, .tup [.int .i64 (bif good o d then total o d (bestL o d) else 0), .bool (good o d)])
  | _ => (False, .undef)
theorem g_bestTotalI_eq (o : List Int) (d : List (List Int)) : g_bestTotalI [.agg [.ints o, .rows d]] = (o.length <= 1048576000 /\ d.length <= 1048576000 /\ ∀ x ∈ d, x.length <= 1048576000, .tup [.int .i64 (bif good o d then total o d (bestL o d) else 0), .bool (good o d)]) := (rfl)
theorem bestTotalI_ok (o : List Int) (d : List (List Int)) (hp : o.length <= 1048576000 /\ d.length <= 1048576000 /\ ∀ x ∈ d, x.length <= 1048576000) : SpecOK Tryz.prog 14 [.agg [.ints o, .rows d]] (.tup [.int .i64 (bif good o d then total o d (bestL o d) else 0), .bool (good o d)]) [] := by
  refine fun_ok (C := t_bestSetI ++ t_totalI) (hint := hintX [] [] 0 [] [] [] []) ((t_bestSetI_ok).append t_totalI_ok) mixed Tryz.func14 rfl (by kernel_rfl) rfl ?_
  show codeA _ _ _ _ _ _ _ _
  simp only [go_sem, Tryz.results14]
  refine ⟨hp, partB_intro (fun hg => ?_) (fun hg => ?_)⟩
  · rw [hg]
    have hf := good_iff.1 hg
    exact ⟨bestL_open hf, rfl, rfl⟩
  · rw [hg]
    repeat' (first | refine fork_intro (fun hb => ?_) (fun hb => ?_) | refine partB_intro (fun hb => ?_) (fun hb => ?_) | refine And.intro ?_ ?_)
    all_goals first | exact True.intro | omega | with_reducible rfl | exact congrArg (AV.int _) (by omega) | (first | rfl)
def t_bestTotalI : Table := [(14, pureC g_bestTotalI)]
theorem t_bestTotalI_ok : TabOK Tryz.prog t_bestTotalI := .cons Tryz.func14 (by kernel_rfl) (.pure (by intro args hp; unfold g_bestTotalI at hp ⊢; split at hp <;> first | exact hp.elim | exact bestTotalI_ok _ _ hp)) (.nil _)
attribute [go_sem] g_bestTotalI_eq t_bestTotalI
end Go.Proofs.YteefjdbdknkcjaaGreatDoor
namespace Go.Proofs.YteefjdbdknkcjaaGreatDoor
open Go.Vc Go.RowKit
set_option maxRecDepth 100000
set_option linter.unusedSimpArgs false
set_option linter.unusedVariables false

def atN (s : ByteArray) : Int := match Lib.atoiAll s.data.toList with
  | .ok n => n
  | .range => Lib.atoiSat s.data.toList
  | _ => 0
def atE (s : ByteArray) : AV := match Lib.atoiAll s.data.toList with
  | .ok _ => .nilI
  | _ => .errI
theorem errs0 {S : Store} {w : World} (hS : StoreIn S w) : ∃ t p, w.var? Tryz.prog "strconv.ErrSyntax" = some #[.iface t p] := by
  obtain ⟨t, a, hx⟩ := hS.1.2.2.1
  obtain ⟨el, fr, he⟩ := hS.2 _ _ hx
  refine ⟨t, .pointer (some a), ?_⟩
  unfold World.var?
  rw [show Tryz.prog.globalNamed "strconv.ErrSyntax" = some 1 by kernel_rfl]
  simp only [Option.bind_some, he]
theorem errs1 {S : Store} {w : World} (hS : StoreIn S w) : ∃ t p, w.var? Tryz.prog "strconv.ErrRange" = some #[.iface t p] := by
  obtain ⟨t, a, hx⟩ := hS.1.2.2.2
  obtain ⟨el, fr, he⟩ := hS.2 _ _ hx
  refine ⟨t, .pointer (some a), ?_⟩
  unfold World.var?
  rw [show Tryz.prog.globalNamed "strconv.ErrRange" = some 2 by kernel_rfl]
  simp only [Option.bind_some, he]
theorem kept_below {w w' : World} (hb : Below w.heap.size w w') : Kept (w.heap.size <= ·) w w' := ⟨hb.os, hb.tape, hb.output, hb.size, fun b hlt _ => hb.block b hlt, fun d => False.elim d⟩
theorem sees_pair {S : Store} {x y : AV} {u v : Value} (h : Sees S x u) (k : Sees S y v) : Sees S (.tup [x, y]) (.tuple #[u, v]) :=
  .tup _ _ rfl (fun j a b hx hv => by
    rcases j with _ | _ | j <;> simp at hx hv
    · subst hx; subst hv; exact h
    · subst hx; subst hv; exact k)
theorem v_subu8 (x y : Int) : arithV .sub (.int .u8 x) (.int .u8 y) = .int .u8 (x - y) := (rfl)
theorem p_subu8 (P : Program) (t : TypeId) (x y : Int) : arithP P t .sub (.int .u8 x) (.int .u8 y) = (0 <= x - y /\ x - y <= 255) := by rw [<- RK_u8]; show (_ /\ _) = _; simp
theorem pow10_le {k : Nat} (h : k <= 5) : (10 : Int) ^ k <= 100000 := by
  rcases k with _ | _ | _ | _ | _ | _ | k <;> first | omega | decide
theorem pow10_le6 {k : Nat} (h : k <= 6) : (10 : Int) ^ k <= 1000000 := by
  rcases k with _ | _ | _ | _ | _ | _ | _ | k <;> first | omega | decide
theorem okN_no {s : ByteArray} (h : ∀ n, -999999 <= n -> n <= 999999 -> numB n = s -> False) : okN s = false := by
  cases e : okN s with
  | false => rfl
  | true =>
    obtain ⟨n, h0, h1, h2, _⟩ := okN_inv e
    exact (h n h0 h1 h2).elim
def g_atoiC : List AV -> Prop × AV
  | [.str s] => (s.size <= 1048576, .tup [.int .i64 (atN s), atE s])
  | _ => (False, .undef)
theorem g_atoiC_eq (s : ByteArray) : g_atoiC [.str s] = (s.size <= 1048576, .tup [.int .i64 (atN s), atE s]) := (rfl)
theorem atoiC_ok (s : ByteArray) (hp : s.size <= 1048576) : SpecOK Tryz.prog 76 [.str s] (.tup [.int .i64 (atN s), atE s]) [] := by
  refine ext_ok (fun S w cargs hS hsz hargs => ?_)
  obtain ⟨v, rfl, h1⟩ := args1 hsz hargs
  obtain rfl := sees_strv h1
  unfold atN atE
  cases h : Lib.atoiAll s.data.toList
  · rename_i n
    refine (Tryz.strconv_Atoi_ok s (by omega) n h w).mono ?_
    rintro e w' ⟨rfl, hw⟩
    refine ⟨_, rfl, ?_, sees_pair (.int _ _) .nilI⟩
    rcases hw with rfl | ⟨t, rfl⟩
    · exact .refl _ _
    · unfold Lib.bytesWorld
      refine ⟨rfl, rfl, rfl, ?_, fun b hlt _ => ?_, fun d => False.elim d⟩
      · unfold World.freeze; simp
      · unfold World.freeze
        show (Array.modify _ _ _)[b]? = _
        rw [Array.getElem?_modify, if_neg (by show w.heap.size ≠ b; omega)]
        exact Below.heap_alloc _ _ _ hlt
  · obtain ⟨t, p, hv⟩ := errs0 hS
    refine (Tryz.strconv_Atoi_syntax_var s (by omega) h t p w hv).mono ?_
    rintro e w' ⟨N, rfl, _, _, hb⟩
    exact ⟨_, rfl, kept_below hb, sees_pair (.int _ _) (.errI _ _)⟩
  · obtain ⟨t, p, hv⟩ := errs1 hS
    refine (Tryz.strconv_Atoi_range_var s (by omega) h t p w hv).mono ?_
    rintro e w' ⟨N, rfl, _, _, hb⟩
    exact ⟨_, rfl, kept_below hb, sees_pair (.int _ _) (.errI _ _)⟩
def t_atoiC : Table := [(76, pureC g_atoiC)]
theorem t_atoiC_ok : TabOK Tryz.prog t_atoiC := .cons Tryz.func76 (by kernel_rfl) (.pure (by intro args hp; unfold g_atoiC at hp ⊢; split at hp <;> first | exact hp.elim | exact atoiC_ok _ hp)) (.nil _)
attribute [go_sem] g_atoiC_eq t_atoiC
def g_readS : List AV -> Prop × AV
  | [.str s] => (s.size <= 1048576, .tup [.int .i64 (bif okN s then valN s else 0), .bool (okN s)])
  | _ => (False, .undef)
theorem g_readS_eq (s : ByteArray) : g_readS [.str s] = (s.size <= 1048576, .tup [.int .i64 (bif okN s then valN s else 0), .bool (okN s)]) := (rfl)
theorem readS_ok (s : ByteArray) (hp : s.size <= 1048576) : SpecOK Tryz.prog 78 [.str s] (.tup [.int .i64 (bif okN s then valN s else 0), .bool (okN s)]) [] := by
  refine fun_ok (C := t_l1In ++ t_numS) (hint := hintX [] [] 0 [] [] [] []) ((t_l1In_ok).append t_numS_ok) mixed Tryz.func78 rfl (by kernel_rfl) rfl ?_
  show codeA _ _ _ _ _ _ _ _
  simp only [go_sem, Tryz.results78]
  refine fork_intro (fun hs1 => ?_) (fun hs1 => ?_)
  · refine ⟨by omega, fork_intro (fun hs2 => ?_) (fun hs2 => ?_)⟩
    · have ea : absB s = s.extract (Int.toNat 1) s.size := if_pos ⟨by omega, UInt8.toNat_inj.1 (by rw [show (45 : UInt8).toNat = 45 from rfl]; omega)⟩
      refine ⟨by omega, ?_⟩
      refine fork_intro (fun h6 => ?_) (fun h6 => ?_)
      · refine loop_intro (fun k : Nat => [(4, .str (s.extract (Int.toNat 1) s.size)), (5, .int .i64 (foldD (s.extract (Int.toNat 1) s.size) k)), (6, .int .i64 k), (0, .str s)]) (fun _ => []) 0 (fun k => k <= ((s.extract (Int.toNat 1) s.size)).size /\ ∀ j : Nat, j < k -> 48 <= (byteAt (s.extract (Int.toNat 1) s.size) (j : Int)).toNat /\ (byteAt (s.extract (Int.toNat 1) s.size) (j : Int)).toNat <= 57) (fun k => ((s.extract (Int.toNat 1) s.size)).size - k) 0 ⟨Nat.zero_le _, fun j hj => absurd hj (Nat.not_lt_zero _)⟩ (Nat.zero_le _) ?_ ?_
        · simp only [go_sem]
          repeat' (first | refine fork_intro (fun hb => ?_) (fun hb => ?_) | refine partB_intro (fun hb => ?_) (fun hb => ?_) | refine And.intro ?_ ?_)
          all_goals first | exact True.intro | omega | with_reducible rfl | exact congrArg (AV.int _) (by omega) | (first | rfl)
        · rintro k ⟨hk, hd⟩
          have hfb := foldD_bd k hd
          simp only [go_sem, beqL, v_subu8, p_subu8]
          refine fork_intro (fun hc => ?_) (fun hc => ?_)
          · have hbt := (byteAt (s.extract (Int.toNat 1) s.size) (k : Int)).toNat_lt
            have hp10 : (10 : Int) ^ k <= 100000 := pow10_le (by omega)
            have hno : ¬ (48 <= (byteAt (s.extract (Int.toNat 1) s.size) (k : Int)).toNat /\ (byteAt (s.extract (Int.toNat 1) s.size) (k : Int)).toNat <= 57) -> okN s = false := fun hb => okN_no (fun n h0 h1 e => by
              obtain ⟨_, _, g3, _, _⟩ := num_abs h0 h1 e
              rw [ea] at g3
              exact hb (g3 k (by omega)))
            refine ⟨by omega, fork_intro (fun h1 => ?_) (fun h1 => ?_)⟩
            · rw [hno (by omega)]; exact ⟨rfl, rfl⟩
            · refine ⟨by omega, fork_intro (fun h2 => ?_) (fun h2 => ?_)⟩
              · rw [hno (by omega)]; exact ⟨rfl, rfl⟩
              · have hd' : ∀ j : Nat, j < k + 1 -> 48 <= (byteAt (s.extract (Int.toNat 1) s.size) (j : Int)).toNat /\ (byteAt (s.extract (Int.toNat 1) s.size) (j : Int)).toNat <= 57 := fun j hj => by
                  by_cases ej : j = k
                  · rw [ej]; omega
                  · exact hd j (by omega)
                have ef : foldD (s.extract (Int.toNat 1) s.size) (k + 1) = 10 * foldD (s.extract (Int.toNat 1) s.size) k + ((byteAt (s.extract (Int.toNat 1) s.size) (k : Int)).toNat - 48) := rfl
                repeat' (first | refine fork_intro (fun hb => ?_) (fun hb => ?_) | refine partB_intro (fun hb => ?_) (fun hb => ?_) | refine And.intro ?_ ?_)
                all_goals first | exact True.intro | omega | with_reducible rfl | exact congrArg (AV.int _) (by omega) | (refine LoopEnd.intro (k + 1) (by first | omega | (first | exact ⟨by omega, hd'⟩)) (by first | omega | (dsimp only; omega)) (by omega) ?_; simp only [go_sem]; (repeat' (first | refine fork_intro (fun hb => ?_) (fun hb => ?_) | refine partB_intro (fun hb => ?_) (fun hb => ?_) | refine And.intro ?_ ?_)); all_goals first | exact True.intro | omega | with_reducible rfl | exact congrArg (AV.int _) (by omega) | (first | rfl | rw [ef])) | (first | rfl | rw [ef])
          · have hks : k = ((s.extract (Int.toNat 1) s.size)).size := by omega
            subst hks
            have hp10 : (10 : Int) ^ ((s.extract (Int.toNat 1) s.size)).size <= 1000000 := pow10_le6 (by omega)
            refine fork_intro (fun h1 => ?_) (fun h1 => ?_)
            · have hyes : ∀ n, -999999 <= n -> n <= 999999 -> numB n = s -> n = - foldD (s.extract (Int.toNat 1) s.size) ((s.extract (Int.toNat 1) s.size)).size := fun n h0 h1' e => by
                obtain ⟨_, _, _, g4, g5⟩ := num_abs h0 h1' e
                rw [ea] at g4 g5
                have := g5.1 (by omega)
                omega
              refine ⟨by omega, by omega, fork_intro (fun h2 => ?_) (fun h2 => ?_)⟩
              · obtain ⟨q1, q2⟩ := okN_of (s := s) (n := - foldD (s.extract (Int.toNat 1) s.size) ((s.extract (Int.toNat 1) s.size)).size) (by omega) (by omega) (by rw [<- Int.zero_sub]; exact h2)
                rw [q1, q2]
                exact ⟨congrArg (AV.int _) (by rw [cond_true]; omega), rfl⟩
              · rw [okN_no (fun n h0 h1' e => h2 (by rw [Int.zero_sub, <- hyes n h0 h1' e]; exact e))]
                exact ⟨rfl, rfl⟩
            · have hyes : ∀ n, -999999 <= n -> n <= 999999 -> numB n = s -> n = foldD (s.extract (Int.toNat 1) s.size) ((s.extract (Int.toNat 1) s.size)).size := fun n h0 h1' e => by
                obtain ⟨_, _, _, g4, g5⟩ := num_abs h0 h1' e
                rw [ea] at g4 g5
                have : ¬ n < 0 := fun hn => h1 (by have := g5.2 hn; omega)
                omega
              refine ⟨by omega, fork_intro (fun h2 => ?_) (fun h2 => ?_)⟩
              · obtain ⟨q1, q2⟩ := okN_of (s := s) (n := foldD (s.extract (Int.toNat 1) s.size) ((s.extract (Int.toNat 1) s.size)).size) (by omega) (by omega) h2
                rw [q1, q2]
                exact ⟨rfl, rfl⟩
              · rw [okN_no (fun n h0 h1' e => h2 (by rw [<- hyes n h0 h1' e]; exact e))]
                exact ⟨rfl, rfl⟩
      · rw [okN_no (fun n h0 h1 e => by
          obtain ⟨g1, g2, _, _, _⟩ := num_abs h0 h1 e
          rw [ea] at g1 g2
          exact h6 ⟨by omega, by omega⟩)]
        exact ⟨rfl, rfl⟩
    · have ea : absB s = s := if_neg (fun h => hs2 (by rw [h.2]; rfl))
      refine fork_intro (fun h6 => ?_) (fun h6 => ?_)
      · refine loop_intro (fun k : Nat => [(4, .str s), (5, .int .i64 (foldD s k)), (6, .int .i64 k), (0, .str s)]) (fun _ => []) 0 (fun k => k <= (s).size /\ ∀ j : Nat, j < k -> 48 <= (byteAt s (j : Int)).toNat /\ (byteAt s (j : Int)).toNat <= 57) (fun k => (s).size - k) 0 ⟨Nat.zero_le _, fun j hj => absurd hj (Nat.not_lt_zero _)⟩ (Nat.zero_le _) ?_ ?_
        · simp only [go_sem]
          repeat' (first | refine fork_intro (fun hb => ?_) (fun hb => ?_) | refine partB_intro (fun hb => ?_) (fun hb => ?_) | refine And.intro ?_ ?_)
          all_goals first | exact True.intro | omega | with_reducible rfl | exact congrArg (AV.int _) (by omega) | (first | rfl)
        · rintro k ⟨hk, hd⟩
          have hfb := foldD_bd k hd
          simp only [go_sem, beqL, v_subu8, p_subu8]
          refine fork_intro (fun hc => ?_) (fun hc => ?_)
          · have hbt := (byteAt s (k : Int)).toNat_lt
            have hp10 : (10 : Int) ^ k <= 100000 := pow10_le (by omega)
            have hno : ¬ (48 <= (byteAt s (k : Int)).toNat /\ (byteAt s (k : Int)).toNat <= 57) -> okN s = false := fun hb => okN_no (fun n h0 h1 e => by
              obtain ⟨_, _, g3, _, _⟩ := num_abs h0 h1 e
              rw [ea] at g3
              exact hb (g3 k (by omega)))
            refine ⟨by omega, fork_intro (fun h1 => ?_) (fun h1 => ?_)⟩
            · rw [hno (by omega)]; exact ⟨rfl, rfl⟩
            · refine ⟨by omega, fork_intro (fun h2 => ?_) (fun h2 => ?_)⟩
              · rw [hno (by omega)]; exact ⟨rfl, rfl⟩
              · have hd' : ∀ j : Nat, j < k + 1 -> 48 <= (byteAt s (j : Int)).toNat /\ (byteAt s (j : Int)).toNat <= 57 := fun j hj => by
                  by_cases ej : j = k
                  · rw [ej]; omega
                  · exact hd j (by omega)
                have ef : foldD s (k + 1) = 10 * foldD s k + ((byteAt s (k : Int)).toNat - 48) := rfl
                repeat' (first | refine fork_intro (fun hb => ?_) (fun hb => ?_) | refine partB_intro (fun hb => ?_) (fun hb => ?_) | refine And.intro ?_ ?_)
                all_goals first | exact True.intro | omega | with_reducible rfl | exact congrArg (AV.int _) (by omega) | (refine LoopEnd.intro (k + 1) (by first | omega | (first | exact ⟨by omega, hd'⟩)) (by first | omega | (dsimp only; omega)) (by omega) ?_; simp only [go_sem]; (repeat' (first | refine fork_intro (fun hb => ?_) (fun hb => ?_) | refine partB_intro (fun hb => ?_) (fun hb => ?_) | refine And.intro ?_ ?_)); all_goals first | exact True.intro | omega | with_reducible rfl | exact congrArg (AV.int _) (by omega) | (first | rfl | rw [ef])) | (first | rfl | rw [ef])
          · have hks : k = (s).size := by omega
            subst hks
            have hp10 : (10 : Int) ^ (s).size <= 1000000 := pow10_le6 (by omega)
            refine fork_intro (fun h1 => ?_) (fun h1 => ?_)
            · have hyes : ∀ n, -999999 <= n -> n <= 999999 -> numB n = s -> n = - foldD s (s).size := fun n h0 h1' e => by
                obtain ⟨_, _, _, g4, g5⟩ := num_abs h0 h1' e
                rw [ea] at g4 g5
                have := g5.1 (by omega)
                omega
              refine ⟨by omega, by omega, fork_intro (fun h2 => ?_) (fun h2 => ?_)⟩
              · obtain ⟨q1, q2⟩ := okN_of (s := s) (n := - foldD s (s).size) (by omega) (by omega) (by rw [<- Int.zero_sub]; exact h2)
                rw [q1, q2]
                exact ⟨congrArg (AV.int _) (by rw [cond_true]; omega), rfl⟩
              · rw [okN_no (fun n h0 h1' e => h2 (by rw [Int.zero_sub, <- hyes n h0 h1' e]; exact e))]
                exact ⟨rfl, rfl⟩
            · have hyes : ∀ n, -999999 <= n -> n <= 999999 -> numB n = s -> n = foldD s (s).size := fun n h0 h1' e => by
                obtain ⟨_, _, _, g4, g5⟩ := num_abs h0 h1' e
                rw [ea] at g4 g5
                have : ¬ n < 0 := fun hn => h1 (by have := g5.2 hn; omega)
                omega
              refine ⟨by omega, fork_intro (fun h2 => ?_) (fun h2 => ?_)⟩
              · obtain ⟨q1, q2⟩ := okN_of (s := s) (n := foldD s (s).size) (by omega) (by omega) h2
                rw [q1, q2]
                exact ⟨rfl, rfl⟩
              · rw [okN_no (fun n h0 h1' e => h2 (by rw [<- hyes n h0 h1' e]; exact e))]
                exact ⟨rfl, rfl⟩
      · rw [okN_no (fun n h0 h1 e => by
          obtain ⟨g1, g2, _, _, _⟩ := num_abs h0 h1 e
          rw [ea] at g1 g2
          exact h6 ⟨by omega, by omega⟩)]
        exact ⟨rfl, rfl⟩
  · have ea : absB s = s := if_neg (fun h => hs1 (by omega))
    refine fork_intro (fun h6 => ?_) (fun h6 => ?_)
    · refine loop_intro (fun k : Nat => [(4, .str s), (5, .int .i64 (foldD s k)), (6, .int .i64 k), (0, .str s)]) (fun _ => []) 0 (fun k => k <= (s).size /\ ∀ j : Nat, j < k -> 48 <= (byteAt s (j : Int)).toNat /\ (byteAt s (j : Int)).toNat <= 57) (fun k => (s).size - k) 0 ⟨Nat.zero_le _, fun j hj => absurd hj (Nat.not_lt_zero _)⟩ (Nat.zero_le _) ?_ ?_
      · simp only [go_sem]
        repeat' (first | refine fork_intro (fun hb => ?_) (fun hb => ?_) | refine partB_intro (fun hb => ?_) (fun hb => ?_) | refine And.intro ?_ ?_)
        all_goals first | exact True.intro | omega | with_reducible rfl | exact congrArg (AV.int _) (by omega) | (first | rfl)
      · rintro k ⟨hk, hd⟩
        have hfb := foldD_bd k hd
        simp only [go_sem, beqL, v_subu8, p_subu8]
        refine fork_intro (fun hc => ?_) (fun hc => ?_)
        · have hbt := (byteAt s (k : Int)).toNat_lt
          have hp10 : (10 : Int) ^ k <= 100000 := pow10_le (by omega)
          have hno : ¬ (48 <= (byteAt s (k : Int)).toNat /\ (byteAt s (k : Int)).toNat <= 57) -> okN s = false := fun hb => okN_no (fun n h0 h1 e => by
            obtain ⟨_, _, g3, _, _⟩ := num_abs h0 h1 e
            rw [ea] at g3
            exact hb (g3 k (by omega)))
          refine ⟨by omega, fork_intro (fun h1 => ?_) (fun h1 => ?_)⟩
          · rw [hno (by omega)]; exact ⟨rfl, rfl⟩
          · refine ⟨by omega, fork_intro (fun h2 => ?_) (fun h2 => ?_)⟩
            · rw [hno (by omega)]; exact ⟨rfl, rfl⟩
            · have hd' : ∀ j : Nat, j < k + 1 -> 48 <= (byteAt s (j : Int)).toNat /\ (byteAt s (j : Int)).toNat <= 57 := fun j hj => by
                by_cases ej : j = k
                · rw [ej]; omega
                · exact hd j (by omega)
              have ef : foldD s (k + 1) = 10 * foldD s k + ((byteAt s (k : Int)).toNat - 48) := rfl
              repeat' (first | refine fork_intro (fun hb => ?_) (fun hb => ?_) | refine partB_intro (fun hb => ?_) (fun hb => ?_) | refine And.intro ?_ ?_)
              all_goals first | exact True.intro | omega | with_reducible rfl | exact congrArg (AV.int _) (by omega) | (refine LoopEnd.intro (k + 1) (by first | omega | (first | exact ⟨by omega, hd'⟩)) (by first | omega | (dsimp only; omega)) (by omega) ?_; simp only [go_sem]; (repeat' (first | refine fork_intro (fun hb => ?_) (fun hb => ?_) | refine partB_intro (fun hb => ?_) (fun hb => ?_) | refine And.intro ?_ ?_)); all_goals first | exact True.intro | omega | with_reducible rfl | exact congrArg (AV.int _) (by omega) | (first | rfl | rw [ef])) | (first | rfl | rw [ef])
        · have hks : k = (s).size := by omega
          subst hks
          have hp10 : (10 : Int) ^ (s).size <= 1000000 := pow10_le6 (by omega)
          refine fork_intro (fun h1 => ?_) (fun h1 => ?_)
          · have hyes : ∀ n, -999999 <= n -> n <= 999999 -> numB n = s -> n = - foldD s (s).size := fun n h0 h1' e => by
              obtain ⟨_, _, _, g4, g5⟩ := num_abs h0 h1' e
              rw [ea] at g4 g5
              have := g5.1 (by omega)
              omega
            refine ⟨by omega, by omega, fork_intro (fun h2 => ?_) (fun h2 => ?_)⟩
            · obtain ⟨q1, q2⟩ := okN_of (s := s) (n := - foldD s (s).size) (by omega) (by omega) (by rw [<- Int.zero_sub]; exact h2)
              rw [q1, q2]
              exact ⟨congrArg (AV.int _) (by rw [cond_true]; omega), rfl⟩
            · rw [okN_no (fun n h0 h1' e => h2 (by rw [Int.zero_sub, <- hyes n h0 h1' e]; exact e))]
              exact ⟨rfl, rfl⟩
          · have hyes : ∀ n, -999999 <= n -> n <= 999999 -> numB n = s -> n = foldD s (s).size := fun n h0 h1' e => by
              obtain ⟨_, _, _, g4, g5⟩ := num_abs h0 h1' e
              rw [ea] at g4 g5
              have : ¬ n < 0 := fun hn => h1 (by have := g5.2 hn; omega)
              omega
            refine ⟨by omega, fork_intro (fun h2 => ?_) (fun h2 => ?_)⟩
            · obtain ⟨q1, q2⟩ := okN_of (s := s) (n := foldD s (s).size) (by omega) (by omega) h2
              rw [q1, q2]
              exact ⟨rfl, rfl⟩
            · rw [okN_no (fun n h0 h1' e => h2 (by rw [<- hyes n h0 h1' e]; exact e))]
              exact ⟨rfl, rfl⟩
    · rw [okN_no (fun n h0 h1 e => by
        obtain ⟨g1, g2, _, _, _⟩ := num_abs h0 h1 e
        rw [ea] at g1 g2
        exact h6 ⟨by omega, by omega⟩)]
      exact ⟨rfl, rfl⟩
def t_readS : Table := [(78, pureC g_readS)]
theorem t_readS_ok : TabOK Tryz.prog t_readS := .cons Tryz.func78 (by kernel_rfl) (.pure (by intro args hp; unfold g_readS at hp ⊢; split at hp <;> first | exact hp.elim | exact readS_ok _ hp)) (.nil _)
attribute [go_sem] g_readS_eq t_readS
end Go.Proofs.YteefjdbdknkcjaaGreatDoor
namespace Go.Proofs.YteefjdbdknkcjaaGreatDoor
open Go.Vc
set_option maxRecDepth 100000
set_option maxHeartbeats 1600000
set_option linter.unusedSimpArgs false
set_option linter.unusedVariables false
def mkB (n : Int) : ByteArray := ⟨#[UInt8.ofNat n.toNat]⟩
def markD : Nat -> Nat -> ByteArray -> ByteArray
  | 0, _, out => out
  | f + 1, k, out => if k = 0 then out else markD f (k / 10) (mkB (48 + (k : Int) % 10) ++ out)
def markT (k : Int) : ByteArray := if k <= 0 then ⟨#[109, 48]⟩ else ⟨#[109]⟩ ++ markD k.toNat k.toNat ⟨#[]⟩
def heldT (xs : List ByteArray) (k : Int) : Int := if (List.range xs.length).all (fun i : Nat => decide (ix xs (i : Int) = markT (k + i))) = true then k + xs.length else -1
end Go.Proofs.YteefjdbdknkcjaaGreatDoor
namespace Go.Proofs.YteefjdbdknkcjaaGreatDoor
open Go.Vc
set_option maxRecDepth 100000
set_option linter.unusedSimpArgs false
set_option linter.unusedVariables false
def oneB (c : UInt8) : ByteArray := ⟨#[c]⟩
theorem indexB_hit {s : ByteArray} {c : UInt8} {k : Nat} (hk : k < s.size) (h : byteAt s (k : Int) = c) (hb : ∀ j : Nat, j < k -> byteAt s (j : Int) ≠ c) : Lib.indexB s (oneB c) = k := by
  show Lib.index s.data.toList [c] = _
  rw [Lib.index_one]
  have h1 := hasB_yes hk h
  unfold hasB at h1
  have h1 := of_decide_eq_true h1
  obtain ⟨o, ho⟩ : ∃ o : Nat, Lib.indexByte s.data.toList c = o := ⟨(Lib.indexByte s.data.toList c).toNat, by omega⟩
  obtain ⟨h2, h3⟩ := Lib.indexByte_some ho
  have hlt : o < s.data.toList.length := (List.getElem?_eq_some_iff.1 h2).1
  have hlt' : o < s.size := by simpa using hlt
  rw [byteAt_some s hlt'] at h2
  have h2 := Option.some.inj h2
  have eo : o = k := by
    rcases Nat.lt_trichotomy o k with g | g | g
    · exact (hb o g h2).elim
    · exact g
    · exact (h3 k g (by rw [byteAt_some s hk, h])).elim
  rw [ho, eo]
theorem indexB_miss {s : ByteArray} {c : UInt8} (hb : ∀ j : Nat, j < s.size -> byteAt s (j : Int) ≠ c) : Lib.indexB s (oneB c) = -1 := by
  show Lib.index s.data.toList [c] = _
  rw [Lib.index_one]
  have h := hasB_no hb
  unfold hasB at h
  have h := of_decide_eq_false h
  have g := Lib.indexByte_ge s.data.toList c
  omega
theorem byteAt_cut (s : ByteArray) {a b k : Nat} (hb : b <= s.size) (h : a + k < b) : byteAt (s.extract a b) (k : Int) = byteAt s ((a + k : Nat) : Int) := by
  have hz : k < (s.extract a b).size := by rw [ByteArray.size_extract]; omega
  have e1 := byteAt_some (s.extract a b) hz
  have e2 := byteAt_some s (show a + k < s.size by omega)
  have e3 : (s.extract a b).data.toList[k]? = s.data.toList[a + k]? := by
    rw [ByteArray.data_extract, Array.toList_extract, List.extract_eq_take_drop, List.getElem?_take, List.getElem?_drop, if_pos (by omega)]
  rw [e1, e2] at e3
  exact Option.some.inj e3
theorem cut_cut (s : ByteArray) {a b k l : Nat} (hl : a + l <= b) (hb : b <= s.size) : (s.extract a b).extract k l = s.extract (a + k) (a + l) := by
  apply ByteArray.ext
  rw [ByteArray.data_extract, ByteArray.data_extract, ByteArray.data_extract, Array.extract_extract, Nat.min_eq_left hl]
def splB (s : ByteArray) (c : UInt8) : List ByteArray := Lib.splitB (oneB c) 0 (Lib.countB s (oneB c)) s
theorem splB_hit {s : ByteArray} {c : UInt8} {k : Nat} (hk : k < s.size) (h : byteAt s (k : Int) = c) (hb : ∀ j : Nat, j < k -> byteAt s (j : Int) ≠ c) : splB s c = s.extract 0 k :: splB (s.extract (k + 1) s.size) c := by
  have e := indexB_hit hk h hb
  have h1 : 1 <= (oneB c).size := Nat.le_refl _
  unfold splB
  rw [Lib.countB_hit s (oneB c) k h1 e, Nat.add_comm 1, Lib.splitB_hit _ _ _ _ _ e]
  rfl
theorem splB_miss {s : ByteArray} {c : UInt8} (hb : ∀ j : Nat, j < s.size -> byteAt s (j : Int) ≠ c) : splB s c = [s] := Lib.splitB_miss _ _ _ _ (indexB_miss hb)
theorem splP_splB (s : ByteArray) (c : UInt8) : ∀ i, i <= s.size -> (∀ j : Nat, (splP s c i).2 <= j -> j < i -> byteAt s (j : Int) ≠ c) /\ (splP s c i).1 ++ splB (s.extract (splP s c i).2 s.size) c = splB s c
  | 0, _ => ⟨fun j _ h => absurd h (Nat.not_lt_zero _), by show [] ++ splB (s.extract 0 s.size) c = _; rw [extract_all]; rfl⟩
  | i + 1, hi => by
    obtain ⟨h1, h2⟩ := splP_splB s c i (by omega)
    have hle := splP_le s c i
    unfold splP
    split
    · rename_i e
      refine ⟨fun j h h' => absurd h' (by have h : i + 1 <= j := h; omega), ?_⟩
      show ((splP s c i).1 ++ [s.extract (splP s c i).2 i]) ++ splB (s.extract (i + 1) s.size) c = _
      rw [List.append_assoc, <- h2]
      congr 1
      generalize (splP s c i).2 = a at *
      have hz : (s.extract a s.size).size = s.size - a := by rw [ByteArray.size_extract, Nat.min_self]
      rw [splB_hit (s := s.extract a s.size) (k := i - a) (by omega) (by rw [byteAt_cut s (Nat.le_refl _) (by omega), show a + (i - a) = i by omega]; exact e) (fun j hj => by
        rw [byteAt_cut s (Nat.le_refl _) (by omega)]; exact h1 _ (by omega) (by omega))]
      rw [hz, cut_cut s (by omega) (Nat.le_refl _), cut_cut s (by omega) (Nat.le_refl _), show a + (i - a) = i by omega, show a + (i - a + 1) = i + 1 by omega, show a + (s.size - a) = s.size by omega]
      rfl
    · rename_i e
      refine ⟨fun j h h' => ?_, h2⟩
      by_cases ej : j = i
      · rw [ej]; exact e
      · exact h1 j h (by omega)
theorem splB_splL (s : ByteArray) (c : UInt8) : splB s c = splL s c := by
  obtain ⟨h1, h2⟩ := splP_splB s c s.size (Nat.le_refl _)
  have hle := splP_le s c s.size
  unfold splL
  rw [<- h2]
  congr 1
  generalize (splP s c s.size).2 = a at *
  have hz : (s.extract a s.size).size = s.size - a := by rw [ByteArray.size_extract, Nat.min_self]
  exact splB_miss (fun j hj => by rw [byteAt_cut s (Nat.le_refl _) (by omega)]; exact h1 _ (by omega) (by omega))
end Go.Proofs.YteefjdbdknkcjaaGreatDoor
namespace Go.Proofs.YteefjdbdknkcjaaGreatDoor
open Go.Vc Go.RowKit
set_option maxRecDepth 100000
set_option maxHeartbeats 1600000
set_option linter.unusedSimpArgs false
set_option linter.unusedVariables false
theorem new_strs {S : Store} {w : World} (hS : StoreIn S w) (ts : List ByteArray) (n : Nat) (hn : ts.length = n) (hn0 : 0 < n) (t : TypeId) :
    ∃ cv S' ρ', Ending.returned (.slice (some ⟨w.heap.size, 0, none⟩) n n) = .returned cv /\ Rel (w.heap.size <= ·) S' ρ' (Heap.look [(0, .arr (.strs ts))]) (w.alloc (.cells (ts.map Value.string).toArray t)) /\ S.le S' /\
      (∀ b, S b = none -> S' b ≠ none -> w.heap.size <= b) /\ Kept (w.heap.size <= ·) w (w.alloc (.cells (ts.map Value.string).toArray t)) /\ V S' ρ' (Heap.look [(0, .arr (.strs ts))]) (.sl 0) cv := by
  subst hn
  have h0 : Rel (w.heap.size <= ·) S ⟨fun _ _ => 0, fun _ => 0, fun _ _ => 0⟩ (fun _ => none) w := ⟨hS.2, hS.1, fun r k hr => (by cases hr), fun r j hf => hf.elim, fun r j r' j' hf => hf.elim⟩
  have hH : addH [(0, Blk.arr (.strs ts))] (fun _ => none) = Heap.look [(0, .arr (.strs ts))] := by
    funext r
    unfold addH
    cases Heap.look [(0, Blk.arr (.strs ts))] r <;> rfl
  have hget : ∀ (i : Nat) (x : AV) (j : Nat) (y : AV), (ts.map AV.str)[i]? = some x -> x.cells[j]? = some y -> ∃ cv, (ts.map Value.string).toArray[i * 1 + j]? = some cv /\ Sees S y cv := fun i x j y hx hy => by
    rw [List.getElem?_map] at hx
    cases ht : ts[i]? with
    | none => rw [ht] at hx; cases hx
    | some s =>
      rw [ht] at hx
      cases hx
      rcases j with _ | j
      · cases hy
        exact ⟨.string s, by rw [Nat.mul_one, Nat.add_zero, List.getElem?_toArray, List.getElem?_map, ht]; rfl, .str s⟩
      · cases hy
  have hg := grow_own h0 (fun b hb => hb) (r := 0) rfl (ts.map Value.string).toArray t (.arr (.strs ts)) ts.length
    ⟨ts.map AV.str, 1, _, rfl, fun _ => (by first | exact ⟨t, by simp [Rho.set]⟩ | exact .mk0 (el := t) (by simp [Rho.set])), by simp [Rho.set], by simp [Rho.set], fun x hx => by
      obtain ⟨s, _, rfl⟩ := List.mem_map.1 hx
      rfl, hget⟩
    (fun j hf => by unfold foot at hf; rw [addH_self] at hf; exact hf.1)
  rw [hH] at hg
  refine ⟨_, S, _, rfl, hg.rel, hg.store, hg.fresh, hg.kept, ?_⟩
  have := V.sl (S := S) (ρ := Rho.set ⟨fun _ _ => 0, fun _ => 0, fun _ _ => 0⟩ 0 w.heap.size ts.length) (H := Heap.look [(0, .arr (.strs ts))]) 0 (.strs ts) (ts.map AV.str) 1 (some ⟨w.heap.size, 0, none⟩) rfl rfl (fun _ => by simp [Rho.set])
  simpa [Rho.set] using this
def upT (k : Int) (n : Nat) : List ByteArray := (List.range n).map fun i : Nat => markT (k + i)
def splOk (s t : ByteArray) : Bool := decide (t.size = 1 /\ s.size <= 4000)
def splR (s t : ByteArray) : List ByteArray := bif splOk s t then splL s (byteAt t 0) else []
end Go.Proofs.YteefjdbdknkcjaaGreatDoor
namespace Go.Proofs.YteefjdbdknkcjaaGreatDoor
open Go.Vc
set_option maxRecDepth 100000
set_option linter.unusedSimpArgs false
set_option linter.unusedVariables false
end Go.Proofs.YteefjdbdknkcjaaGreatDoor
