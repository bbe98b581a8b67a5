/- slices.Repeat of one -1, at most seven times: the walk, and in the words of the abstract run. -/
import Derived.Test.YtibomnplkclkmaaTy
import Derived.Test.YtibomnplkclkmaaPlP
import Derived.WalkKit
import Derived.Laws.CopyOwn
import Derived.Deep.OwnRows
import Derived.Deep.LoopGhost
import Derived.Shelf.Abstract
namespace Go.Proofs.Ytibomnplkclkmaa
open Go.Vc Go.RowKit Go.Shelf
set_option maxRecDepth 100000
set_option linter.unusedSimpArgs false
set_option linter.unusedVariables false

theorem mul64W (n : Nat) (hn : n ≤ 7) (w : World) : Calls Try.prog 187 #[.int .u64 1, .int .u64 n] w fun e w' => e = .returned (.tuple #[.int .u64 0, .int .u64 n]) ∧ w' = w := by
  rcases (by omega : n = 0 ∨ n = 1 ∨ n = 2 ∨ n = 3 ∨ n = 4 ∨ n = 5 ∨ n = 6 ∨ n = 7) with rfl | rfl | rfl | rfl | rfl | rfl | rfl | rfl
  all_goals
    go_enter Try.func187, Try.ntmps187
    go_wp2
    go_ret2
    exact ⟨rfl, rfl⟩
theorem mulW (n : Nat) (hn : n ≤ 7) (w : World) : Calls Try.prog 165 #[.int .u64 1, .int .u64 n] w fun e w' => e = .returned (.tuple #[.int .u64 0, .int .u64 n]) ∧ w' = w := by
  have c := mul64W n hn w
  have hc : ∀ args w, (callFunc 187 args).run Try.prog w = .ok (.enter 187 args) w := enters_of Try.func187 (by kernel_rfl) rfl
  go_enter Try.func165, Try.ntmps165
  go_wp2_with (go_at_call 187; refine c.mono ?_; rintro e w' ⟨rfl, hw⟩; rw [hw])
  go_ret2
  exact ⟨rfl, rfl⟩
theorem infoA3 : (Try.prog.info? 3).map (fun i => (i.zero, i.size, i.bytes)) = some (some (.int .i64 0), 1, 8) := by kernel_rfl
theorem infoS3 : (Try.prog.info? 3).map (·.size) = some 1 := by kernel_rfl
def cellsR (n m : Nat) : List Value := List.replicate m (.int .i64 (-1)) ++ List.replicate (n - m) (.int .i64 0)
theorem splice_cells {n m : Nat} (h : m ≤ n) : splice (cellsR n m) m (List.replicate (min m (n - m)) (Value.int .i64 (-1))) = cellsR n (m + min m (n - m)) := by
  unfold splice cellsR
  rw [List.take_left' (by simp), List.length_replicate, List.drop_append, List.length_replicate, List.drop_of_length_le (by simp), List.nil_append, List.drop_replicate, ← List.append_assoc, List.replicate_append_replicate]
  congr 2
  omega
theorem copy1 (a : Addr) (cap n : Nat) (hn : n ≤ 7) (w : World) (ha : w.cell? a = some (.int .i64 (-1))) :
    ∃ W, (Builtin.copy_ #[22, 22] 3 #[.slice (some ⟨w.heap.size, 0, none⟩) n n, .slice (some a) 1 cap]).run Try.prog (w.alloc (.cells (madeCells #[.int .i64 0] n) 3)) = .ok (.int .i64 ((min 1 n : Nat) : Int)) W ∧
      W.heap[w.heap.size]? = some (.cells (cellsR n (min 1 n)).toArray 3 (0, 0)) ∧ Below w.heap.size w W ∧ w.drawn ≤ W.drawn := by
  have hb : Below w.heap.size w (w.alloc (.cells (madeCells #[.int .i64 0] n) 3)) := (Below.refl _ _).alloc (Nat.le_refl _) _
  have hg : (w.alloc (.cells (madeCells #[.int .i64 0] n) 3)).heap[w.heap.size]? = some (.cells (madeCells #[.int .i64 0] n) 3 (0, 0)) := by
    show (w.heap.push _)[w.heap.size]? = _
    simp
  have hm : madeCells #[.int .i64 0] n = (List.replicate n (.int .i64 0)).toArray := by
    rw [← toList_madeCells_one]
  by_cases h0 : n = 0
  · subst h0
    refine ⟨_, run_copy_none _ 22 22 3 3 _ _ 0 0 1 cap Try.underlying22 infoS3 (by simp), ?_, hb, Nat.le_refl _⟩
    rw [hg, hm]; rfl
  · have hrun := run_copy_row (P := Try.prog) (w.alloc (.cells (madeCells #[.int .i64 0] n) 3)) 22 22 3 3 w.heap.size 0 n n a 1 cap (madeCells #[.int .i64 0] n) 3 [.int .i64 (-1)] Try.underlying22 infoS3 hg (by show 1 = Nat.min 1 n; rw [show Nat.min 1 n = min 1 n from rfl]; omega) (fun j v h => ?_) (by rw [hm]; simp; omega) (fun v h => ?_)
    · refine ⟨_, hrun.trans (by rw [show min 1 n = 1 by omega]; rfl), ?_, below_setRow hb (Nat.le_refl _) _, by rw [setRow_drawn]; exact Nat.le_refl _⟩
      · rw [setRow_heap _ _ _ _ _ _ hg, hm, show min 1 n = 1 by omega]
        unfold cellsR
        simp
    · rcases j with _ | j
      · cases h
        rw [show a.add 0 = a by simp [Addr.add]]
        rw [World.cell?_alloc_lt _ _ _ (World.block_lt_of_cell? _ _ ha)]; exact ha
      · simp at h
    · simp only [List.mem_singleton] at h; subst h; rfl
theorem copy2 (n m : Nat) (h : m < n) (h0 : 0 < m) (g : Nat) (W : World) (hW : W.heap[g]? = some (.cells (cellsR n m).toArray 3 (0, 0))) :
    ∃ W2, (Builtin.copy_ #[22, 22] 3 #[.slice (some ⟨g, m, none⟩) (n - m) (n - m), .slice (some ⟨g, 0, none⟩) m n]).run Try.prog W = .ok (.int .i64 ((min m (n - m) : Nat) : Int)) W2 ∧
      W2.heap[g]? = some (.cells (cellsR n (m + min m (n - m))).toArray 3 (0, 0)) ∧ Below g W W2 ∧ W.drawn ≤ W2.drawn := by
  have hl : (List.replicate (min m (n - m)) (Value.int .i64 (-1))).length = min m (n - m) := List.length_replicate
  have hrun := run_copy_row (P := Try.prog) W 22 22 3 3 g m (n - m) (n - m) ⟨g, 0, none⟩ m n (cellsR n m).toArray 3 (List.replicate (min m (n - m)) (.int .i64 (-1))) Try.underlying22 infoS3 hW hl (fun j v hv => ?_) (by unfold cellsR; simp; omega) (fun v hv => by rw [List.eq_of_mem_replicate hv]; rfl)
  · refine ⟨_, hrun.trans (by rw [hl]; rfl), ?_, below_setRow (Below.refl _ _) (Nat.le_refl _) _, by rw [setRow_drawn]; exact Nat.le_refl _⟩
    rw [setRow_heap _ _ _ _ _ _ hW]
    have := splice_cells (n := n) (m := m) (by omega)
    unfold splice at this
    simp only [hl] at this ⊢
    rw [← this, List.append_assoc]
  · have hj : j < min m (n - m) := by have := (List.getElem?_eq_some_iff.1 hv).1; rwa [List.length_replicate] at this
    have ev : v = Value.int .i64 (-1) := List.eq_of_mem_replicate (List.mem_of_getElem? hv)
    subst ev
    have : (cellsR n m).toArray[j]? = some (Value.int .i64 (-1)) := by
      unfold cellsR
      rw [List.getElem?_toArray, List.getElem?_append_left (by simp; omega), List.getElem?_replicate, if_pos (by omega)]
    have ea : (⟨g, 0, none⟩ : Addr).add j = ⟨g, j, none⟩ := by
      unfold Addr.add
      split
      · rename_i h0; subst h0; rfl
      · simp
    rw [ea]
    show (match W.heap[g]? with | some (.cells c _ _) => if (none : Option _).isSome then none else c[j]? | _ => none) = _
    rw [hW]
    exact this
theorem repW (a : Addr) (cap n : Nat) (hn : n ≤ 7) (w : World) (ha : w.cell? a = some (.int .i64 (-1))) :
    Calls Try.prog 131 #[.slice (some a) 1 cap, .int .i64 n] w fun e w' => e = .returned (.slice (some ⟨w.heap.size, 0, none⟩) n n) ∧ w'.heap[w.heap.size]? = some (.cells (List.replicate n (.int .i64 (-1))).toArray 3 (0, 0)) ∧ Below w.heap.size w w' ∧ w.drawn ≤ w'.drawn := by
  have c := fun w => mulW n hn w
  have hc : ∀ args w, (callFunc 165 args).run Try.prog w = .ok (.enter 165 args) w := enters_of Try.func165 (by kernel_rfl) rfl
  have hmk := run_make_row' (P := Try.prog) 22 3 (.int .i64 0) 8 Try.underlying22 infoA3 rfl .i64 .i64 n (by omega) (by omega) w
  obtain ⟨W, hcp, hW, hBW, hDW⟩ := copy1 a cap n hn w ha
  go_enter Try.func131, Try.ntmps131
  go_wp2_with (go_at_call 165; refine (c _).mono ?_; rintro e w' ⟨rfl, hw⟩; rw [hw])
  go_loopg [8] (n - min 1 n) (fun k c wr => ∃ m : Nat, k = n - m ∧ m ≤ n ∧ (0 < n → 0 < m) ∧ c = .int .i64 m ∧ wr.heap[w.heap.size]? = some (.cells (cellsR n m).toArray 3 (0, 0)) ∧ Below w.heap.size w wr ∧ w.drawn ≤ wr.drawn)
  case atStart => exact ⟨min 1 n, rfl, by omega, by omega, rfl, hW, hBW, hDW⟩
  case round =>
    obtain ⟨m, rfl, hm, hp, rfl, hg, hb, hdr⟩ := hrel
    go_wp2
    · have hlt : m < n := by assumption
      have hnm : ¬ n = m := by omega
      obtain ⟨W2, hc2, hW2, hB2, hD2⟩ := copy2 n m hlt (by omega) w.heap.size wr.drew hg
      have hc3 := hc2
      rw [← (if_neg hnm : (if n = m then some (⟨w.heap.size, 0, none⟩ : Addr) else some ⟨w.heap.size, m, none⟩) = some ⟨w.heap.size, m, none⟩)] at hc3
      go_region
      go_wp2
      go_roundg (n - (m + min m (n - m)))
      case measure => omega
      case rel =>
        refine ⟨m + min m (n - m), rfl, by omega, by omega, ?_, hW2, (hb.drew).trans hB2, ?_⟩
        · exact congrArg (Value.int .i64) (by omega)
        · exact Nat.le_trans hdr (Nat.le_trans (Nat.le_succ _) hD2)
    · have hmn : m = n := by omega
      subst hmn
      go_ret
      refine ⟨rfl, ?_, hb, hdr⟩
      rw [hg]; unfold cellsR; simp
def g_repC : List AV → Prop × AV × Heap
  | [.ints xs, .int .i64 n] => (xs = [-1] ∧ 0 ≤ n ∧ n ≤ 7, .sl 0, [(0, .arr (.ints (List.replicate n.toNat (-1))))])
  | _ => (False, .undef, [])
theorem g_repC_eq (xs : List Int) (n : Int) : g_repC [.ints xs, .int .i64 n] = (xs = [-1] ∧ 0 ≤ n ∧ n ≤ 7, .sl 0, [(0, .arr (.ints (List.replicate n.toNat (-1))))]) := (rfl)
theorem repC_ok (xs : List Int) (n : Int) (hp : xs = [-1] ∧ 0 ≤ n ∧ n ≤ 7) : SpecOK Try.prog 131 [.ints xs, .int .i64 n] (.sl 0) [(0, .arr (.ints (List.replicate n.toNat (-1))))] := by
  obtain ⟨rfl, h0, h7⟩ := hp
  obtain ⟨n, rfl⟩ : ∃ k : Nat, n = k := ⟨n.toNat, by omega⟩
  simp only [Int.toNat_natCast]
  intro S w cargs hS hsz hargs
  obtain ⟨v0, v1, rfl⟩ : ∃ v0 v1, cargs = #[v0, v1] := by
    obtain ⟨l⟩ := cargs
    match l, hsz with
    | [a, b], _ => exact ⟨a, b, rfl⟩
  have hv0 := hargs 0 _ v0 rfl rfl
  have hv1 := hargs 1 _ v1 rfl rfl
  have e1 : v1 = .int .i64 n := by
    cases hv1 with
    | int => rfl
    | lst _ _ _ _ _ he => simp [AV.elems] at he
  subst e1
  cases hv0 with
  | lst _ xs m a cap he hcap b off c vals hrow hm hc hs =>
    simp only [AV.elems, Option.some.injEq, Prod.mk.injEq] at he
    obtain ⟨rfl, rfl⟩ := he
    obtain ⟨rfl, hSb⟩ := hrow (by simp)
    have hcell : w.cell? ⟨b, off, none⟩ = some (.int .i64 (-1)) := by
      rw [(hS.2 b c hSb).cell]
      have h1 := hc 0 (.int .i64 (-1)) 0 _ rfl rfl
      have h2 := hs 0 (.int .i64 (-1)) 0 _ rfl rfl
      have h3 : vals 0 0 = .int .i64 (-1) := by
        generalize vals 0 0 = u at h2
        cases h2 with
        | int => rfl
        | lst _ _ _ _ _ he => simp [AV.elems] at he
      rw [h3] at h1
      simpa using h1
    refine (repW ⟨b, off, none⟩ cap n (by omega) w hcell).mono ?_
    rintro e w' ⟨rfl, hrow', hb, hdr⟩
    let ρ' : Rho := ⟨fun _ _ => w.heap.size, fun _ => n, fun _ _ => 0⟩
    have hlk : ∀ r k', Heap.look [((0 : Nat), Blk.arr (AV.ints (List.replicate n (-1))))] r = some k' → r = 0 ∧ k' = .arr (.ints (List.replicate n (-1))) := fun r k' h => by
      unfold Heap.look at h
      split at h
      · rename_i e; cases h; exact ⟨e.symm, rfl⟩
      · cases h
    have hft : ∀ r j, foot ρ' (Heap.look [((0 : Nat), Blk.arr (AV.ints (List.replicate n (-1))))]) r j → r = 0 ∧ j = 0 := fun r j h => by
      unfold foot at h
      cases hr : Heap.look [((0 : Nat), Blk.arr (AV.ints (List.replicate n (-1))))] r with
      | none => rw [hr] at h; exact h.elim
      | some k' =>
        obtain ⟨rfl, rfl⟩ := hlk r k' hr
        rw [hr] at h
        exact ⟨rfl, h.1⟩
    have hnone : S w.heap.size = none := by
      cases hq : S w.heap.size with
      | none => rfl
      | some q =>
        obtain ⟨el, fr, h⟩ := hS.2 _ q hq
        have := (Array.getElem?_eq_some_iff.1 h).1
        omega
    refine ⟨_, S, ρ', rfl, ⟨fun b' c' hb' => ?_, hS.1, fun r k' hr => ?_, fun r j h => ?_, fun r j r' j' h h' _ => ?_⟩, fun _ _ h => h, fun b h1 h2 => absurd h1 h2, ⟨hb.os, hb.tape, hb.output, hb.size, fun b hlt _ => hb.block b hlt, fun d => ?_⟩, ?_⟩
    · obtain ⟨el, fr, h⟩ := hS.2 b' c' hb'
      have hlt : b' < w.heap.size := (Array.getElem?_eq_some_iff.1 h).1
      exact ⟨el, fr, by rw [hb.block b' hlt]; exact h⟩
    · obtain ⟨rfl, rfl⟩ := hlk r k' hr
      refine ⟨(List.replicate n (-1)).map (AV.int .i64), 1, (List.replicate n (Value.int .i64 (-1))).toArray, rfl, fun _ => ⟨3, hrow'⟩, by simp [ρ'], by simp [ρ'], fun x hx => ?_, fun i x j y hx hy => ?_⟩
      · obtain ⟨y, _, rfl⟩ := List.mem_map.1 hx; rfl
      · rw [List.map_replicate, List.getElem?_replicate] at hx
        split at hx
        · rename_i hi
          cases hx
          rcases j with _ | j
          · simp [AV.cells] at hy
            subst hy
            refine ⟨.int .i64 (-1), ?_, .int _ _⟩
            rw [List.getElem?_toArray, List.getElem?_replicate, if_pos (by omega)]
          · simp [AV.cells] at hy
        · cases hx
    · obtain ⟨rfl, rfl⟩ := hft r j h
      exact ⟨Nat.le_refl _, hnone⟩
    · obtain ⟨rfl, rfl⟩ := hft r j h
      obtain ⟨rfl, rfl⟩ := hft r' j' h'
      exact ⟨rfl, rfl⟩
    · exact hdr
    · have hlook2 : Heap.look [((0 : Nat), Blk.arr (AV.ints (List.replicate n (-1))))] 0 = some (.arr (.ints (List.replicate n (-1)))) := rfl
      have h := V.sl (S := S) (ρ := ρ') (H := Heap.look [((0 : Nat), Blk.arr (AV.ints (List.replicate n (-1))))]) 0 (.ints (List.replicate n (-1))) ((List.replicate n (-1)).map (AV.int .i64)) 1 (some ⟨w.heap.size, 0, none⟩) hlook2 rfl (fun _ => rfl)
      rw [List.length_map, List.length_replicate] at h
      exact h
def t_repC : Table := [(131, ownC g_repC)]
theorem t_repC_ok : TabOK Try.prog t_repC := .cons Try.func131 (by kernel_rfl) (.own (by intro args hp; unfold g_repC at hp ⊢; split at hp <;> first | exact hp.elim | exact ⟨repC_ok _ _ hp, rfl⟩)) (.nil _)
attribute [go_sem] g_repC_eq t_repC
end Go.Proofs.Ytibomnplkclkmaa
