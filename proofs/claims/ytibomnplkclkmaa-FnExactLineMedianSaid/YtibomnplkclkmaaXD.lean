/- slices.DeleteFunc on an own list of lists: the kit's contract, in the words of the abstract run. -/
import Derived.Test.YtibomnplkclkmaaXS
namespace Go.Proofs.Ytibomnplkclkmaa
open Go.Vc Go.RowKit Go.Sort
set_option maxRecDepth 100000
set_option linter.unusedSimpArgs false
set_option linter.unusedVariables false

theorem giveM (k : Int) (W : World) (a : Option Addr) (l c b off : Nat) (hc : W.cell? ⟨b, off, none⟩ = some (.int .i64 k)) :
    FnGives Try.prog 169 #[.pointer (some ⟨b, off, none⟩)] #[.slice a l c] (.bool (decide ((l : Int) ≠ k))) W := by
  show Calls Try.prog 169 #[.slice a l c, .pointer (some ⟨b, off, none⟩)] W _
  go_enter Try.func169, Try.ntmps169
  go_wp2
  all_goals (go_ret; exact ⟨by first | (simp_all; done) | (simp_all; rfl), 0, rfl⟩)

def g_deleteC : List AV → Heap → Prop × AV × Heap
  | [.sl 0, .fn 169 [.iptr [.int .i64 k]]], [(0, .arr (.rows xss))] => (0 < xss.length ∧ xss.length ≤ 1000, .sl 1, [(1, .arr (.rows (xss.filter fun s => decide ((s.length : Int) = k))))])
  | _, _ => (False, .undef, [])
theorem g_deleteC_eq (xss : List (List Int)) (k : Int) : g_deleteC [.sl 0, .fn 169 [.iptr [.int .i64 k]]] [(0, .arr (.rows xss))] = (0 < xss.length ∧ xss.length ≤ 1000, .sl 1, [(1, .arr (.rows (xss.filter fun s => decide ((s.length : Int) = k))))]) := (rfl)
theorem deleteC_ok (xss : List (List Int)) (k : Int) (hp : 0 < xss.length ∧ xss.length ≤ 1000) : SpecM Try.prog 168 [.sl 0, .fn 169 [.iptr [.int .i64 k]]] [(0, .arr (.rows xss))] 1 (.sl 1) [(1, .arr (.rows (xss.filter fun s => decide ((s.length : Int) = k))))] := by
  obtain ⟨hn0, hn1⟩ := hp
  generalize hys : (xss.filter fun s => decide ((s.length : Int) = k)) = ys
  refine ⟨fun r k k' h1 h2 => ?_, ?_⟩
  · obtain ⟨rfl, rfl⟩ := look1 _ _ _ h1
    have : Heap.look [((1 : Nat), Blk.arr (AV.rows ys))] 0 = none := rfl
    rw [this] at h2; cases h2
  intro own S ρ w cargs hown hrel hsz hargs
  obtain ⟨v0, v1, rfl⟩ : ∃ v0 v1, cargs = #[v0, v1] := by
    obtain ⟨l⟩ := cargs
    match l, hsz with
    | [a, b], _ => exact ⟨a, b, rfl⟩
  have hv0 := hargs 0 _ v0 rfl rfl
  have hv1 := hargs 1 _ v1 rfl rfl
  have hlook : Heap.look [(0, Blk.arr (AV.rows xss))] 0 = some (.arr (.rows xss)) := rfl
  obtain ⟨us, rfl, hus, hcaps⟩ := hv1.fn_inv
  obtain ⟨u, rfl⟩ : ∃ u, us = #[u] := by
    obtain ⟨l⟩ := us
    match l, hus with
    | [a], _ => exact ⟨a, rfl⟩
  obtain ⟨bb, off, cb, rfl, hSbb, hcb⟩ := (hcaps 0 _ u rfl rfl).iptr_inv
  obtain ⟨uk, hck, hsk⟩ := hcb 0 _ rfl
  have huk := (V.pure (ρ := ρ) (H := fun _ => none) _ _ hsk).int_inv
  subst huk
  have hb := hrel.blk 0 _ hlook
  obtain ⟨zs, m, c, he, hc, hcs, hcap, hcm, harr⟩ := hb
  simp only [AV.elems, Option.some.injEq, Prod.mk.injEq] at he
  obtain ⟨rfl, rfl⟩ := he
  rw [List.length_map] at hcap
  have hcap0 : ρ.cap 0 ≠ 0 := by omega
  obtain ⟨el, hcell⟩ := hc hcap0
  have hfoot : foot ρ (Heap.look [(0, Blk.arr (AV.rows xss))]) 0 0 := foot_arr hlook hcap0
  obtain ⟨hownb, hSb⟩ := hrel.owned 0 0 hfoot
  have hv : v0 = .slice (some ⟨ρ.blk 0 0, 0, none⟩) xss.length (ρ.cap 0) := by
    obtain ⟨v, xs, m, a, e1, e2, e3, e4⟩ := hv0.sl_inv
    rw [hlook] at e2; cases e2
    simp only [AV.elems, Option.some.injEq, Prod.mk.injEq] at e3
    obtain ⟨rfl, rfl⟩ := e3
    rw [e1, e4 hcap0, List.length_map]
  subst hv
  generalize hB : ρ.blk 0 0 = B at *
  have hBlt : B < w.heap.size := (Array.getElem?_eq_some_iff.1 hcell).1
  have hcsz : xss.length ≤ c.size := by rw [hcs]; omega
  have hbbB : bb ≠ B := fun e => by rw [e] at hSbb; rw [hSbb] at hSb; cases hSb
  have hcin := hrel.stab bb cb hSbb
  have hbblt : bb < w.heap.size := by obtain ⟨el', fr', h⟩ := hcin; exact (Array.getElem?_eq_some_iff.1 h).1
  have hcellk : w.cell? ⟨bb, off, none⟩ = some (.int .i64 k) := by rw [hcin.cell]; simpa using hck
  let enc : Option (Fin xss.length) → Value := fun o => match o with
    | some i => (c[i.val]?).getD (.slice none 0 0)
    | none => .slice none 0 0
  have hsee : ∀ i : Fin xss.length, c[i.val]? = some (enc (some i)) ∧ Sees S (.ints (ix xss (i.val : Int))) (enc (some i)) := fun i => by
    have e1 : (xss.map AV.ints)[i.val]? = some (.ints (ix xss (i.val : Int))) := by rw [List.getElem?_map, ix_some xss i.isLt]; rfl
    obtain ⟨cv, h1, h2⟩ := harr i.val _ 0 _ e1 rfl
    rw [Nat.mul_one, Nat.add_zero] at h1
    have : enc (some i) = cv := by show (c[i.val]?).getD _ = cv; rw [h1]; rfl
    rw [this]; exact ⟨h1, h2⟩
  have hone : OneCell enc := fun i => by
    cases i with
    | none => rfl
    | some i =>
      have h := (hsee i).2
      generalize enc (some i) = u at h
      cases h with
      | lst => rfl
  let p : Option (Fin xss.length) → Bool := fun o => match o with
    | some i => decide (((ix xss (i.val : Int)).length : Int) ≠ k)
    | none => decide (((0 : Nat) : Int) ≠ k)
  have gives : ∀ W : World, W.cell? ⟨bb, off, none⟩ = some (.int .i64 k) → ∀ x, FnGives Try.prog 169 #[.pointer (some ⟨bb, off, none⟩)] #[enc x] (.bool (p x)) W := fun W hW x => by
    cases x with
    | none => exact giveM k W none 0 0 bb off hW
    | some i =>
      have h := (hsee i).2
      show FnGives _ _ _ _ (.bool (decide (((ix xss (i.val : Int)).length : Int) ≠ k))) W
      generalize enc (some i) = u at h
      cases h with
      | lst _ _ _ a cap he =>
        simp only [AV.elems, Option.some.injEq, Prod.mk.injEq] at he
        obtain ⟨rfl, rfl⟩ := he
        rw [List.length_map]
        exact giveM k W a _ cap bb off hW
  let d : Array (Option (Fin xss.length)) := ((List.finRange xss.length).map some).toArray
  have hds : d.size = xss.length := by show ((List.finRange xss.length).map some).toArray.size = _; simp
  have hH : Holds enc w B 0 d := fun j hj => by
    have hj' : j < xss.length := by rw [← hds]; exact hj
    have hdj : d[j]! = some ⟨j, hj'⟩ := by
      rw [getElem!_pos d j hj]
      show ((List.finRange xss.length).map some).toArray[j] = _
      simp
    refine ⟨?_, OwnCells.frozen ⟨el, hcell⟩ _ _⟩
    rw [hdj, (OwnCells.cellsIn ⟨el, hcell⟩).cell, Nat.zero_add]
    exact (hsee ⟨j, hj'⟩).1
  have heg : ∀ args w, (callFunc 169 args).run Try.prog w = .ok (.enter 169 args) w := enters_of Try.func169 (by kernel_rfl) rfl
  have hfin := Try.slices_DeleteFunc_f168 enc hone p 169 #[.pointer (some ⟨bb, off, none⟩)] heg none Try.zeroValue22 B 0 (ρ.cap 0) d w
    (fun W x hb => gives W ((hb.cell (p := ⟨bb, off, none⟩) hbblt).trans hcellk) x)
    (fun n os dk x _ => gives _ (by
      unfold sortWorld
      rw [cell?_grow _ _ _ (by show bb < (putRow _ _ _ _ _).heap.size; rw [size_putRow]; exact hbblt), cell?_putRow_other _ _ B 0 _ _ (Or.inl hbbB)]
      exact hcellk) x) hH (by omega) (by omega)
  rw [hds] at hfin
  let L : List (Option (Fin xss.length)) := d.toList.filter fun x => !p x
  have hLy : L.map (fun o => match o with | some i => ix xss (i.val : Int) | none => []) = ys := by
    rw [← hys]
    show ((((List.finRange xss.length).map some).toArray.toList).filter fun x => !p x).map _ = _
    have e1 : ∀ l : List (Fin xss.length), ((l.map some).filter fun x => !p x).map (fun o => match o with | some i => ix xss (i.val : Int) | none => []) = (l.map fun i => ix xss (i.val : Int)).filter fun s => decide ((s.length : Int) = k) := fun l => by
      induction l with
      | nil => rfl
      | cons i l ih =>
        rw [List.map_cons, List.filter_cons, List.map_cons, List.filter_cons]
        have e : (!p (some i)) = decide (((ix xss (i.val : Int)).length : Int) = k) := by show (!decide (_ ≠ k)) = _; rw [← decide_not]; simp
        rw [e]
        split
        · rw [List.map_cons, ih]
        · exact ih
    have := e1 (List.finRange xss.length)
    rw [fin_map] at this
    simpa using this
  have hLl : L.length = ys.length := by rw [← hLy, List.length_map]
  have hyn : ys.length ≤ xss.length := by rw [← hys]; exact List.length_filter_le _ _
  have hLs : ∀ o ∈ L, ∃ i, o = some i := fun o ho => by
    have h1 := (List.mem_filter.1 ho).1
    have h2 : o ∈ (List.finRange xss.length).map some := by simpa [d] using h1
    obtain ⟨i, _, rfl⟩ := List.mem_map.1 h2
    exact ⟨i, rfl⟩
  refine hfin.mono ?_
  rintro e w' ⟨rfl, q, rfl⟩
  let A : Array (Option (Fin xss.length)) := (L ++ List.replicate (xss.length - L.length) none).toArray
  let c1 : Array Value := Sort.putCells enc 0 A c
  have hc1s : c1.size = c.size := by show (Array.mapIdx _ c).size = _; simp
  have hAs : A.size = xss.length := by show (L ++ List.replicate _ _).toArray.size = _; simp; omega
  have hc1 : ∀ i : Nat, (hi : i < ys.length) → c1[i]? = some (enc (L[i]'(by omega))) := fun i hi => by
    show (Array.mapIdx _ c)[i]? = _
    rw [Array.getElem?_mapIdx, Array.getElem?_eq_getElem (by omega), Option.map_some]
    rw [if_pos ⟨Nat.zero_le _, by omega⟩, Nat.sub_zero, getElem!_pos A i (by omega)]
    show some (enc ((L ++ List.replicate _ _).toArray[i]'_)) = _
    rw [List.getElem_toArray, List.getElem_append_left (by omega)]
  have hw : putRow enc (Sort.ahead w q) B 0 A = (Sort.ahead w q).setRow B c1 := mapBlock_row (w := Sort.ahead w q) (c := c) (el := el) (fr := (0, 0)) _ hcell
  have hset : ((Sort.ahead w q).setRow B c1).heap[B]? = some (.cells c1 el (0, 0)) := setRow_heap (Sort.ahead w q) B c c1 el (0, 0) hcell
  have hoth : ∀ b, b ≠ B → ((Sort.ahead w q).setRow B c1).heap[b]? = w.heap[b]? := fun b hb => setRow_other (Sort.ahead w q) _ _ _ hb
  have hLe : (d.toList.filter fun x => !p x) = L := rfl
  rw [hLe, hw, hLl]
  have hlook2 : Heap.look [(1, Blk.arr (AV.rows ys))] 1 = some (.arr (.rows ys)) := rfl
  have hlk : ∀ r k', Heap.look [(1, Blk.arr (AV.rows ys))] r = some k' → r = 1 ∧ k' = .arr (.rows ys) := fun r k' h => by
    unfold Heap.look at h
    split at h
    · rename_i e; cases h; exact ⟨e.symm, rfl⟩
    · cases h
  let ρ' : Rho := ⟨fun _ _ => B, fun _ => ρ.cap 0, fun _ _ => 0⟩
  have hft : ∀ r j, foot ρ' (Heap.look [(1, Blk.arr (AV.rows ys))]) r j → r = 1 ∧ j = 0 := fun r j h => by
    unfold foot at h
    cases hr : Heap.look [(1, Blk.arr (AV.rows ys))] r with
    | none => rw [hr] at h; exact h.elim
    | some k' =>
      obtain ⟨rfl, rfl⟩ := hlk r k' hr
      rw [hr] at h
      exact ⟨rfl, h.1⟩
  refine ⟨_, S, ρ', rfl, ⟨fun b c' hb => ?_, hrel.amb, fun r k' hr => ?_, fun r j h => ?_, fun r j r' j' h h' _ => ?_⟩, fun _ _ h => h, fun b h1 h2 => absurd h1 h2, ⟨rfl, rfl, rfl, by rw [setRow_size]; exact Nat.le_refl _, fun b hlt hno => ?_, fun _ => ?_⟩, ?_, fun r h1 h2 => ?_⟩
  · obtain ⟨el', fr', hb'⟩ := hrel.stab b c' hb
    exact ⟨el', fr', by rw [hoth b (fun e => by rw [e, hSb] at hb; cases hb)]; exact hb'⟩
  · obtain ⟨rfl, rfl⟩ := hlk r k' hr
    refine ⟨ys.map .ints, 1, c1, rfl, fun _ => ⟨el, hset⟩, by rw [hc1s]; exact hcs, by rw [List.length_map]; show _ ≤ ρ.cap 0; omega, fun x hx => by obtain ⟨y, _, rfl⟩ := List.mem_map.1 hx; rfl, fun i x j y hx hy => ?_⟩
    have hi : i < ys.length := by have := (List.getElem?_eq_some_iff.1 hx).1; rw [List.length_map] at this; exact this
    obtain ⟨t, ht⟩ := hLs (L[i]'(by omega)) (List.getElem_mem _)
    have e1 : x = .ints (ix xss (t.val : Int)) := by
      rw [← hLy, List.map_map, List.getElem?_map, List.getElem?_eq_getElem (by omega), ht] at hx
      exact (Option.some.inj hx).symm
    subst e1
    rcases j with _ | j
    · simp [AV.cells] at hy
      subst hy
      rw [Nat.mul_one, Nat.add_zero]
      refine ⟨_, hc1 i hi, ?_⟩
      rw [ht]; exact (hsee t).2
    · simp [AV.cells] at hy
  · exact ⟨hownb, hSb⟩
  · obtain ⟨rfl, rfl⟩ := hft r j h
    obtain ⟨rfl, rfl⟩ := hft r' j' h'
    exact ⟨rfl, rfl⟩
  · exact hoth b (fun e => hno (e ▸ hownb))
  · show w.drawn ≤ ((Sort.ahead w q).setRow B c1).drawn
    rw [setRow_drawn]; show w.drawn ≤ w.drawn + q; omega
  · have h := V.sl (S := S) (ρ := ρ') (H := Heap.look [(1, Blk.arr (AV.rows ys))]) 1 (.rows ys) (ys.map .ints) 1 (some ⟨B, 0, none⟩) hlook2 rfl (fun _ => rfl)
    rw [List.length_map] at h
    exact h
  · have : r = 0 := by omega
    subst this
    exact absurd rfl h2
def t_deleteC : Table := [(168, mutC 1 g_deleteC)]
theorem t_deleteC_ok : TabOK Try.prog t_deleteC := .cons Try.func168 (by kernel_rfl) (.mut (by intro args pre _ hp; unfold g_deleteC at hp ⊢; split at hp <;> first | exact hp.elim | exact deleteC_ok _ _ hp)) (.nil _)
attribute [go_sem] g_deleteC_eq t_deleteC
end Go.Proofs.Ytibomnplkclkmaa
