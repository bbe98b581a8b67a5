/- slices.SortFunc on an own matrix: the rows change their places. -/
import Derived.Test.YtgcbdpehnonghaaXS
namespace Go.Proofs.Ytgcbdpehnonghaa
open Go.Vc Go.RowKit Go.Sort
set_option maxRecDepth 100000
set_option maxHeartbeats 1600000
set_option linter.unusedSimpArgs false
set_option linter.unusedVariables false
open Classical in
/-- The rows of an own matrix, seen for a while. -/
theorem rows_seen {own : Nat -> Prop} {S : Store} {ρ : Rho} {H : HF} {w : World} (hrel : Rel own S ρ H w) {xss : List (List Int)} (hH : H 0 = some (.mat xss)) :
    ∃ S2 : Store, S.le S2 /\ (∀ b c, S2 b = some c -> CellsIn w b c) /\ (ρ.cap 0 ≠ 0 -> S2 (ρ.blk 0 0) = none) /\ ∀ (i : Nat) row cv, xss[i]? = some row -> RowAt ρ 0 i row cv -> Sees S2 (.ints row) cv := by
  let S2 : Store := fun b => if S b = none then (if ∃ i row, xss[i]? = some row /\ ρ.rcap 0 i ≠ 0 /\ ρ.blk 0 (i + 1) = b then (match w.heap[b]? with | some (.cells c _ _) => some c | _ => none) else none) else S b
  have hle : S.le S2 := fun b c h => by show (if S b = none then _ else S b) = some c; rw [if_neg (by rw [h]; simp), h]
  obtain ⟨c0, hc0, hsz, hcap, hrows⟩ := hrel.blk 0 _ hH
  refine ⟨S2, hle, fun b c hb => ?_, fun h0 => ?_, fun i row cv hi hr => ?_⟩
  · by_cases hs : S b = none
    · have e : S2 b = if ∃ i row, xss[i]? = some row /\ ρ.rcap 0 i ≠ 0 /\ ρ.blk 0 (i + 1) = b then (match w.heap[b]? with | some (.cells c _ _) => some c | _ => none) else none := by
        show (if S b = none then _ else S b) = _; rw [if_pos hs]
      rw [e] at hb
      split at hb
      · split at hb
        · rename_i c' el fr he; cases hb; exact ⟨el, fr, he⟩
        · cases hb
      · cases hb
    · have e : S2 b = S b := by show (if S b = none then _ else S b) = _; rw [if_neg hs]
      rw [e] at hb
      exact hrel.stab b c hb
  · have hf0 := foot_mat (ρ := ρ) hH h0
    show (if S _ = none then _ else S _) = none
    rw [if_pos (hrel.owned 0 0 hf0).2, if_neg]
    rintro ⟨i, row, hi, hr, e⟩
    have := (hrel.sep 0 0 0 (i + 1) hf0 (foot_row hH hi hr) e.symm).2
    omega
  · obtain ⟨a, h1, rfl, h3⟩ := hr
    have hl : (row.map AV.i).length = row.length := by simp
    have key := fun (b : Nat) (c : Array Value) (hrow : row.map AV.i ≠ [] -> a = some ⟨b, 0, none⟩ /\ S2 b = some c) (hc : ∀ (j : Nat) (m : Int), row[j]? = some m -> c[j]? = some (Value.int .i64 m)) =>
      Sees.lst (S := S2) (.ints row) (row.map .i) 1 a (ρ.rcap 0 i) rfl (by rw [hl]; exact h1) b 0 c (fun p _ => match row[p]? with | some m => Value.int .i64 m | none => Go.undef) hrow
        (fun x hx => by obtain ⟨m, _, rfl⟩ := List.mem_map.1 hx; rfl)
        (fun p x j y hx hy => by
          rw [List.getElem?_map] at hx
          obtain ⟨m, hm, rfl⟩ := Option.map_eq_some_iff.1 hx
          rcases j with _ | j
          · simp only [hm]
            rw [show 0 + p * 1 + 0 = p by omega]
            exact hc p m hm
          · cases hy)
        (fun p x j y hx hy => by
          rw [List.getElem?_map] at hx
          obtain ⟨m, hm, rfl⟩ := Option.map_eq_some_iff.1 hx
          rcases j with _ | j
          · cases hy
            simp only [hm]
            exact .int _ _
          · cases hy)
    rw [hl] at key
    by_cases hne : ρ.rcap 0 i = 0
    · have h0 : row = [] := List.length_eq_zero_iff.1 (by omega)
      subst h0
      exact key 0 #[] (fun h => (h rfl).elim) (fun j m hm => by simp at hm)
    · obtain ⟨d, hd, hds, hdn⟩ := (hrows i row hi).2 hne
      refine key (ρ.blk 0 (i + 1)) d (fun _ => ⟨h3 hne, ?_⟩) hdn
      show (if S _ = none then _ else S _) = some d
      obtain ⟨el, fr, he⟩ := hd.cellsIn
      rw [if_pos (hrel.owned 0 (i + 1) (foot_row hH hi hne)).2, if_pos ⟨i, row, hi, hne, rfl⟩, he]
theorem getD_put {A : Array Value} {i j : Nat} {v : Value} (h : i < A.size) : (A.setIfInBounds i v).getD j Go.undef = if i = j then v else A.getD j Go.undef := by
  rw [Array.getD_eq_getD_getElem?, Array.getElem?_setIfInBounds, Array.getD_eq_getD_getElem?]
  by_cases e : i = j
  · subst e; simp [h]
  · simp [e]
theorem wp_one {P : Program} {ops : Array Oper} {Q : Exit -> Act -> World -> Prop} {o : Oper} {rest : List Oper} {a : Act} {w : World} (hg : o.guard = none) (h : o.wp P a w (wpList P ops Q rest) Q) : wpList P ops Q (o :: rest) a w := by
  unfold wpList
  rw [if_pos (by simp [Region.wanted, hg])]
  exact .inl h
/-- The rows of an own matrix put in order: the run of the call, by hand. -/
theorem sort_region (xss : List (List Int)) (hn0 : 0 < xss.length) (hn1 : xss.length <= 1000) (hnd : xss.Nodup) (hlen : ∀ x ∈ xss, x.length <= 1048576000) {hint : Go.Vc.Hint} (hh : hint.n0 = 0) {i : Nat} {t1 t2 : TypeId} {p1 p2 : String} {f1 f2 : Array Edge} {ts : Array TypeId} {Q : AQ} {e : Env} (he : e.get 3 = .mt 0)
    (hQ : Q .normal [(3, .mt 0)] [(0, .mat (sortS xss))] 1) :
    UserP Try.prog hint (Code.region i ⟨[⟨some 17, .move (.tmp 3), t1, p1, f1, none⟩, ⟨some 18, .call ⟨.value (.func 64), ⟨[.tmp 17, .func 65]⟩, ts⟩, t2, p2, f2, none⟩]⟩ false) [⟨some 17, .move (.tmp 3), t1, p1, f1, none⟩, ⟨some 18, .call ⟨.value (.func 64), ⟨[.tmp 17, .func 65]⟩, ts⟩, t2, p2, f2, none⟩] Q e [(0, .mat xss)] 1 := by
  intro x a w hx0 hdst hs
  have hd17 : 17 < x.k := dstOK_mem hdst (o := ⟨some 17, .move (.tmp 3), t1, p1, f1, none⟩) (by simp) 17 rfl
  have hd18 : 18 < x.k := dstOK_mem hdst (o := ⟨some 18, .call ⟨.value (.func 64), ⟨[.tmp 17, .func 65]⟩, ts⟩, t2, p2, f2, none⟩) (by simp) 18 rfl
  have hsl : (sortS xss).length = xss.length := (sortS_perm xss).length_eq
  obtain ⟨S, ρ, s1, s2, hrel, hfx, hE, hkept, hk, hdf, hn, hxn⟩ := hs
  have hlook : Heap.look [(0, Blk.mat xss)] 0 = some (.mat xss) := rfl
  have hv3 := hE 3
  rw [he] at hv3
  obtain ⟨xss', a0, ev3, hl', ha0⟩ := hv3.mt_inv
  rw [hlook] at hl'; cases hl'
  obtain ⟨c, hc, hsz, hcap, hrows⟩ := hrel.blk 0 _ hlook
  have hcap0 : ρ.cap 0 ≠ 0 := by omega
  obtain ⟨el, hcell⟩ := hc hcap0
  have hfoot : foot ρ (Heap.look [(0, Blk.mat xss)]) 0 0 := foot_mat hlook hcap0
  obtain ⟨hownb, hSb⟩ := hrel.owned 0 0 hfoot
  rw [ha0 hcap0] at ev3
  obtain ⟨S2, hle2, hst2, hS2B, hsees⟩ := rows_seen hrel hlook
  have hS2B := hS2B hcap0
  generalize hB : ρ.blk 0 0 = B at *
  have hBlt : B < w.heap.size := (Array.getElem?_eq_some_iff.1 hcell).1
  have hcsz : xss.length <= c.size := by omega
  haveI : Inhabited (Fin xss.length) := ⟨⟨0, hn0⟩⟩
  let enc : Fin xss.length -> Value := fun i => (c[i.val]?).getD (.slice none 0 0)
  have hrow : ∀ i : Fin xss.length, c[i.val]? = some (enc i) /\ RowAt ρ 0 i.val (ix xss (i.val : Int)) (enc i) := fun i => by
    obtain ⟨⟨cv, h1, h2⟩, _⟩ := hrows i.val _ (ix_some xss i.isLt)
    have : enc i = cv := by show (c[i.val]?).getD _ = cv; rw [h1]; rfl
    rw [this]; exact ⟨h1, h2⟩
  have hsee : ∀ i : Fin xss.length, Sees S2 (.ints (ix xss (i.val : Int))) (enc i) := fun i => hsees i.val _ _ (ix_some xss i.isLt) (hrow i).2
  have hone : OneCell enc := fun i => by
    have h := hsee i
    generalize enc i = u at h
    cases h with
    | lst => rfl
  let cf : Fin xss.length -> Fin xss.length -> Int := fun i j => cmpS (ix xss (i.val : Int)) (ix xss (j.val : Int))
  have hinj : ∀ i j : Fin xss.length, ix xss (i.val : Int) = ix xss (j.val : Int) -> i = j := fun i j e => by
    have e1 := ix_some xss i.isLt
    have e2 := ix_some xss j.isLt
    rw [e, <- e2] at e1
    exact Fin.ext ((List.getElem?_inj i.isLt hnd).1 e1)
  have hswo : SWO (ltOf cf) := by
    refine ⟨fun x => ?_, fun x y z h k => ?_, fun x y z h k => ?_⟩
    · unfold ltOf; exact decide_eq_false (by show ¬ cmpS _ _ < 0; rw [cmpS_self]; omega)
    · unfold ltOf at *
      exact decide_eq_true (cmpS_trans (of_decide_eq_true h) (of_decide_eq_true k))
    · unfold ltOf at *
      have h := of_decide_eq_false h
      have k := of_decide_eq_false k
      refine decide_eq_false (fun hxz => ?_)
      have h1 : leS (ix xss (y.val : Int)) (ix xss (x.val : Int)) = true := by unfold leS; simp only [Bool.not_eq_true', decide_eq_false_iff_not]; exact h
      have h2 : leS (ix xss (z.val : Int)) (ix xss (y.val : Int)) = true := by unfold leS; simp only [Bool.not_eq_true', decide_eq_false_iff_not]; exact k
      have h3 := leS_trans _ _ _ h2 h1
      unfold leS at h3
      simp only [Bool.not_eq_true', decide_eq_false_iff_not] at h3
      exact h3 hxz
  have htot : ∀ x y, (ltOf cf) x y = false -> (ltOf cf) y x = false -> x = y := fun x y h k => by
    unfold ltOf at *
    have h := of_decide_eq_false h
    have k := of_decide_eq_false k
    refine hinj x y (cmpS_zero ?_)
    have h' : ¬ cmpS (ix xss (x.val : Int)) (ix xss (y.val : Int)) < 0 := h
    have k' : ¬ cmpS (ix xss (y.val : Int)) (ix xss (x.val : Int)) < 0 := k
    have := cmpS_anti (ix xss (x.val : Int)) (ix xss (y.val : Int))
    omega
  let d : Array (Fin xss.length) := (List.finRange xss.length).toArray
  have hds : d.size = xss.length := by show (List.finRange xss.length).toArray.size = _; simp
  have hH : Holds enc w B 0 d := fun j hj => by
    have hj' : j < xss.length := by rw [<- hds]; exact hj
    have hdj : d[j]! = ⟨j, hj'⟩ := by
      rw [getElem!_pos d j hj]
      show (List.finRange xss.length).toArray[j] = _
      simp
    refine ⟨?_, OwnCells.frozen ⟨el, hcell⟩ _ _⟩
    rw [hdj, (OwnCells.cellsIn ⟨el, hcell⟩).cell, Nat.zero_add]
    exact (hrow ⟨j, hj'⟩).1
  have hstab : ∀ (mm : Nat) (os : Array Obj) (dk : Array (Fin xss.length)), StoreIn S2 (sortWorld enc w B 0 mm dk os) := fun mm os dk => by
    refine ⟨hrel.amb.mono hle2, fun b c' hb => ?_⟩
    obtain ⟨el', fr', hb'⟩ := hst2 b c' hb
    have hne : B ≠ b := fun e => by rw [<- e, hS2B] at hb; cases hb
    have hlt : b < w.heap.size := (Array.getElem?_eq_some_iff.1 hb').1
    refine ⟨el', fr', ?_⟩
    show ((Array.modify (Sort.ahead w mm).heap B _) ++ os)[b]? = _
    rw [Array.getElem?_append_left (by rw [Array.size_modify]; exact hlt), Array.getElem?_modify, if_neg hne]
    exact hb'
  have hcmp : CmpLays1 Try.prog 65 #[] enc cf B 0 d.size w := by
    intro mm os dk hdk x y
    have hsp := cmpSC_ok (ix xss (x.val : Int)) (ix xss (y.val : Int)) ⟨hlen _ (ix_mem xss x.isLt), hlen _ (ix_mem xss y.isLt)⟩
    refine (hsp S2 _ (#[enc x, enc y] ++ #[]) (hstab mm os dk) rfl (fun j z v hz hv => ?_)).mono ?_
    · rcases j with _ | _ | j <;> simp at hz hv
      · subst hz; subst hv; exact hsee x
      · subst hz; subst hv; exact hsee y
    · rintro e w' ⟨cv, S', ρ', rfl, _, _, _, hk, hv⟩
      rw [hv.int_inv]
      exact ⟨rfl, kept_is_grow hk⟩
  have heg : ∀ args w, (callFunc 65 args).run Try.prog w = .ok (.enter 65 args) w := enters_of Try.func65 (by kernel_rfl) rfl
  have hfin := Try.slices_SortFunc_total enc hone cf hswo 65 #[] B 0 (ρ.cap 0) d w heg hcmp hH hBlt (by rw [hds]; omega) htot
  rw [hds] at hfin
  -- the two operations
  refine wp_region ?_
  have hwl := wpOps_eq_wpList (P := Try.prog) (Q := fun ex a w => ∃ e h n, Q ex e h n /\ Sat x e h n a w) (ops := ⟨[⟨some 17, .move (.tmp 3), t1, p1, f1, none⟩, ⟨some 18, .call ⟨.value (.func 64), ⟨[.tmp 17, .func 65]⟩, ts⟩, t2, p2, f2, none⟩]⟩) [⟨some 17, .move (.tmp 3), t1, p1, f1, none⟩, ⟨some 18, .call ⟨.value (.func 64), ⟨[.tmp 17, .func 65]⟩, ts⟩, t2, p2, f2, none⟩] 0 (by simp)
  rw [show List.range (Array.size ⟨[(⟨some 17, .move (.tmp 3), t1, p1, f1, none⟩ : Oper), ⟨some 18, .call ⟨.value (.func 64), ⟨[.tmp 17, .func 65]⟩, ts⟩, t2, p2, f2, none⟩]⟩) = List.range' 0 2 from rfl]
  refine (congrFun (congrFun hwl a) w).mpr ?_
  refine wp_one rfl ?_
  unfold Oper.wp
  rw [show (execOp a.eval ⟨some 17, .move (.tmp 3), t1, p1, f1, none⟩).run Try.prog w = .ok (.value (a.eval (.tmp 3))) w by simp [execOp]]
  refine wp_one rfl ?_
  have ev3' : a.eval (.tmp 3) = .slice (some ⟨B, 0, none⟩) xss.length (ρ.cap 0) := ev3
  have h17 : ∀ v : Value, (a.put (some 17) v).eval (.tmp 17) = v := fun v => by
    show (a.tmps.setIfInBounds 17 v).getD 17 Go.undef = v
    rw [getD_put (by rw [hk]; exact hd17), if_pos rfl]
  have hrun : (execOp (a.put (some 17) (a.eval (.tmp 3))).eval ⟨some 18, .call ⟨.value (.func 64), ⟨[.tmp 17, .func 65]⟩, ts⟩, t2, p2, f2, none⟩).run Try.prog w = .ok (.enter 64 #[.slice (some ⟨B, 0, none⟩) xss.length (ρ.cap 0), .func (.func 65) #[] #[]]) w := by
    have e1 := h17 (a.eval (.tmp 3))
    rw [ev3'] at e1 ⊢
    have e2 : ∀ f, (a.put (some 17) (.slice (some ⟨B, 0, none⟩) xss.length (ρ.cap 0))).eval (.func f) = .func (.func f) #[] #[] := fun f => rfl
    simp [execOp, resolve, e1, e2, Deferred.ofValue, invoke]
    try exact run_callFunc ⟨_, Try.func64, by kernel_rfl, by kernel_rfl⟩ _ w
  unfold Oper.wp
  rw [hrun]
  show Calls Try.prog 64 _ w _
  refine hfin.mono ?_
  rintro en w' ⟨rfl, q, os, rfl⟩
  let L : List (Fin xss.length) := d.toList.mergeSort fun x y => !(ltOf cf) y x
  have hL : L.map (fun i => ix xss (i.val : Int)) = sortS xss := by
    have h := sort_fin xss
    exact h
  have hLl : L.length = xss.length := by show (List.mergeSort _ _).length = _; rw [List.length_mergeSort]; show (List.finRange xss.length).toArray.toList.length = _; simp
  have hLn : L.Nodup := by
    have h1 : L.Perm (List.finRange xss.length) := List.mergeSort_perm _ _
    exact h1.nodup_iff.2 (List.nodup_finRange _)
  let c1 : Array Value := Sort.putCells enc 0 L.toArray c
  have hc1s : c1.size = c.size := by show (Array.mapIdx _ c).size = _; simp
  have hc1 : ∀ i : Nat, (hi : i < xss.length) -> c1[i]? = some (enc (L[i]'(by omega))) := fun i hi => by
    show (Array.mapIdx _ c)[i]? = _
    rw [Array.getElem?_mapIdx, Array.getElem?_eq_getElem (by omega), Option.map_some]
    rw [if_pos ⟨Nat.zero_le _, by simp [hLl]; omega⟩, Nat.sub_zero, getElem!_pos L.toArray i (by simp [hLl]; omega)]
    simp
  have hw : sortWorld enc w B 0 q L.toArray os = Sort.grow ({ w.setRow B c1 with drawn := w.drawn + q }) os := by
    show Sort.grow (Sort.mapBlock (Sort.ahead w q) B _) os = _
    rw [mapBlock_row (w := Sort.ahead w q) (c := c) (el := el) (fr := (0, 0)) _ hcell]
    rfl
  rw [show (d.toList.mergeSort fun x y => !(ltOf cf) y x).toArray = L.toArray from rfl, hw]
  have hkeepW : ∀ b, b < w.heap.size -> b ≠ B -> (Sort.grow ({ w.setRow B c1 with drawn := w.drawn + q }) os).heap[b]? = w.heap[b]? := fun b hb hne => by
    show ((w.setRow B c1).heap ++ os)[b]? = _
    rw [Array.getElem?_append_left (by rw [setRow_size]; exact hb), setRow_other w B b c1 hne]
  have hBW : (Sort.grow ({ w.setRow B c1 with drawn := w.drawn + q }) os).heap[B]? = some (.cells c1 el (0, 0)) := by
    show ((w.setRow B c1).heap ++ os)[B]? = _
    rw [Array.getElem?_append_left (by rw [setRow_size]; exact hBlt)]
    exact setRow_heap w B c c1 el (0, 0) hcell
  generalize hW : Sort.grow ({ w.setRow B c1 with drawn := w.drawn + q }) os = W' at *
  let σ : Nat -> Nat := fun i => if h : i < xss.length then (L[i]'(by omega)).val else i
  have sI : ∀ i, (h : i < xss.length) -> σ i = (L[i]'(by omega)).val := fun i h => dif_pos h
  have sLt : ∀ i, i < xss.length -> σ i < xss.length := fun i h => by rw [sI i h]; exact (L[i]'(by omega)).isLt
  have sInj : ∀ i j, i < xss.length -> j < xss.length -> σ i = σ j -> i = j := fun i j hi hj e => by
    rw [sI i hi, sI j hj] at e
    have e2 : L[i]? = L[j]? := by rw [List.getElem?_eq_getElem (by omega), List.getElem?_eq_getElem (by omega), Fin.ext e]
    exact (List.getElem?_inj (by omega) hLn).1 e2
  let ρ' : Rho := ⟨fun (r j : Nat) => if r = 0 /\ 0 < j then ρ.blk 0 (σ (j - 1) + 1) else ρ.blk r j, ρ.cap, fun (r i : Nat) => if r = 0 then ρ.rcap 0 (σ i) else ρ.rcap r i⟩
  have b0 : ρ'.blk 0 0 = B := by
    show (if (0 : Nat) = 0 /\ 0 < 0 then ρ.blk 0 (σ (0 - 1) + 1) else ρ.blk 0 0) = B
    rw [if_neg (by omega)]; exact hB
  have bI : ∀ i, ρ'.blk 0 (i + 1) = ρ.blk 0 (σ i + 1) := fun i => by
    show (if (0 : Nat) = 0 /\ 0 < i + 1 then ρ.blk 0 (σ (i + 1 - 1) + 1) else ρ.blk 0 (i + 1)) = _
    rw [if_pos ⟨rfl, by omega⟩, Nat.add_sub_cancel]
  have rI : ∀ i, ρ'.rcap 0 i = ρ.rcap 0 (σ i) := fun i => by
    show (if (0 : Nat) = 0 then ρ.rcap 0 (σ i) else ρ.rcap 0 i) = _
    rw [if_pos rfl]
  have hlook2 : Heap.look [(0, Blk.mat (sortS xss))] 0 = some (.mat (sortS xss)) := rfl
  have hrow2 : ∀ i row, (sortS xss)[i]? = some row -> i < xss.length /\ xss[σ i]? = some row := fun i row hi => by
    have hil : i < xss.length := by have := (List.getElem?_eq_some_iff.1 hi).1; omega
    refine ⟨hil, ?_⟩
    rw [<- hL, List.getElem?_map, List.getElem?_eq_getElem (by omega)] at hi
    rw [sI i hil, ix_some xss (L[i]'(by omega)).isLt]
    exact hi
  have foot2 : ∀ r j, foot ρ' (Heap.look [(0, Blk.mat (sortS xss))]) r j -> r = 0 /\ (j = 0 \/ ∃ i, i < xss.length /\ j = i + 1 /\ foot ρ (Heap.look [(0, Blk.mat xss)]) 0 (σ i + 1)) := fun r j hf => by
    by_cases hr : r = 0
    · subst hr
      refine ⟨rfl, ?_⟩
      unfold foot at hf
      rw [hlook2] at hf
      rcases hf with ⟨rfl, _⟩ | ⟨i, row, rfl, hi, hne⟩
      · exact .inl rfl
      · obtain ⟨h1, h2⟩ := hrow2 i row hi
        rw [rI] at hne
        exact .inr ⟨i, h1, rfl, foot_row hlook h2 hne⟩
    · exfalso
      unfold foot at hf
      have : Heap.look [(0, Blk.mat (sortS xss))] r = none := by unfold Heap.look; rw [if_neg (Ne.symm hr)]; rfl
      rw [this] at hf
      exact hf
  have hrel2 : Rel x.own S ρ' (Heap.look [(0, Blk.mat (sortS xss))]) W' := by
    refine ⟨fun b c' hb => ?_, hrel.amb, fun r k hr => ?_, fun r j hf => ?_, fun r j r' j' h1 h2 e1 => ?_⟩
    · obtain ⟨el', fr', hb'⟩ := hrel.stab b c' hb
      have hne : b ≠ B := fun e => by rw [e, hSb] at hb; cases hb
      exact ⟨el', fr', by rw [hkeepW b (Array.getElem?_eq_some_iff.1 hb').1 hne]; exact hb'⟩
    · obtain ⟨rfl, rfl⟩ := look1 _ _ _ hr
      refine ⟨c1, fun _ => ⟨el, by rw [b0]; exact hBW⟩, by rw [hc1s]; exact hsz, by rw [hsl]; exact hcap, fun i row hi => ?_⟩
      obtain ⟨h1, h2⟩ := hrow2 i row hi
      have hr0 := hrow (L[i]'(by omega))
      have er : ix xss ((L[i]'(by omega)).val : Int) = row := by
        have := ix_some xss (L[i]'(by omega)).isLt
        rw [<- sI i h1, h2] at this
        rw [<- sI i h1]
        exact (Option.some.inj this).symm
      rw [er, <- sI i h1] at hr0
      refine ⟨⟨_, hc1 i h1, ?_⟩, fun hne => ?_⟩
      · obtain ⟨a1, k1, k2, k3⟩ := hr0.2
        refine ⟨a1, by rw [rI]; exact k1, by rw [rI]; exact k2, fun hne => ?_⟩
        rw [bI]
        rw [rI] at hne
        exact k3 hne
      · rw [rI] at hne ⊢
        rw [bI]
        obtain ⟨dd, hd1, hd2⟩ := (hrows (σ i) row h2).2 hne
        refine ⟨dd, ?_, hd2⟩
        obtain ⟨el', hd1⟩ := hd1
        have hfr := foot_row (ρ := ρ) hlook h2 hne
        have hneB : ρ.blk 0 (σ i + 1) ≠ B := fun e => by
          have := (hrel.sep 0 (σ i + 1) 0 0 hfr hfoot (by rw [hB]; exact e)).2
          omega
        exact ⟨el', by rw [hkeepW _ (hrel.foot_lt hfr) hneB]; exact hd1⟩
    · obtain ⟨rfl, rfl | ⟨i, h1, rfl, h2⟩⟩ := foot2 r j hf
      · rw [b0]; exact ⟨hownb, hSb⟩
      · rw [bI]; exact hrel.owned 0 _ h2
    · obtain ⟨rfl, g1⟩ := foot2 r j h1
      obtain ⟨rfl, g2⟩ := foot2 r' j' h2
      refine ⟨rfl, ?_⟩
      rcases g1 with rfl | ⟨i, i1, rfl, i2⟩ <;> rcases g2 with rfl | ⟨i', k1, rfl, k2⟩
      · rfl
      · rw [b0, bI] at e1
        have := (hrel.sep 0 0 0 (σ i' + 1) hfoot k2 (by rw [hB]; exact e1)).2
        omega
      · rw [b0, bI] at e1
        have := (hrel.sep 0 (σ i + 1) 0 0 i2 hfoot (by rw [hB]; exact e1)).2
        omega
      · rw [bI, bI] at e1
        have := (hrel.sep 0 (σ i + 1) 0 (σ i' + 1) i2 k2 e1).2
        rw [sInj i i' i1 k1 (by omega)]
  have hkept2 : Kept x.own x.W W' := by
    rw [<- hW]
    refine (hkept.write hownb c1).trans ⟨rfl, rfl, rfl, by show _ <= ((w.setRow B c1).heap ++ os).size; rw [Array.size_append]; omega, fun b hlt _ => ?_, fun _ => ?_⟩
    · show ((w.setRow B c1).heap ++ os)[b]? = _
      rw [Array.getElem?_append_left hlt]
    · show (w.setRow B c1).drawn <= w.drawn + q
      rw [setRow_drawn]; omega
  refine ⟨[(3, .mt 0)], [(0, .mat (sortS xss))], 1, hQ, S, ρ', s1, s2, hrel2, fun r hr => (by omega), fun t => ?_, hkept2, by rw [put_size, put_size]; exact hk, by rw [put_defers, put_defers]; exact hdf, fun r hr => ?_, by omega⟩
  · by_cases ht : t = 3
    · subst ht
      have e5 : ((a.put (some 17) (a.eval (.tmp 3))).put (some 18) (.tuple #[])).tmps.getD 3 Go.undef = a.tmps.getD 3 Go.undef := by
        show (((a.tmps.setIfInBounds 17 _).setIfInBounds 18 _)).getD 3 Go.undef = _
        rw [getD_put (by rw [Array.size_setIfInBounds, hk]; exact hd18), if_neg (by omega), getD_put (by rw [hk]; exact hd17), if_neg (by omega)]
      show V S ρ' _ (.mt 0) _
      rw [e5, ev3]
      have := V.mt (S := S) (ρ := ρ') (H := Heap.look [(0, Blk.mat (sortS xss))]) 0 (sortS xss) (some ⟨B, 0, none⟩) hlook2 (fun _ => by rw [b0])
      rw [hsl] at this
      exact this
    · have : Env.get [(3, AV.mt 0)] t = .undef := by simp [Env.get, Ne.symm ht]
      rw [this]
      exact .pure _ _ (.undef _)
  · cases hl : Heap.look [(0, Blk.mat (sortS xss))] r with
    | none => exact (hr hl).elim
    | some k => obtain ⟨rfl, _⟩ := look1 _ _ _ hl; omega
end Go.Proofs.Ytgcbdpehnonghaa
