/- Lists compared; lists of lists sorted by the library: the kit's contract, in the words of the abstract run. -/
import Derived.Test.YtgcbdpehnonghaaTy
import Derived.Test.YtgcbdpehnonghaaPlM
import Derived.Test.YtgcbdpehnonghaaShelf
namespace Go.Proofs.Ytgcbdpehnonghaa
open Go.Vc Go.RowKit Go.Sort
set_option maxRecDepth 100000
set_option linter.unusedSimpArgs false
set_option linter.unusedVariables false

def orL : List Int -> Int
  | [] => 0
  | x :: r => if x ≠ 0 then x else orL r
def g_nanC : List AV -> Prop × AV
  | [.int .i64 x] => (True, .bool false)
  | _ => (False, .undef)
theorem g_nanC_eq (x : Int) : g_nanC [.int .i64 x] = (True, .bool false) := (rfl)
theorem nanC_ok (x : Int) (hp : True) : SpecOK Try.prog 72 [.int .i64 x] (.bool false) [] := by
  refine fun_ok (C := []) (hint := hintX [] [] 0 [] [] [] []) (TabOK.nil _) mixed Try.func72 rfl (by kernel_rfl) rfl ?_
  show codeA _ _ _ _ _ _ _ _
  simp only [go_sem, Try.results72]
  try rfl
def t_nanC : Table := [(72, pureC g_nanC)]
theorem t_nanC_ok : TabOK Try.prog t_nanC := .cons Try.func72 (by kernel_rfl) (.pure (by intro args hp; unfold g_nanC at hp ⊢; split at hp <;> first | exact hp.elim | exact nanC_ok _ hp)) (.nil _)
attribute [go_sem] g_nanC_eq t_nanC
def g_cmpC : List AV -> Prop × AV
  | [.int .i64 x, .int .i64 y] => (True, .int .i64 (cmpZ x y))
  | _ => (False, .undef)
theorem g_cmpC_eq (x y : Int) : g_cmpC [.int .i64 x, .int .i64 y] = (True, .int .i64 (cmpZ x y)) := (rfl)
theorem cmpC_ok (x y : Int) (hp : True) : SpecOK Try.prog 60 [.int .i64 x, .int .i64 y] (.int .i64 (cmpZ x y)) [] := by
  refine fun_ok (C := t_nanC) (hint := hintX [] [] 0 [] [] [] []) (t_nanC_ok) mixed Try.func60 rfl (by kernel_rfl) rfl ?_
  show codeA _ _ _ _ _ _ _ _
  simp only [go_sem, Try.results60]
  refine fork_intro (fun h => ?_) (fun h => ?_)
  · rw [cmpZ, if_pos h]
  · refine fork_intro (fun k => ?_) (fun k => ?_)
    · rw [cmpZ, if_neg h, if_pos k]
    · rw [cmpZ, if_neg h, if_neg k]
def t_cmpC : Table := [(60, pureC g_cmpC)]
theorem t_cmpC_ok : TabOK Try.prog t_cmpC := .cons Try.func60 (by kernel_rfl) (.pure (by intro args hp; unfold g_cmpC at hp ⊢; split at hp <;> first | exact hp.elim | exact cmpC_ok _ _ hp)) (.nil _)
attribute [go_sem] g_cmpC_eq t_cmpC
def g_orC : List AV -> Prop × AV
  | [.ints xs] => (xs.length <= 1000, .int .i64 (orL xs))
  | _ => (False, .undef)
theorem g_orC_eq (xs : List Int) : g_orC [.ints xs] = (xs.length <= 1000, .int .i64 (orL xs)) := (rfl)
theorem orC_ok (xs : List Int) (hp : xs.length <= 1000) : SpecOK Try.prog 79 [.ints xs] (.int .i64 (orL xs)) [] := by
  refine fun_ok (C := []) (hint := hintX [] [] 0 [] [] [] []) (TabOK.nil _) mixed Try.func79 rfl (by kernel_rfl) rfl ?_
  show codeA _ _ _ _ _ _ _ _
  simp only [go_sem, Try.results79]
  refine loop_intro (fun k : Nat => [(8, .int .i64 k), (7, .int .i64 xs.length), (6, .ints xs), (3, .int .i64 0)]) (fun _ => []) 0 (fun k => k <= xs.length /\ orL (xs.drop k) = orL xs) (fun k => xs.length - k) 0 ⟨Nat.zero_le _, rfl⟩ (Nat.zero_le _) ?_ ?_
  · simp only [go_sem]
    repeat' (first | refine fork_intro (fun hb => ?_) (fun hb => ?_) | refine partB_intro (fun hb => ?_) (fun hb => ?_) | refine And.intro ?_ ?_)
    all_goals first | exact True.intro | omega | with_reducible rfl | exact congrArg (AV.int _) (by omega) | (first | rfl)
  · rintro k ⟨hk, ht⟩
    simp only [go_sem]
    refine fork_intro (fun hc => ?_) (fun hc => ?_)
    · rw [drop_ix xs (show k < xs.length by omega), orL] at ht
      refine ⟨by omega, fork_intro (fun hd => ?_) (fun hd => ?_)⟩
      · rw [if_neg (by omega)] at ht
        repeat' (first | refine fork_intro (fun hb => ?_) (fun hb => ?_) | refine partB_intro (fun hb => ?_) (fun hb => ?_) | refine And.intro ?_ ?_)
        all_goals first | exact True.intro | omega | with_reducible rfl | exact congrArg (AV.int _) (by omega) | (refine LoopEnd.intro (k + 1) (by first | omega | (first | exact ⟨by omega, ht⟩)) (by first | omega | (dsimp only; omega)) (by omega) ?_; simp only [go_sem]; (repeat' (first | refine fork_intro (fun hb => ?_) (fun hb => ?_) | refine partB_intro (fun hb => ?_) (fun hb => ?_) | refine And.intro ?_ ?_)); all_goals first | exact True.intro | omega | with_reducible rfl | exact congrArg (AV.int _) (by omega) | (first | rfl)) | (first | rfl)
      · rw [if_pos hd] at ht
        rw [<- ht]
    · rw [show k = xs.length by omega, List.drop_length] at ht
      rw [<- ht]; rfl
def t_orC : Table := [(79, pureC g_orC)]
theorem t_orC_ok : TabOK Try.prog t_orC := .cons Try.func79 (by kernel_rfl) (.pure (by intro args hp; unfold g_orC at hp ⊢; split at hp <;> first | exact hp.elim | exact orC_ok _ hp)) (.nil _)
attribute [go_sem] g_orC_eq t_orC
def g_cmpLC : List AV -> Prop × AV
  | [.ints xs, .ints ys] => (xs.length <= 1048576000 /\ ys.length <= 1048576000, .int .i64 (cmpL xs ys))
  | _ => (False, .undef)
theorem g_cmpLC_eq (xs ys : List Int) : g_cmpLC [.ints xs, .ints ys] = (xs.length <= 1048576000 /\ ys.length <= 1048576000, .int .i64 (cmpL xs ys)) := (rfl)
theorem cmpLC_ok (xs ys : List Int) (hp : xs.length <= 1048576000 /\ ys.length <= 1048576000) : SpecOK Try.prog 80 [.ints xs, .ints ys] (.int .i64 (cmpL xs ys)) [] := by
  refine fun_ok (C := t_cmpC) (hint := hintX [] [] 0 [] [] [] []) (t_cmpC_ok) mixed Try.func80 rfl (by kernel_rfl) rfl ?_
  show codeA _ _ _ _ _ _ _ _
  simp only [go_sem, Try.results80]
  refine loop_intro (fun k : Nat => [(11, .int .i64 k), (10, .int .i64 xs.length), (9, .ints xs), (0, .ints xs), (1, .ints ys)]) (fun _ => []) 0 (fun k => k <= xs.length /\ k <= ys.length /\ cmpL (xs.drop k) (ys.drop k) = cmpL xs ys) (fun k => xs.length - k) 0 ⟨Nat.zero_le _, Nat.zero_le _, rfl⟩ (Nat.zero_le _) ?_ ?_
  · simp only [go_sem]
    repeat' (first | refine fork_intro (fun hb => ?_) (fun hb => ?_) | refine partB_intro (fun hb => ?_) (fun hb => ?_) | refine And.intro ?_ ?_)
    all_goals first | exact True.intro | omega | with_reducible rfl | exact congrArg (AV.int _) (by omega) | (first | rfl)
  · rintro k ⟨hk, hy, ht⟩
    simp only [go_sem]
    refine fork_intro (fun hc => ?_) (fun hc => ?_)
    · rw [drop_ix xs (show k < xs.length by omega)] at ht
      refine ⟨by omega, fork_intro (fun hd => ?_) (fun hd => ?_)⟩
      · rw [show k = ys.length by omega, List.drop_length, cmpL] at ht
        rw [<- ht]
      · rw [drop_ix ys (show k < ys.length by omega), cmpL] at ht
        refine ⟨by omega, fork_intro (fun he => ?_) (fun he => ?_)⟩
        · rw [if_neg (by omega)] at ht
          repeat' (first | refine fork_intro (fun hb => ?_) (fun hb => ?_) | refine partB_intro (fun hb => ?_) (fun hb => ?_) | refine And.intro ?_ ?_)
          all_goals first | exact True.intro | omega | with_reducible rfl | exact congrArg (AV.int _) (by omega) | (refine LoopEnd.intro (k + 1) (by first | omega | (first | exact ⟨by omega, by omega, ht⟩)) (by first | omega | (dsimp only; omega)) (by omega) ?_; simp only [go_sem]; (repeat' (first | refine fork_intro (fun hb => ?_) (fun hb => ?_) | refine partB_intro (fun hb => ?_) (fun hb => ?_) | refine And.intro ?_ ?_)); all_goals first | exact True.intro | omega | with_reducible rfl | exact congrArg (AV.int _) (by omega) | (first | rfl)) | (first | rfl)
        · rw [if_pos he] at ht
          rw [<- ht]
    · rw [show k = xs.length by omega, List.drop_length] at ht
      refine fork_intro (fun hd => ?_) (fun hd => ?_)
      · rw [drop_ix ys (show xs.length < ys.length by omega), cmpL] at ht
        rw [<- ht]
      · rw [show xs.length = ys.length by omega, List.drop_length, cmpL] at ht
        rw [<- ht]
def t_cmpLC : Table := [(80, pureC g_cmpLC)]
theorem t_cmpLC_ok : TabOK Try.prog t_cmpLC := .cons Try.func80 (by kernel_rfl) (.pure (by intro args hp; unfold g_cmpLC at hp ⊢; split at hp <;> first | exact hp.elim | exact cmpLC_ok _ _ hp)) (.nil _)
attribute [go_sem] g_cmpLC_eq t_cmpLC
def g_cmpSC : List AV -> Prop × AV
  | [.ints xs, .ints ys] => (xs.length <= 1048576000 /\ ys.length <= 1048576000, .int .i64 (cmpS xs ys))
  | _ => (False, .undef)
theorem g_cmpSC_eq (xs ys : List Int) : g_cmpSC [.ints xs, .ints ys] = (xs.length <= 1048576000 /\ ys.length <= 1048576000, .int .i64 (cmpS xs ys)) := (rfl)
theorem cmpSC_ok (xs ys : List Int) (hp : xs.length <= 1048576000 /\ ys.length <= 1048576000) : SpecOK Try.prog 65 [.ints xs, .ints ys] (.int .i64 (cmpS xs ys)) [] := by
  refine fun_ok (C := t_cmpC ++ t_cmpLC ++ t_orC) (hint := hintX [] [] 0 [] [] [] []) (((t_cmpC_ok).append t_cmpLC_ok).append t_orC_ok) mixed Try.func65 rfl (by kernel_rfl) rfl ?_
  show codeA _ _ _ _ _ _ _ _
  simp only [go_sem, Try.results65]
  refine ⟨hp, ?_⟩
  congr 1
  unfold cmpS
  simp only [orL]
  split
  · rfl
  · split <;> omega
def t_cmpSC : Table := [(65, pureC g_cmpSC)]
theorem t_cmpSC_ok : TabOK Try.prog t_cmpSC := .cons Try.func65 (by kernel_rfl) (.pure (by intro args hp; unfold g_cmpSC at hp ⊢; split at hp <;> first | exact hp.elim | exact cmpSC_ok _ _ hp)) (.nil _)
attribute [go_sem] g_cmpSC_eq t_cmpSC

theorem kept_is_grow {W w' : World} (h : Kept (W.heap.size <= ·) W w') : ∃ q os, w' = Sort.grow (W.drewN q) os := by
  refine ⟨w'.drawn - W.drawn, w'.heap.extract W.heap.size w'.heap.size, ?_⟩
  have hd := h.drawn trivial
  have hh : w'.heap = W.heap ++ w'.heap.extract W.heap.size w'.heap.size := by
    apply Array.ext_getElem?
    intro k
    have hs := h.size
    by_cases hk : k < W.heap.size
    · rw [Array.getElem?_append_left hk]; exact h.block k hk (by omega)
    · rw [Array.getElem?_append_right (by omega), Array.getElem?_extract]
      by_cases hk2 : k < w'.heap.size
      · rw [if_pos (by omega)]; congr 1; omega
      · rw [if_neg (by omega), Array.getElem?_eq_none (by omega)]
  obtain ⟨h1, h2, h3, h4, h5⟩ := w'
  unfold Sort.grow World.drewN
  have e1 := h.os; have e2 := h.tape; have e3 := h.output
  simp only at hd hh e1 e2 e3 ⊢
  subst e1; subst e2; subst e3
  congr 1
  omega
theorem mapBlock_row {w : World} {b : Nat} {c : Array Value} {el : TypeId} {fr : Nat × Nat} (f : Array Value -> Array Value) (h : w.heap[b]? = some (.cells c el fr)) : Sort.mapBlock w b f = w.setRow b (f c) := by
  unfold Sort.mapBlock World.setRow
  congr 1
  apply Array.ext_getElem?
  intro k
  simp only [Array.getElem?_modify]
  by_cases hk : b = k
  · subst hk
    simp only [if_true, h, Option.map_some, Sort.onCells]
  · simp [hk]
theorem fin_map {α : Type} [Inhabited α] (xs : List α) : (List.finRange xs.length).map (fun i => ix xs (i.val : Int)) = xs := by
  apply List.ext_getElem
  · simp
  · intro i h1 h2
    have e := ix_some xs h2
    rw [List.getElem?_eq_getElem h2] at e
    simp [<- Option.some.inj e]
theorem sort_map {α : Type} (f : α -> List Int) (l : List α) : (l.mergeSort fun i j => leS (f i) (f j)).map f = (l.map f).mergeSort leS := List.map_mergeSort (fun _ _ _ _ => rfl)
theorem sort_fin (xss : List (List Int)) : ((List.finRange xss.length).mergeSort fun i j => leS (ix xss (i.val : Int)) (ix xss (j.val : Int))).map (fun i => ix xss (i.val : Int)) = sortS xss := by
  have h := sort_map (fun i : Fin xss.length => ix xss (i.val : Int)) (List.finRange xss.length)
  rw [fin_map] at h
  exact h
theorem look1 (k k' : Blk) (r : Nat) (h : Heap.look [(0, k)] r = some k') : r = 0 /\ k' = k := by
  unfold Heap.look at h
  split at h
  · rename_i e; cases h; exact ⟨e.symm, rfl⟩
  · cases h
def g_sortC : List AV -> Heap -> Prop × AV × Heap
  | [.sl 0, .fn 65 []], [(0, .arr (.rows xss))] => (0 < xss.length /\ xss.length <= 1000 /\ xss.Nodup /\ ∀ x ∈ xss, x.length <= 1048576000, .tup [], [(0, .arr (.rows (sortS xss)))])
  | _, _ => (False, .undef, [])
theorem g_sortC_eq (xss : List (List Int)) : g_sortC [.sl 0, .fn 65 []] [(0, .arr (.rows xss))] = (0 < xss.length /\ xss.length <= 1000 /\ xss.Nodup /\ ∀ x ∈ xss, x.length <= 1048576000, .tup [], [(0, .arr (.rows (sortS xss)))]) := (rfl)
theorem sortC_ok (xss : List (List Int)) (hp : 0 < xss.length /\ xss.length <= 1000 /\ xss.Nodup /\ ∀ x ∈ xss, x.length <= 1048576000) : SpecM Try.prog 64 [.sl 0, .fn 65 []] [(0, .arr (.rows xss))] 1 (.tup []) [(0, .arr (.rows (sortS xss)))] := by
  obtain ⟨hn0, hn1, hnd, hlen⟩ := hp
  have hsl : (sortS xss).length = xss.length := (sortS_perm xss).length_eq
  refine ⟨fun r k k' h1 h2 => ?_, ?_⟩
  · obtain ⟨rfl, rfl⟩ := look1 _ _ _ h1
    obtain ⟨_, rfl⟩ := look1 _ _ _ h2
    exact .arr _ _ (xss.map .ints) ((sortS xss).map .ints) 1 rfl rfl (by simp [hsl])
  intro own S ρ w cargs hown hrel hsz hargs
  obtain ⟨v0, v1, rfl⟩ : ∃ v0 v1, cargs = #[v0, v1] := by
    obtain ⟨l⟩ := cargs
    match l, hsz with
    | [a, b], _ => exact ⟨a, b, rfl⟩
  have hv0 := hargs 0 _ v0 rfl rfl
  have hv1 := hargs 1 _ v1 rfl rfl
  have hlook : Heap.look [(0, Blk.arr (AV.rows xss))] 0 = some (.arr (.rows xss)) := rfl
  obtain ⟨rfl⟩ : v1 = .func (.func 65) #[] #[] := by
    cases hv1 with
    | pure _ _ h => cases h with
      | fn f cs vs hl h => have : vs = #[] := Array.eq_empty_of_size_eq_zero hl; rw [this]
      | lst _ _ _ _ _ he => simp [AV.elems] at he
    | fn f cs vs hl h => have : vs = #[] := Array.eq_empty_of_size_eq_zero hl; rw [this]
  have hb := hrel.blk 0 _ hlook
  obtain ⟨ys, m, c, he, hc, hcs, hcap, hcm, harr⟩ := hb
  simp only [AV.elems, Option.some.injEq, Prod.mk.injEq] at he
  obtain ⟨rfl, rfl⟩ := he
  rw [List.length_map] at hcap
  have hcap0 : ρ.cap 0 ≠ 0 := by omega
  obtain ⟨el, hcell⟩ := hc hcap0
  have hfoot : foot ρ (Heap.look [(0, Blk.arr (AV.rows xss))]) 0 0 := foot_arr hlook hcap0
  obtain ⟨hownb, hSb⟩ := hrel.owned 0 0 hfoot
  have hv : v0 = .slice (some ⟨ρ.blk 0 0, 0, none⟩) xss.length (ρ.cap 0) := by
    cases hv0 with
    | pure _ _ h => cases h with
      | lst _ _ _ _ _ he => simp [AV.elems] at he
    | sl r v xs m a hr he ha =>
      rw [hlook] at hr; cases hr
      simp only [AV.elems, Option.some.injEq, Prod.mk.injEq] at he
      obtain ⟨rfl, rfl⟩ := he
      rw [ha hcap0, List.length_map]
  subst hv
  generalize hB : ρ.blk 0 0 = B at *
  have hBlt : B < w.heap.size := (Array.getElem?_eq_some_iff.1 hcell).1
  have hcsz : xss.length <= c.size := by rw [hcs]; omega
  haveI : Inhabited (Fin xss.length) := ⟨⟨0, hn0⟩⟩
  let enc : Fin xss.length -> Value := fun i => (c[i.val]?).getD (.slice none 0 0)
  have hsee : ∀ i : Fin xss.length, c[i.val]? = some (enc i) /\ Sees S (.ints (ix xss (i.val : Int))) (enc i) := fun i => by
    have e1 : (xss.map AV.ints)[i.val]? = some (.ints (ix xss (i.val : Int))) := by rw [List.getElem?_map, ix_some xss i.isLt]; rfl
    obtain ⟨cv, h1, h2⟩ := harr i.val _ 0 _ e1 rfl
    rw [Nat.mul_one, Nat.add_zero] at h1
    have : enc i = cv := by show (c[i.val]?).getD _ = cv; rw [h1]; rfl
    rw [this]; exact ⟨h1, h2⟩
  have hone : OneCell enc := fun i => by
    have h := (hsee i).2
    generalize enc i = u at h
    cases h with
    | lst => rfl
  let cf : Fin xss.length -> Fin xss.length -> Int := fun i j => cmpS (ix xss (i.val : Int)) (ix xss (j.val : Int))
  have hinj : ∀ i j : Fin xss.length, ix xss (i.val : Int) = ix xss (j.val : Int) -> i = j := fun i j e => by
    have e1 := ix_some xss i.isLt
    have e2 := ix_some xss j.isLt
    rw [e, <- e2] at e1
    exact Fin.ext ((List.getElem?_inj i.isLt hnd).1 e1)
  have hswo : SWO (ltOf cf) := by
    refine ⟨fun x => ?_, fun x y z h k => ?_, fun x y z h k => ?_⟩
    · unfold ltOf; exact decide_eq_false (by show ¬ cmpS _ _ < 0; rw [cmpS_self]; omega)
    · unfold ltOf at *
      exact decide_eq_true (cmpS_trans (of_decide_eq_true h) (of_decide_eq_true k))
    · unfold ltOf at *
      have h := of_decide_eq_false h
      have k := of_decide_eq_false k
      refine decide_eq_false (fun hxz => ?_)
      have h1 : leS (ix xss (y.val : Int)) (ix xss (x.val : Int)) = true := by unfold leS; simp only [Bool.not_eq_true', decide_eq_false_iff_not]; exact h
      have h2 : leS (ix xss (z.val : Int)) (ix xss (y.val : Int)) = true := by unfold leS; simp only [Bool.not_eq_true', decide_eq_false_iff_not]; exact k
      have h3 := leS_trans _ _ _ h2 h1
      unfold leS at h3
      simp only [Bool.not_eq_true', decide_eq_false_iff_not] at h3
      exact h3 hxz
  have htot : ∀ x y, (ltOf cf) x y = false -> (ltOf cf) y x = false -> x = y := fun x y h k => by
    unfold ltOf at *
    have h := of_decide_eq_false h
    have k := of_decide_eq_false k
    refine hinj x y (cmpS_zero ?_)
    have h' : ¬ cmpS (ix xss (x.val : Int)) (ix xss (y.val : Int)) < 0 := h
    have k' : ¬ cmpS (ix xss (y.val : Int)) (ix xss (x.val : Int)) < 0 := k
    have := cmpS_anti (ix xss (x.val : Int)) (ix xss (y.val : Int))
    omega
  let d : Array (Fin xss.length) := (List.finRange xss.length).toArray
  have hds : d.size = xss.length := by show (List.finRange xss.length).toArray.size = _; simp
  have hH : Holds enc w B 0 d := fun j hj => by
    have hj' : j < xss.length := by rw [<- hds]; exact hj
    have hdj : d[j]! = ⟨j, hj'⟩ := by
      rw [getElem!_pos d j hj]
      show (List.finRange xss.length).toArray[j] = _
      simp
    refine ⟨?_, OwnCells.frozen ⟨el, hcell⟩ _ _⟩
    rw [hdj, (OwnCells.cellsIn ⟨el, hcell⟩).cell, Nat.zero_add]
    exact (hsee ⟨j, hj'⟩).1
  have hstab : ∀ (mm : Nat) (os : Array Obj) (dk : Array (Fin xss.length)), StoreIn S (sortWorld enc w B 0 mm dk os) := fun mm os dk => by
    refine ⟨hrel.amb, fun b c' hb => ?_⟩
    obtain ⟨el', fr', hb'⟩ := hrel.stab b c' hb
    have hne : B ≠ b := fun e => by rw [e, hb] at hSb; cases hSb
    have hlt : b < w.heap.size := (Array.getElem?_eq_some_iff.1 hb').1
    refine ⟨el', fr', ?_⟩
    show ((Array.modify (Sort.ahead w mm).heap B _) ++ os)[b]? = _
    rw [Array.getElem?_append_left (by rw [Array.size_modify]; exact hlt), Array.getElem?_modify, if_neg hne]
    exact hb'
  have hcmp : CmpLays1 Try.prog 65 #[] enc cf B 0 d.size w := by
    intro mm os dk hdk x y
    have hsp := cmpSC_ok (ix xss (x.val : Int)) (ix xss (y.val : Int)) ⟨hlen _ (ix_mem xss x.isLt), hlen _ (ix_mem xss y.isLt)⟩
    refine (hsp S _ (#[enc x, enc y] ++ #[]) (hstab mm os dk) rfl (fun j z v hz hv => ?_)).mono ?_
    · rcases j with _ | _ | j <;> simp at hz hv
      · subst hz; subst hv; exact (hsee x).2
      · subst hz; subst hv; exact (hsee y).2
    · rintro e w' ⟨cv, S', ρ', rfl, _, _, _, hk, hv⟩
      rw [hv.int_inv]
      exact ⟨rfl, kept_is_grow hk⟩
  have heg : ∀ args w, (callFunc 65 args).run Try.prog w = .ok (.enter 65 args) w := enters_of Try.func65 (by kernel_rfl) rfl
  have hfin := Try.slices_SortFunc_total enc hone cf hswo 65 #[] B 0 (ρ.cap 0) d w heg hcmp hH hBlt (by rw [hds]; omega) htot
  rw [hds] at hfin
  refine hfin.mono ?_
  rintro e w' ⟨rfl, q, os, rfl⟩
  let L : List (Fin xss.length) := d.toList.mergeSort fun x y => !(ltOf cf) y x
  have hL : L.map (fun i => ix xss (i.val : Int)) = sortS xss := by
    have h := sort_fin xss
    exact h
  have hLl : L.length = xss.length := by show (List.mergeSort _ _).length = _; rw [List.length_mergeSort]; show (List.finRange xss.length).toArray.toList.length = _; simp
  let c1 : Array Value := Sort.putCells enc 0 L.toArray c
  have hc1s : c1.size = c.size := by show (Array.mapIdx _ c).size = _; simp
  have hc1 : ∀ i : Nat, (hi : i < xss.length) -> c1[i]? = some (enc (L[i]'(by omega))) := fun i hi => by
    show (Array.mapIdx _ c)[i]? = _
    rw [Array.getElem?_mapIdx, Array.getElem?_eq_getElem (by omega), Option.map_some]
    rw [if_pos ⟨Nat.zero_le _, by simp [hLl]; omega⟩, Nat.sub_zero, getElem!_pos L.toArray i (by simp [hLl]; omega)]
    simp
  have hw : sortWorld enc w B 0 q L.toArray os = Sort.grow ({ w.setRow B c1 with drawn := w.drawn + q }) os := by
    show Sort.grow (Sort.mapBlock (Sort.ahead w q) B _) os = _
    rw [mapBlock_row (w := Sort.ahead w q) (c := c) (el := el) (fr := (0, 0)) _ hcell]
    rfl
  rw [show (d.toList.mergeSort fun x y => !(ltOf cf) y x).toArray = L.toArray from rfl, hw]
  have hlook2 : Heap.look [(0, Blk.arr (AV.rows (sortS xss)))] 0 = some (.arr (.rows (sortS xss))) := rfl
  have hB' : ρ.blk 0 0 = B := hB
  have hrel2 : Rel own S ρ (Heap.look [(0, Blk.arr (AV.rows (sortS xss)))]) (w.setRow B c1) := by
    rw [<- hB']
    refine hrel.write (k' := .arr (.rows (sortS xss))) hlook hfoot hlook2 (fun r hr => ?_) (.arr _ _ (xss.map .ints) ((sortS xss).map .ints) 1 rfl rfl (by simp [hsl])) c1 ?_
    · unfold Heap.look; rw [if_neg (Ne.symm hr), if_neg (Ne.symm hr)]
    · refine ⟨(sortS xss).map .ints, 1, c1, rfl, fun _ => ⟨el, ?_⟩, by rw [hc1s]; exact hcs, by rw [List.length_map, hsl]; exact hcap, fun x hx => by obtain ⟨y, _, rfl⟩ := List.mem_map.1 hx; rfl, fun i x j y hx hy => ?_⟩
      · rw [hB']; exact setRow_heap w B c c1 el (0, 0) hcell
      · have hi : i < xss.length := by have := (List.getElem?_eq_some_iff.1 hx).1; rw [List.length_map, hsl] at this; exact this
        have e1 : x = .ints (ix xss ((L[i]'(by omega)).val : Int)) := by
          rw [<- hL, List.map_map, List.getElem?_map, List.getElem?_eq_getElem (by omega)] at hx
          exact (Option.some.inj hx).symm
        subst e1
        rcases j with _ | j
        · simp [AV.cells] at hy
          subst hy
          rw [Nat.mul_one, Nat.add_zero]
          exact ⟨_, hc1 i hi, (hsee _).2⟩
        · simp [AV.cells] at hy
  have hmono : ∀ (b : Nat) o, (w.setRow B c1).heap[b]? = some o -> (Sort.grow ({ w.setRow B c1 with drawn := w.drawn + q }) os).heap[b]? = some o := fun b o h => by
    show ((w.setRow B c1).heap ++ os)[b]? = _
    rw [Array.getElem?_append_left (Array.getElem?_eq_some_iff.1 h).1]; exact h
  refine ⟨_, S, ρ, rfl, hrel2.world hmono, fun _ _ h => h, fun b h1 h2 => absurd h1 h2, ?_, .tup _ _ rfl (fun j x v hx _ => by simp at hx), fun r _ _ => ⟨fun _ => rfl, rfl, fun _ => rfl⟩⟩
  refine ((Kept.refl own w).write hownb c1).trans ⟨rfl, rfl, rfl, by show _ <= ((w.setRow B c1).heap ++ os).size; rw [Array.size_append]; omega, fun b hlt _ => ?_, fun _ => ?_⟩
  · show ((w.setRow B c1).heap ++ os)[b]? = _
    rw [Array.getElem?_append_left hlt]
  · show (w.setRow B c1).drawn <= w.drawn + q
    rw [setRow_drawn]; omega
def t_sortC : Table := [(64, mutC 1 g_sortC)]
theorem t_sortC_ok : TabOK Try.prog t_sortC := .cons Try.func64 (by kernel_rfl) (.mut (by intro args pre _ hp; unfold g_sortC at hp ⊢; split at hp <;> first | exact hp.elim | exact sortC_ok _ hp)) (.nil _)
attribute [go_sem] g_sortC_eq t_sortC
end Go.Proofs.Ytgcbdpehnonghaa
