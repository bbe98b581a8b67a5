/- Clients by their lengths to a site; reached clients struck: the library's functions in the words of the abstract run. -/
import Derived.Test.YtgcbdpehnonghaaXU
import Derived.Test.YtgcbdpehnonghaaXS
import Derived.Test.YtgcbdpehnonghaaPl
import Derived.Test.YtgcbdpehnonghaaShelf
namespace Go.Proofs.Ytgcbdpehnonghaa
open Go.Vc Go.RowKit Go.Sort
set_option maxRecDepth 100000
set_option maxHeartbeats 1600000
set_option linter.unusedSimpArgs false
set_option linter.unusedVariables false
/-- The lengths of all clients to a site. -/
def colT (d : List (List Int)) (s : Int) : List Int := d.map fun r => ix r s
theorem colT_ix (d : List (List Int)) (s : Int) {x : Nat} (h : x < d.length) : ix (colT d s) (x : Int) = ix (ix d (x : Int)) s := ix_map _ _ h
def g_insC : List AV -> Heap -> Prop × AV × Heap
  | [.sl 0, .int .i64 a, .int .i64 n, .fn 59 [.iptr [.ints o, .rows d], .iptr [.int .i64 s]]], [(0, .arr (.ints xs))] => ((xs.length <= 7 /\ a = 0 /\ n = xs.length) /\ FieldOK o d /\ (0 <= s /\ s < o.length) /\ ∀ x ∈ xs, 0 <= x /\ x < d.length, .tup [], [(0, .arr (.ints (insF (ltT (colT d s)) xs)))])
  | _, _ => (False, .undef, [])
theorem g_insC_eq (xs : List Int) (a n : Int) (o : List Int) (d : List (List Int)) (s : Int) : g_insC [.sl 0, .int .i64 a, .int .i64 n, .fn 59 [.iptr [.ints o, .rows d], .iptr [.int .i64 s]]] [(0, .arr (.ints xs))] = ((xs.length <= 7 /\ a = 0 /\ n = xs.length) /\ FieldOK o d /\ (0 <= s /\ s < o.length) /\ ∀ x ∈ xs, 0 <= x /\ x < d.length, .tup [], [(0, .arr (.ints (insF (ltT (colT d s)) xs)))]) := (rfl)
theorem insC_ok (xs : List Int) (a n : Int) (o : List Int) (d : List (List Int)) (s : Int) (hp : (xs.length <= 7 /\ a = 0 /\ n = xs.length) /\ FieldOK o d /\ (0 <= s /\ s < o.length) /\ ∀ x ∈ xs, 0 <= x /\ x < d.length) : SpecM Try.prog 83 [.sl 0, .int .i64 a, .int .i64 n, .fn 59 [.iptr [.ints o, .rows d], .iptr [.int .i64 s]]] [(0, .arr (.ints xs))] 1 (.tup []) [(0, .arr (.ints (insF (ltT (colT d s)) xs)))] := by
  obtain ⟨⟨h7, rfl, rfl⟩, hF, ⟨hs0, hs1⟩, hxs⟩ := hp
  obtain ⟨s, rfl⟩ : ∃ k : Nat, s = k := ⟨s.toNat, by omega⟩
  have hn7 := hF.n7
  have hm7 := hF.m7
  refine rowM (insF_len _ _) (fun S ρ w a cap vs hst hvl hvs => ?_)
  obtain ⟨v1, v2, v3, rfl⟩ : ∃ v1 v2 v3, vs = [v1, v2, v3] := by
    match vs, hvl with
    | [a, b, c], _ => exact ⟨a, b, c, rfl⟩
  obtain rfl := (hvs 0 _ v1 rfl rfl).int_inv
  obtain rfl := (hvs 1 _ v2 rfl rfl).int_inv
  obtain ⟨us, rfl, hus, hcaps⟩ := (hvs 2 _ v3 rfl rfl).fn_inv
  obtain ⟨u, u2, rfl⟩ : ∃ u u2, us = #[u, u2] := by
    obtain ⟨l⟩ := us
    match l, hus with
    | [a, b], _ => exact ⟨a, b, rfl⟩
  obtain ⟨bb, off, cb, rfl, hSbb, hcb⟩ := (hcaps 0 _ u rfl rfl).iptr_inv
  obtain ⟨ab, ao, ca, rfl, hSab, hca⟩ := (hcaps 1 _ u2 rfl rfl).iptr_inv
  obtain ⟨ut, hct, hst1⟩ := hcb 1 _ rfl
  obtain ⟨ua, hca0, hsta⟩ := hca 0 _ rfl
  obtain rfl := (V.pure (ρ := ρ) (H := fun _ => none) _ _ hsta).int_inv
  refine ⟨fun h0 => ?_, fun g el sz ha hS hR => ?_⟩
  · rw [h0]; exact insCW0 a cap _ w
  · subst ha
    refine insCW (colT d s) _ _ g cap el sz xs w (fun x => 0 <= x /\ x < d.length) (fun q hq => hxs _ (ix_mem xs hq)) (fun wr hwr x y hx hy => ?_) hR h7
    cases hst1 with
    | lst _ zs m ta tcap he hcap tb to tc vals hrow hm hc hs =>
      simp only [AV.elems, Option.some.injEq, Prod.mk.injEq] at he
      obtain ⟨rfl, rfl⟩ := he
      obtain ⟨x, rfl⟩ : ∃ k : Nat, x = k := ⟨x.toNat, by omega⟩
      obtain ⟨y, rfl⟩ : ∃ k : Nat, y = k := ⟨y.toNat, by omega⟩
      obtain ⟨rfl, hStb⟩ := hrow (by intro h; have := congrArg List.length h; simp at this; subst this; simp at hx; omega)
      have hbg : ∀ {b c}, S b = some c -> b ≠ g := fun h e => by rw [e, hS] at h; cases h
      rw [List.length_map] at hct
      have hin : ∀ b c, S b = some c -> CellsIn wr b c := fun b c h1 => by
        obtain ⟨el', fr', h⟩ := hst b c h1
        exact ⟨el', fr', by rw [hwr b (hbg h1)]; exact h⟩
      rw [colT_ix d _ (show x < d.length by omega), colT_ix d _ (show y < d.length by omega)]
      refine cmpTW bb off ab ao tb to tcap d o.length s wr x y (by omega) (by omega) hF.len (by omega) (by omega) (by omega) ?_ ?_ (fun q hq => ?_)
      · rw [(hin bb cb hSbb).cell]; simpa using hct
      · rw [(hin ab ca hSab).cell]; simpa using hca0
      · have e1 : (d.map AV.ints)[q]? = some (.ints (ix d (q : Int))) := by rw [List.getElem?_map, ix_some d hq]; rfl
        have h1 := hc q _ 0 _ e1 rfl
        have h2 := hs q _ 0 _ e1 rfl
        generalize vals q 0 = cv at h1 h2
        have hl := hF.len _ (ix_mem d hq)
        cases h2 with
        | lst _ zs2 m2 ra rcap he2 hcap2 rb ro rc vals2 hrow2 hm2 hc2 hs2 =>
          simp only [AV.elems, Option.some.injEq, Prod.mk.injEq] at he2
          obtain ⟨rfl, rfl⟩ := he2
          obtain ⟨rfl, hSrb⟩ := hrow2 (by intro h; have := congrArg List.length h; simp at this; rw [this] at hl; simp at hl; omega)
          refine ⟨rb, ro, rcap, ?_, ?_⟩
          · rw [(hin tb tc hStb).cell]
            rw [List.length_map, hl] at h1
            simpa using h1
          · rw [(hin rb rc hSrb).cell]
            have e2 : ((ix d (q : Int)).map (AV.int .i64))[s]? = some (.int .i64 (ix (ix d (q : Int)) (s : Int))) := by rw [List.getElem?_map, ix_some _ (by omega)]; rfl
            have g1 := hc2 s _ 0 _ e2 rfl
            have g2 := hs2 s _ 0 _ e2 rfl
            have g3 := (V.pure (S := S) (ρ := ρ) (H := fun _ => none) _ _ g2).int_inv
            rw [g3] at g1
            simpa using g1
def t_insC : Table := [(83, mutC 1 g_insC)]
theorem t_insC_ok : TabOK Try.prog t_insC := .cons Try.func83 (by kernel_rfl) (.mut (by intro args pre _ hp; unfold g_insC at hp ⊢; split at hp <;> first | exact hp.elim | exact insC_ok _ _ _ _ _ _ hp)) (.nil _)
attribute [go_sem] g_insC_eq t_insC
def g_stabC : List AV -> Heap -> Prop × AV × Heap
  | [.sl 0, .int .i64 n, .fn 59 [.iptr [.ints o, .rows d], .iptr [.int .i64 s]]], [(0, .arr (.ints xs))] => ((xs.length <= 7 /\ n = xs.length) /\ FieldOK o d /\ (0 <= s /\ s < o.length) /\ ∀ x ∈ xs, 0 <= x /\ x < d.length, .tup [], [(0, .arr (.ints (insF (ltT (colT d s)) xs)))])
  | _, _ => (False, .undef, [])
theorem g_stabC_eq (xs : List Int) (n : Int) (o : List Int) (d : List (List Int)) (s : Int) : g_stabC [.sl 0, .int .i64 n, .fn 59 [.iptr [.ints o, .rows d], .iptr [.int .i64 s]]] [(0, .arr (.ints xs))] = ((xs.length <= 7 /\ n = xs.length) /\ FieldOK o d /\ (0 <= s /\ s < o.length) /\ ∀ x ∈ xs, 0 <= x /\ x < d.length, .tup [], [(0, .arr (.ints (insF (ltT (colT d s)) xs)))]) := (rfl)
theorem stabC_ok (xs : List Int) (n : Int) (o : List Int) (d : List (List Int)) (s : Int) (hp : (xs.length <= 7 /\ n = xs.length) /\ FieldOK o d /\ (0 <= s /\ s < o.length) /\ ∀ x ∈ xs, 0 <= x /\ x < d.length) : SpecM Try.prog 71 [.sl 0, .int .i64 n, .fn 59 [.iptr [.ints o, .rows d], .iptr [.int .i64 s]]] [(0, .arr (.ints xs))] 1 (.tup []) [(0, .arr (.ints (insF (ltT (colT d s)) xs)))] := by
  refine fun_okM (C := t_insC) (hint := hintX [] [] 1 [83] [] [] []) (t_insC_ok) mixed Try.func71 rfl (by kernel_rfl) rfl (Nat.le_refl _) (upTo_look rfl) (shapes ?_) ?_
  · exact ⟨fun k' h => by cases h; exact ss_ints (insF_len _ _).symm, trivial⟩
  show codeA _ _ _ _ _ _ _ _
  simp only [go_sem, Try.results71]
  obtain ⟨⟨h7, rfl⟩, hF, hs, hx⟩ := hp
  refine loop_intro (fun _ : Unit => [(6, .int .i64 20), (7, .int .i64 0), (8, .int .i64 20), (0, .sl 0), (1, .int .i64 xs.length), (2, .fn 59 [.iptr [.ints o, .rows d], .iptr [.int .i64 s]])]) (fun _ => [(0, .arr (.ints xs))]) 1 (fun _ => True) (fun _ => 0) () trivial (by omega) ?_ ?_
  · simp only [go_sem]
    repeat' (first | refine fork_intro (fun hb => ?_) (fun hb => ?_) | refine partB_intro (fun hb => ?_) (fun hb => ?_) | refine And.intro ?_ ?_)
    all_goals first | exact True.intro | omega | with_reducible rfl | exact congrArg (AV.int _) (by omega) | (first | rfl)
  · intro _ _
    simp only [go_sem]
    refine fork_intro (fun h => by omega) (fun _ => ?_)
    refine ⟨⟨h7, hF, hs, hx⟩, ?_⟩
    refine loop_intro (fun _ : Unit => [(6, .int .i64 20), (0, .sl 0), (1, .int .i64 xs.length), (2, .fn 59 [.iptr [.ints o, .rows d], .iptr [.int .i64 s]])]) (fun _ => [(0, .arr (.ints (insF (ltT (colT d s)) xs)))]) 1 (fun _ => True) (fun _ => 0) () trivial (by omega) ?_ ?_
    · simp only [go_sem]
      repeat' (first | refine fork_intro (fun hb => ?_) (fun hb => ?_) | refine partB_intro (fun hb => ?_) (fun hb => ?_) | refine And.intro ?_ ?_)
      all_goals first | exact True.intro | omega | with_reducible rfl | exact congrArg (AV.int _) (by omega) | (first | rfl)
    · intro _ _
      simp only [go_sem]
      refine fork_intro (fun h => by omega) (fun _ => ?_)
      repeat' (first | refine fork_intro (fun hb => ?_) (fun hb => ?_) | refine partB_intro (fun hb => ?_) (fun hb => ?_) | refine And.intro ?_ ?_)
      all_goals first | exact True.intro | omega | with_reducible rfl | exact congrArg (AV.int _) (by omega) | (first | rfl)
def t_stabC : Table := [(71, mutC 1 g_stabC)]
theorem t_stabC_ok : TabOK Try.prog t_stabC := .cons Try.func71 (by kernel_rfl) (.mut (by intro args pre _ hp; unfold g_stabC at hp ⊢; split at hp <;> first | exact hp.elim | exact stabC_ok _ _ _ _ _ hp)) (.nil _)
attribute [go_sem] g_stabC_eq t_stabC
def g_stabI : List AV -> Heap -> Prop × AV × Heap
  | [.sl 0, .fn 59 [.iptr [.ints o, .rows d], .iptr [.int .i64 s]]], [(0, .arr (.ints xs))] => (xs.length <= 7 /\ FieldOK o d /\ (0 <= s /\ s < o.length) /\ ∀ x ∈ xs, 0 <= x /\ x < d.length, .tup [], [(0, .arr (.ints (insF (ltT (colT d s)) xs)))])
  | _, _ => (False, .undef, [])
theorem g_stabI_eq (xs : List Int) (o : List Int) (d : List (List Int)) (s : Int) : g_stabI [.sl 0, .fn 59 [.iptr [.ints o, .rows d], .iptr [.int .i64 s]]] [(0, .arr (.ints xs))] = (xs.length <= 7 /\ FieldOK o d /\ (0 <= s /\ s < o.length) /\ ∀ x ∈ xs, 0 <= x /\ x < d.length, .tup [], [(0, .arr (.ints (insF (ltT (colT d s)) xs)))]) := (rfl)
theorem stabI_ok (xs : List Int) (o : List Int) (d : List (List Int)) (s : Int) (hp : xs.length <= 7 /\ FieldOK o d /\ (0 <= s /\ s < o.length) /\ ∀ x ∈ xs, 0 <= x /\ x < d.length) : SpecM Try.prog 58 [.sl 0, .fn 59 [.iptr [.ints o, .rows d], .iptr [.int .i64 s]]] [(0, .arr (.ints xs))] 1 (.tup []) [(0, .arr (.ints (insF (ltT (colT d s)) xs)))] := by
  refine fun_okM (C := t_stabC) (hint := hintX [] [] 1 [71] [] [] []) (t_stabC_ok) mixed Try.func58 rfl (by kernel_rfl) rfl (Nat.le_refl _) (upTo_look rfl) (shapes ?_) ?_
  · exact ⟨fun k' h => by cases h; exact ss_ints (insF_len _ _).symm, trivial⟩
  show codeA _ _ _ _ _ _ _ _
  simp only [go_sem, Try.results58]
  obtain ⟨h7, hF, hs, hx⟩ := hp
  repeat' (first | refine fork_intro (fun hb => ?_) (fun hb => ?_) | refine partB_intro (fun hb => ?_) (fun hb => ?_) | refine And.intro ?_ ?_)
  all_goals first | exact True.intro | omega | with_reducible rfl | exact congrArg (AV.int _) (by omega) | (first | exact hF | exact hx | rfl)
def t_stabI : Table := [(58, mutC 1 g_stabI)]
theorem t_stabI_ok : TabOK Try.prog t_stabI := .cons Try.func58 (by kernel_rfl) (.mut (by intro args pre _ hp; unfold g_stabI at hp ⊢; split at hp <;> first | exact hp.elim | exact stabI_ok _ _ _ _ hp)) (.nil _)
attribute [go_sem] g_stabI_eq t_stabI
theorem giveC (r : List Int) (x : Int) (W : World) (bb off tb to tcap : Nat) (hr : r.length <= 1000) (h1 : W.cell? ⟨bb, off, none⟩ = some (.slice (some ⟨tb, to, none⟩) r.length tcap)) (h2 : ∀ j, j < r.length -> W.cell? ⟨tb, to + j, none⟩ = some (.int .i64 (r.getD j 0))) :
    FnGives Try.prog 34 #[.pointer (some ⟨bb, off, none⟩)] #[.int .i64 x] (.bool (decide (x ∈ r))) W := by
  show Calls Try.prog 34 #[.int .i64 x, .pointer (some ⟨bb, off, none⟩)] W _
  have c := fun x w hc => Try.slices_Contains_int tb to r.length tcap r x w (Nat.le_refl _) (by omega) hc
  have hc : ∀ args w, (callFunc 35 args).run Try.prog w = .ok (.enter 35 args) w := enters_of Try.func35 (by kernel_rfl) rfl
  go_enter Try.func34, Try.ntmps34
  go_wp2_with (go_at_call 35; refine (c _ _ h2).mono ?_; rintro e w' ⟨rfl, hw⟩; rw [hw])
  go_ret
  exact ⟨rfl, 0, rfl⟩
def g_delC : List AV -> Heap -> Prop × AV × Heap
  | [.sl 0, .fn 34 [.iptr [.ints r]]], [(0, .arr (.ints xs))] => ((0 < xs.length /\ xs.length <= 1000) /\ 0 < r.length /\ r.length <= 1000, .sl 1, [(1, .arr (.ints (xs.filter fun x => decide (x ∉ r))))])
  | _, _ => (False, .undef, [])
theorem g_delC_eq (xs r : List Int) : g_delC [.sl 0, .fn 34 [.iptr [.ints r]]] [(0, .arr (.ints xs))] = ((0 < xs.length /\ xs.length <= 1000) /\ 0 < r.length /\ r.length <= 1000, .sl 1, [(1, .arr (.ints (xs.filter fun x => decide (x ∉ r))))]) := (rfl)
theorem delC_ok (xs r : List Int) (hp : (0 < xs.length /\ xs.length <= 1000) /\ 0 < r.length /\ r.length <= 1000) : SpecM Try.prog 33 [.sl 0, .fn 34 [.iptr [.ints r]]] [(0, .arr (.ints xs))] 1 (.sl 1) [(1, .arr (.ints (xs.filter fun x => decide (x ∉ r))))] := by
  obtain ⟨⟨hn0, hn1⟩, hr0, hr1⟩ := hp
  generalize hys : (xs.filter fun x => decide (x ∉ r)) = ys
  refine ⟨fun r k k' h1 h2 => ?_, ?_⟩
  · obtain ⟨rfl, rfl⟩ := look1 _ _ _ h1
    have : Heap.look [((1 : Nat), Blk.arr (AV.ints ys))] 0 = none := rfl
    rw [this] at h2; cases h2
  intro own S ρ w cargs hown hrel hsz hargs
  obtain ⟨v0, v1, rfl⟩ : ∃ v0 v1, cargs = #[v0, v1] := by
    obtain ⟨l⟩ := cargs
    match l, hsz with
    | [a, b], _ => exact ⟨a, b, rfl⟩
  have hv0 := hargs 0 _ v0 rfl rfl
  have hv1 := hargs 1 _ v1 rfl rfl
  have hlook : Heap.look [(0, Blk.arr (AV.ints xs))] 0 = some (.arr (.ints xs)) := rfl
  obtain ⟨us, rfl, hus, hcaps⟩ := hv1.fn_inv
  obtain ⟨u, rfl⟩ : ∃ u, us = #[u] := by
    obtain ⟨l⟩ := us
    match l, hus with
    | [a], _ => exact ⟨a, rfl⟩
  obtain ⟨bb, off, cb, rfl, hSbb, hcb⟩ := (hcaps 0 _ u rfl rfl).iptr_inv
  obtain ⟨uk, hck, hsk⟩ := hcb 0 _ rfl
  have hb := hrel.blk 0 _ hlook
  obtain ⟨zs, m, c, he, hc, hcs, hcap, hcm, harr⟩ := hb
  simp only [AV.elems, Option.some.injEq, Prod.mk.injEq] at he
  obtain ⟨rfl, rfl⟩ := he
  rw [List.length_map] at hcap
  have hcap0 : ρ.cap 0 ≠ 0 := by omega
  obtain ⟨el, hcell⟩ := hc hcap0
  have hfoot : foot ρ (Heap.look [(0, Blk.arr (AV.ints xs))]) 0 0 := foot_arr hlook hcap0
  obtain ⟨hownb, hSb⟩ := hrel.owned 0 0 hfoot
  have hv : v0 = .slice (some ⟨ρ.blk 0 0, 0, none⟩) xs.length (ρ.cap 0) := by
    obtain ⟨v, zs, m, a, e1, e2, e3, e4⟩ := hv0.sl_inv
    rw [hlook] at e2; cases e2
    simp only [AV.elems, Option.some.injEq, Prod.mk.injEq] at e3
    obtain ⟨rfl, rfl⟩ := e3
    rw [e1, e4 hcap0, List.length_map]
  subst hv
  generalize hB : ρ.blk 0 0 = B at *
  have hBlt : B < w.heap.size := (Array.getElem?_eq_some_iff.1 hcell).1
  have hcsz : xs.length <= c.size := by rw [hcs]; omega
  have hne : ∀ {b cc}, S b = some cc -> b ≠ B := fun h e => by rw [e, hSb] at h; cases h
  have hlt : ∀ {b cc}, S b = some cc -> b < w.heap.size := fun {b cc} h => by obtain ⟨el', fr', h⟩ := hrel.stab b cc h; exact (Array.getElem?_eq_some_iff.1 h).1
  cases hsk with
  | lst _ zr m ta tcap he hcapr tb to tc vals hrow hm hcr hsr =>
  simp only [AV.elems, Option.some.injEq, Prod.mk.injEq] at he
  obtain ⟨rfl, rfl⟩ := he
  obtain ⟨rfl, hStb⟩ := hrow (by intro h; have := congrArg List.length h; simp at this; rw [this] at hr0; simp at hr0)
  rw [List.length_map] at hck
  have hcell1 : w.cell? ⟨bb, off, none⟩ = some (.slice (some ⟨tb, to, none⟩) r.length tcap) := by rw [(hrel.stab bb cb hSbb).cell]; simpa using hck
  have hcell2 : ∀ j, j < r.length -> w.cell? ⟨tb, to + j, none⟩ = some (.int .i64 (r.getD j 0)) := fun j hj => by
    rw [(hrel.stab tb tc hStb).cell]
    have e1 : (r.map (AV.int .i64))[j]? = some (.int .i64 (ix r (j : Int))) := by rw [List.getElem?_map, ix_some r hj]; rfl
    have g1 := hcr j _ 0 _ e1 rfl
    have g2 := hsr j _ 0 _ e1 rfl
    have g3 := (V.pure (S := S) (ρ := ρ) (H := fun _ => none) _ _ g2).int_inv
    rw [g3] at g1
    have e2 : r.getD j 0 = ix r (j : Int) := by rw [List.getD_eq_getElem?_getD, ix_some r hj]; rfl
    rw [e2]
    simpa using g1
  let enc : Int -> Value := fun n => .int .i64 n
  have hone : OneCell enc := fun i => rfl
  let p : Int -> Bool := fun x => decide (x ∈ r)
  have gives : ∀ W : World, (∀ b, b ≠ B -> b < w.heap.size -> ∀ o, W.cell? ⟨b, o, none⟩ = w.cell? ⟨b, o, none⟩) -> ∀ x, FnGives Try.prog 34 #[.pointer (some ⟨bb, off, none⟩)] #[enc x] (.bool (p x)) W := fun W hW x =>
    giveC r x W bb off tb to tcap hr1 ((hW bb (hne hSbb) (hlt hSbb) off).trans hcell1) (fun j hj => (hW tb (hne hStb) (hlt hStb) (to + j)).trans (hcell2 j hj))
  let d : Array Int := xs.toArray
  have hds : d.size = xs.length := rfl
  have hH : Holds enc w B 0 d := fun j hj => by
    have hj' : j < xs.length := hj
    have hdj : d[j]! = ix xs (j : Int) := by
      have e := ix_some xs hj'
      rw [getElem!_pos d j hj]
      show xs[j] = _
      rw [List.getElem?_eq_getElem hj'] at e
      exact Option.some.inj e
    refine ⟨?_, OwnCells.frozen ⟨el, hcell⟩ _ _⟩
    rw [hdj, (OwnCells.cellsIn ⟨el, hcell⟩).cell, Nat.zero_add]
    have e1 : (xs.map (AV.int .i64))[j]? = some (.int .i64 (ix xs (j : Int))) := by rw [List.getElem?_map, ix_some xs hj']; rfl
    obtain ⟨cv, h1, h2⟩ := harr j _ 0 _ e1 rfl
    have h3 := (V.pure (S := S) (ρ := ρ) (H := fun _ => none) _ _ h2).int_inv
    rw [h3, Nat.mul_one, Nat.add_zero] at h1
    exact h1
  have heg : ∀ args w, (callFunc 34 args).run Try.prog w = .ok (.enter 34 args) w := enters_of Try.func34 (by kernel_rfl) rfl
  have hfin := Try.slices_DeleteFunc enc hone p 34 #[.pointer (some ⟨bb, off, none⟩)] heg 0 Try.zeroValue3 B 0 (ρ.cap 0) d w
    (fun W x hb => gives W (fun b _ hb2 o => hb.cell (p := ⟨b, o, none⟩) hb2) x)
    (fun n os dk x _ => gives _ (fun b hb hb2 o => by
      unfold sortWorld
      rw [cell?_grow _ _ _ (by show b < (putRow _ _ _ _ _).heap.size; rw [size_putRow]; exact hb2), cell?_putRow_other _ _ B 0 _ _ (Or.inl hb)]
      rfl) x) hH (by omega) (by omega)
  rw [hds] at hfin
  have hLy : (d.toList.filter fun x => !p x) = ys := by
    rw [<- hys]
    show xs.filter _ = _
    refine List.filter_congr (fun x _ => ?_)
    show (!decide (x ∈ r)) = decide (x ∉ r)
    rw [<- decide_not]
  rw [hLy] at hfin
  have hyn : ys.length <= xs.length := by rw [<- hys]; exact List.length_filter_le _ _
  refine hfin.mono ?_
  rintro e w' ⟨rfl, q, rfl⟩
  let A : Array Int := (ys ++ List.replicate (xs.length - ys.length) 0).toArray
  let c1 : Array Value := Sort.putCells enc 0 A c
  have hc1s : c1.size = c.size := by show (Array.mapIdx _ c).size = _; simp
  have hAs : A.size = xs.length := by show (ys ++ List.replicate _ _).toArray.size = _; simp; omega
  have hc1 : ∀ i : Nat, (hi : i < ys.length) -> c1[i]? = some (.int .i64 (ix ys (i : Int))) := fun i hi => by
    show (Array.mapIdx _ c)[i]? = _
    rw [Array.getElem?_mapIdx, Array.getElem?_eq_getElem (by omega), Option.map_some]
    rw [if_pos ⟨Nat.zero_le _, by omega⟩, Nat.sub_zero, getElem!_pos A i (by omega)]
    show some (enc ((ys ++ List.replicate _ _).toArray[i]'_)) = _
    rw [List.getElem_toArray, List.getElem_append_left (by omega)]
    have e := ix_some ys hi
    rw [List.getElem?_eq_getElem hi] at e
    rw [Option.some.inj e]
  have hw : putRow enc (Sort.ahead w q) B 0 A = (Sort.ahead w q).setRow B c1 := mapBlock_row (w := Sort.ahead w q) (c := c) (el := el) (fr := (0, 0)) _ hcell
  have hset : ((Sort.ahead w q).setRow B c1).heap[B]? = some (.cells c1 el (0, 0)) := setRow_heap (Sort.ahead w q) B c c1 el (0, 0) hcell
  have hoth : ∀ b, b ≠ B -> ((Sort.ahead w q).setRow B c1).heap[b]? = w.heap[b]? := fun b hb => setRow_other (Sort.ahead w q) _ _ _ hb
  rw [hw]
  have hlook2 : Heap.look [(1, Blk.arr (AV.ints ys))] 1 = some (.arr (.ints ys)) := rfl
  have hlk : ∀ r k', Heap.look [(1, Blk.arr (AV.ints ys))] r = some k' -> r = 1 /\ k' = .arr (.ints ys) := fun r k' h => by
    unfold Heap.look at h
    split at h
    · rename_i e; cases h; exact ⟨e.symm, rfl⟩
    · cases h
  let ρ' : Rho := ⟨fun _ _ => B, fun _ => ρ.cap 0, fun _ _ => 0⟩
  have hft : ∀ r j, foot ρ' (Heap.look [(1, Blk.arr (AV.ints ys))]) r j -> r = 1 /\ j = 0 := fun r j h => by
    unfold foot at h
    cases hr : Heap.look [(1, Blk.arr (AV.ints ys))] r with
    | none => rw [hr] at h; exact h.elim
    | some k' =>
      obtain ⟨rfl, rfl⟩ := hlk r k' hr
      rw [hr] at h
      exact ⟨rfl, h.1⟩
  refine ⟨_, S, ρ', rfl, ⟨fun b c' hb => ?_, hrel.amb, fun r k' hr => ?_, fun r j h => ?_, fun r j r' j' h h' _ => ?_⟩, fun _ _ h => h, fun b h1 h2 => absurd h1 h2, ⟨rfl, rfl, rfl, by rw [setRow_size]; exact Nat.le_refl _, fun b hlt hno => ?_, fun _ => ?_⟩, ?_, fun r h1 h2 => ?_⟩
  · obtain ⟨el', fr', hb'⟩ := hrel.stab b c' hb
    exact ⟨el', fr', by rw [hoth b (hne hb)]; exact hb'⟩
  · obtain ⟨rfl, rfl⟩ := hlk r k' hr
    refine ⟨ys.map (AV.int .i64), 1, c1, rfl, fun _ => ⟨el, hset⟩, by rw [hc1s]; exact hcs, by rw [List.length_map]; show _ <= ρ.cap 0; omega, fun x hx => by obtain ⟨y, _, rfl⟩ := List.mem_map.1 hx; rfl, fun i x j y hx hy => ?_⟩
    have hi : i < ys.length := by have := (List.getElem?_eq_some_iff.1 hx).1; rw [List.length_map] at this; exact this
    have e1 : x = .int .i64 (ix ys (i : Int)) := by
      rw [List.getElem?_map, ix_some ys hi] at hx
      exact (Option.some.inj hx).symm
    subst e1
    rcases j with _ | j
    · simp [AV.cells] at hy
      subst hy
      rw [Nat.mul_one, Nat.add_zero]
      exact ⟨_, hc1 i hi, .int _ _⟩
    · simp [AV.cells] at hy
  · exact ⟨hownb, hSb⟩
  · obtain ⟨rfl, rfl⟩ := hft r j h
    obtain ⟨rfl, rfl⟩ := hft r' j' h'
    exact ⟨rfl, rfl⟩
  · exact hoth b (fun e => hno (e ▸ hownb))
  · show w.drawn <= ((Sort.ahead w q).setRow B c1).drawn
    rw [setRow_drawn]; show w.drawn <= w.drawn + q; omega
  · have h := V.sl (S := S) (ρ := ρ') (H := Heap.look [(1, Blk.arr (AV.ints ys))]) 1 (.ints ys) (ys.map (AV.int .i64)) 1 (some ⟨B, 0, none⟩) hlook2 rfl (fun _ => rfl)
    rw [List.length_map] at h
    exact h
  · have : r = 0 := by omega
    subst this
    exact absurd rfl h2
def t_delC : Table := [(33, mutC 1 g_delC)]
theorem t_delC_ok : TabOK Try.prog t_delC := .cons Try.func33 (by kernel_rfl) (.mut (by intro args pre _ hp; unfold g_delC at hp ⊢; split at hp <;> first | exact hp.elim | exact delC_ok _ _ hp)) (.nil _)
attribute [go_sem] g_delC_eq t_delC
end Go.Proofs.Ytgcbdpehnonghaa
