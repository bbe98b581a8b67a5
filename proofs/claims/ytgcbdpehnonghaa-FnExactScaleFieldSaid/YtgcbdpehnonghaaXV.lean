/- A list of own rows seen together: append([][]int{a}, m...), and its elements. -/
import Derived.Test.YtgcbdpehnonghaaPl
import Derived.Test.YtgcbdpehnonghaaTy
import Derived.Deep.AppendSrc
namespace Go.Proofs.Ytgcbdpehnonghaa
open Go.Vc Go.RowKit
set_option maxRecDepth 100000
set_option maxHeartbeats 1600000
set_option linter.unusedSimpArgs false
set_option linter.unusedVariables false
def vwL (r m k : Nat) : List AV := .sl r :: (List.range k).map fun (j : Nat) => AV.mr m (j : Int)
theorem vwL_len (r m k : Nat) : (vwL r m k).length = k + 1 := by simp [vwL]
theorem vwL_get {r m k j : Nat} {x : AV} (h : (vwL r m k)[j]? = some x) : (j = 0 /\ x = .sl r) \/ ∃ p, j = p + 1 /\ p < k /\ x = .mr m (p : Int) := by
  rcases j with _ | p
  · left
    exact ⟨rfl, (Option.some.inj h).symm⟩
  · right
    unfold vwL at h
    rw [List.getElem?_cons_succ, List.getElem?_map] at h
    obtain ⟨p', hp, rfl⟩ := Option.map_eq_some_iff.1 h
    have hlt : p < k := by have := (List.getElem?_eq_some_iff.1 hp).1; simpa using this
    rw [List.getElem?_range hlt] at hp
    exact ⟨p, rfl, hlt, by rw [Option.some.inj hp]⟩
section
variable {P : Program} {own : Nat -> Prop} {S : Store} {ρ : Rho} {H : HF} {w : World}
theorem lit_run {TM ty : TypeId} {b : Nat} (hap : ap P TM = some (1, b)) {hd : Value} (hc : hd.cells = #[hd]) : ∃ cs el, cs[0]? = some hd /\ (Instr.buildSlice TM 1 ⟨[(0, hd)]⟩).run P w = .ok (.slice (some ⟨w.heap.size, 0, none⟩) 1 1) (w.alloc (.cells cs el)) := by
  obtain ⟨el, i, z, ht, hi, hzero, hzs, hsize, hby⟩ := ap_spec hap
  obtain ⟨m, hm1⟩ : ∃ m : Nat, m = 1 := ⟨1, rfl⟩
  rw [<- hm1] at hzs hsize
  obtain ⟨cs, f1, f2, _, f4⟩ := fill_ok m [hd] 0 (madeCells z.cells (1 * m)) (fun v hv => by rw [List.mem_singleton.1 hv, hc, hm1]; rfl) (by rw [size_madeCells]; simp)
  have hparts : [(0, hd)] = (([hd] : List Value).zipIdx 0).map fun x => (x.2, x.1) := rfl
  have hnb : ¬ 16777216 < 1 * m := by subst hm1; omega
  have hz0 : ¬ 1 * m = 0 := by subst hm1; omega
  refine ⟨cs, el, ?_, ?_⟩
  · have := f4 0 hd 0 rfl (by omega)
    rw [hc, hm1] at this
    simpa using this
  · simp only [madeCells] at f1
    rw [<- hparts, Nat.one_mul] at f1
    rw [Nat.one_mul] at hnb hz0
    simp [Instr.buildSlice, run_underlying ht, sizeOf, typeInfo, hi, hsize, hz0, zeroValue, hzero, hnb, f1, newRow]
theorem app_run (hrel : Rel own S ρ H w) (hown : ∀ b, w.heap.size <= b -> own b) {r m B : Nat} {o : List Int} {d : List (List Int)} (hr : H r = some (.arr (.ints o))) (hm : H m = some (.mat d)) {hdO hdM : Value} (hvO : V S ρ H (.sl r) hdO) (hvM : V S ρ H (.mt m) hdM)
    {TM ty : TypeId} {bb : Nat} (hap : ap P TM = some (1, bb)) (hbb : (d.length + 1) * (bb + 1) <= 140737488355328) {cs : Array Value} (hcs : cs[0]? = some hdO) (hBS : S B = some cs) :
    ∃ cv w2 S2, (Builtin.append_ #[TM, TM] ty #[.slice (some ⟨B, 0, none⟩) 1 1, hdM]).run P w = .ok cv w2 /\ Grow own S ρ H w S2 ρ H w2 /\ V S2 ρ H (.vec (vwL r m d.length)) cv := by
  obtain ⟨el, i, z, ht, hi, hzero, hzs, hsize, hby⟩ := ap_spec hap
  obtain ⟨d', a1, rfl, hm', ha1⟩ := hvM.mt_inv
  rw [hm] at hm'; cases hm'
  obtain ⟨c, hc, hsz, hcap, hrows⟩ := hrel.blk m _ hm
  by_cases hk : d.length = 0
  · have g : Grow own S ρ H w S ρ H w := .refl hrel
    refine ⟨.slice (some ⟨B, 0, none⟩) 1 1, w, S, ?_, g, ?_⟩
    · rw [hk]
      exact run_append_nothing w TM TM ty el i ht hi (some ⟨B, 0, none⟩) 1 1 (Nat.le_refl _) (.slice a1 0 (ρ.cap m)) (by
        rw [hsize]
        cases a1 with
        | none => exact Src.ofNil w ht _
        | some a => exact Src.ofSlice w ht a 0 _ [] rfl (fun j u hu => by simp at hu) (fun u hu => by cases hu))
    · rw [hk]
      exact V.vec (vwL r m 0) (some ⟨B, 0, none⟩) B 0 cs (fun _ => hdO) 1 (fun _ => ⟨rfl, hBS⟩) (Nat.le_refl _)
        (fun j x hx => by
          rcases vwL_get hx with ⟨rfl, rfl⟩ | ⟨p, rfl, hp, rfl⟩
          · exact hcs
          · omega)
        (fun j x hx => by
          rcases vwL_get hx with ⟨rfl, rfl⟩ | ⟨p, rfl, hp, rfl⟩
          · exact g.v hvO
          · omega)
  · have hcap0 : ρ.cap m ≠ 0 := by omega
    rw [ha1 hcap0]
    obtain ⟨elm, hcm⟩ := hc hcap0
    have hrow : ∀ p, p < d.length -> ∃ row cv, d[p]? = some row /\ c[p]? = some cv /\ RowAt ρ m p row cv := fun p hp => by
      obtain ⟨⟨cv, h1, h2⟩, _⟩ := hrows p _ (ix_some d hp)
      exact ⟨_, cv, ix_some d hp, h1, h2⟩
    let news := c.toList.take d.length
    have hnl : news.length = d.length := by simp [news]; omega
    have hng : ∀ p, p < d.length -> news[p]? = c[p]? := fun p hp => by
      show (c.toList.take d.length)[p]? = _
      rw [List.getElem?_take, if_pos hp]; simp
    have hsrc : Src P i.size TM (.slice (some ⟨ρ.blk m 0, 0, none⟩) d.length (ρ.cap m)) d.length news w := by
      rw [hsize]
      refine Src.ofSlice w ht _ _ _ news (by omega) (fun j u hu => ?_) (fun u hu => ?_)
      · have hj : j < d.length := by have := (List.getElem?_eq_some_iff.1 hu).1; omega
        rw [Addr.add_lit, Nat.zero_add, (OwnCells.cellsIn ⟨elm, hcm⟩).cell, <- hng j hj]; exact hu
      · obtain ⟨j, hj⟩ := List.getElem?_of_mem hu
        have hjl : j < d.length := by have := (List.getElem?_eq_some_iff.1 hj).1; omega
        obtain ⟨row, cv, _, h2, a, _, h3, _⟩ := hrow j hjl
        rw [hng j hjl, h2] at hj
        rw [<- Option.some.inj hj, h3]; rfl
    have hold : (Builtin.firstCells i.size 1 (.slice (some ⟨B, 0, none⟩) 1 1)).run P w.drew = .ok ([hdO] : List Value).toArray w.drew := by
      refine run_firstCells_some (P := P) w.drew i.size 1 _ _ _ [hdO] (by rw [hsize]; rfl) (fun j u hu => ?_)
      rcases j with _ | j
      · rw [Addr.add_lit, Nat.zero_add]
        have e1 : w.drew.cell? ⟨B, 0, none⟩ = w.cell? ⟨B, 0, none⟩ := rfl
        rw [e1, (hrel.stab B cs hBS).cell, hcs]
        exact hu
      · simp at hu
    have hb2 : (1 + d.length) * bb <= 140737488355328 := by
      have h1 : (1 + d.length) * bb <= (d.length + 1) * (bb + 1) := by rw [Nat.add_comm 1]; exact Nat.mul_le_mul_left _ (Nat.le_succ _)
      omega
    have hl1 : 1 + d.length <= 140737488355328 := by
      have h1 : d.length + 1 <= (d.length + 1) * (bb + 1) := Nat.le_mul_of_pos_right _ (Nat.succ_pos _)
      omega
    have hrun := run_append_grow_src (P := P) w TM TM ty el i z ht hi hzero (some ⟨B, 0, none⟩) 1 1 _ hold _ d.length news hsrc (by omega) (by omega) (by rw [hby]; exact growslice_fits (by omega) hb2)
    generalize hgcap : grownCap w (1 + d.length) 1 el = gc at hrun
    have hgc : 1 + d.length <= gc := by rw [<- hgcap]; exact grownCap_ge _ _ _ _
    generalize hcc : ([hdO] ++ news).toArray ++ Builtin.zeroCells z.cells (gc - (1 + d.length)) = cc at hrun
    have hc0 : cc[0]? = some hdO := by rw [<- hcc, Array.getElem?_append_left (by simp)]; rfl
    have hcp : ∀ p, p < d.length -> cc[p + 1]? = c[p]? := fun p hp => by
      rw [<- hcc, Array.getElem?_append_left (by simp; omega), List.getElem?_toArray, List.singleton_append, List.getElem?_cons_succ, hng p hp]
    have hrel' : Rel own S ρ H w.drew := hrel.drew _
    have g := grow_stable hrel' hown cc el (0, 0)
    have g0 : Grow own S ρ H w S ρ H w.drew := ⟨hrel', fun _ _ h => h, fun _ h1 h2 => absurd h1 h2, .refl _ _, (Kept.refl own w).drew _⟩
    refine ⟨_, _, S.set w.drew.heap.size cc, hrun, g0.trans g, ?_⟩
    have key := V.vec (S := S.set w.drew.heap.size cc) (ρ := ρ) (H := H) (vwL r m d.length) (some ⟨w.heap.size, 0, none⟩) w.heap.size 0 cc (fun j => cc.getD j Go.undef) gc (fun _ => ⟨rfl, if_pos rfl⟩) (by rw [vwL_len]; omega)
      (fun j x hx => by
        rw [Nat.zero_add, Array.getD_eq_getD_getElem?]
        rcases vwL_get hx with ⟨rfl, rfl⟩ | ⟨p, rfl, hp, rfl⟩
        · rw [hc0]; rfl
        · obtain ⟨row, cv, _, h2, _⟩ := hrow p hp
          rw [hcp p hp, h2]; rfl)
      (fun j x hx => by
        rw [Array.getD_eq_getD_getElem?]
        rcases vwL_get hx with ⟨rfl, rfl⟩ | ⟨p, rfl, hp, rfl⟩
        · rw [hc0]; exact g.v hvO
        · obtain ⟨row, cv, h1, h2, h3⟩ := hrow p hp
          rw [hcp p hp, h2]
          exact V.mr m p d row cv hm (by omega) (by simpa using h1) h3)
    rw [vwL_len, Nat.add_comm d.length 1] at key
    exact key
end
theorem eval_put {a : Act} {t : Nat} {v : Value} (ht : t < a.tmps.size) : (a.put (some t) v).eval (.tmp t) = v := by
  show (a.tmps.setIfInBounds t v).getD t Go.undef = v
  rw [Array.getD_eq_getD_getElem?, Array.getElem?_setIfInBounds]
  simp [ht]
theorem eval_ne {a : Act} {t s : Nat} {v : Value} (h : t ≠ s) : (a.put (some t) v).eval (.tmp s) = a.eval (.tmp s) := by
  show (a.tmps.setIfInBounds t v).getD s Go.undef = a.tmps.getD s Go.undef
  rw [Array.getD_eq_getD_getElem?, Array.getElem?_setIfInBounds, Array.getD_eq_getD_getElem?, if_neg h]
theorem step_val {P : Program} {ops : Array Oper} {Q : Exit -> Act -> World -> Prop} {o : Oper} {rest : List Oper} {a : Act} {w w' : World} {cv : Value} (hg : o.guard = none) (hr : (execOp a.eval o).run P w = .ok (.value cv) w') (h : wpList P ops Q rest (a.put o.dst cv) w') : wpList P ops Q (o :: rest) a w := by
  unfold wpList
  rw [if_pos (by simp [Region.wanted, hg])]
  refine .inl ?_
  unfold Oper.wp
  rw [hr]
  exact h
theorem EnvRel.set {S : Store} {ρ : Rho} {H : HF} {e : Env} {a : Act} (h : EnvRel S ρ H e a) {t : Nat} {v : AV} {cv : Value} {k : Nat} (hv : V S ρ H v cv) (hk : a.tmps.size = k) (ht : t < k) : EnvRel S ρ H ((t, v) :: e) (a.put (some t) cv) :=
  h.put (d := some t) hv (fun t' e => by cases e; rw [hk]; exact ht)
theorem vwL_tr {φ : AV -> AV} {r m k : Nat} (h1 : φ (.sl r) = .sl r) (h2 : ∀ j : Int, φ (.mr m j) = .mr m j) : AV.trL φ (vwL r m k) = vwL r m k := by
  unfold vwL
  have key : ∀ l : List Nat, AV.trL φ (l.map fun (j : Nat) => AV.mr m (j : Int)) = l.map fun (j : Nat) => AV.mr m (j : Int) := fun l => by
    induction l with
    | nil => rfl
    | cons x l ih => simp only [List.map_cons, AV.trL, AV.tr, h2, ih]
  simp only [AV.trL, AV.tr, h1, key]
theorem co_vec (cs : List AV) (v : AV) : Co (.vec cs) v = (AV.vec cs = v) := by simp [Co]
theorem view_region {hint : Hint} {i : Nat} {q r m : Nat} {o : List Int} {d : List (List Int)} {e : Env} {h : Heap} {n : Nat} {Q : AQ} {p0 p1 p2 p3 p4 p5 p6 p7 : String} {f0 f1 f2 f3 f4 f5 f6 f7 : Array Edge} {t0 t1 t2 t3 t4 t5 t6 t7 : TypeId}
    (he : e.get 6 = .bx q 0) (hq : h.look q = some (.box [.sl r, .mt m])) (hr : h.look r = some (.arr (.ints o))) (hm : h.look m = some (.mat d)) (hbb : d.length <= 1000000)
    (hQ : Q .normal ((33, .int .i64 0) :: (32, .int .i64 ((d.length : Int) + 1)) :: (31, .vec (vwL r m d.length)) :: (30, .mt m) :: (29, .bx q 1) :: (28, .undef) :: (27, .sl r) :: (26, .bx q 0) :: e) h n) :
    UserP Try.prog hint (Code.region i ⟨[⟨some 26, .fieldAddr 29 (.tmp 6) 0, t0, p0, f0, none⟩, ⟨some 27, .load 22 (.tmp 26), t1, p1, f1, none⟩, ⟨some 28, .buildSlice 23 1 ⟨[(0, .tmp 27)]⟩, t2, p2, f2, none⟩, ⟨some 29, .fieldAddr 29 (.tmp 6) 1, t3, p3, f3, none⟩, ⟨some 30, .load 23 (.tmp 29), t4, p4, f4, none⟩, ⟨some 31, .call ⟨.builtin .append, ⟨[.tmp 28, .tmp 30]⟩, ⟨[23, 23]⟩⟩, t5, p5, f5, none⟩, ⟨some 32, .call ⟨.builtin .len, ⟨[.tmp 31]⟩, ⟨[23]⟩⟩, t6, p6, f6, none⟩, ⟨some 33, .move (.const (.int .i64 0)), t7, p7, f7, none⟩]⟩ false)
      [⟨some 26, .fieldAddr 29 (.tmp 6) 0, t0, p0, f0, none⟩, ⟨some 27, .load 22 (.tmp 26), t1, p1, f1, none⟩, ⟨some 28, .buildSlice 23 1 ⟨[(0, .tmp 27)]⟩, t2, p2, f2, none⟩, ⟨some 29, .fieldAddr 29 (.tmp 6) 1, t3, p3, f3, none⟩, ⟨some 30, .load 23 (.tmp 29), t4, p4, f4, none⟩, ⟨some 31, .call ⟨.builtin .append, ⟨[.tmp 28, .tmp 30]⟩, ⟨[23, 23]⟩⟩, t5, p5, f5, none⟩, ⟨some 32, .call ⟨.builtin .len, ⟨[.tmp 31]⟩, ⟨[23]⟩⟩, t6, p6, f6, none⟩, ⟨some 33, .move (.const (.int .i64 0)), t7, p7, f7, none⟩] Q e h n := by
  intro x a w hx0 hdst hs
  have h33 : 33 < x.k := dstOK_mem hdst (o := ⟨some 33, .move (.const (.int .i64 0)), t7, p7, f7, none⟩) (by simp) 33 rfl
  obtain ⟨S, ρ, s1, s2, hrel, hfx, hE, hkept, hk, hdf, hn, hxn⟩ := hs
  have hown : ∀ b, w.heap.size <= b -> x.own b := fun b hb => x.hown b (Nat.le_trans hkept.size hb)
  have hv6 : V S ρ h.look (.bx q 0) (a.eval (.tmp 6)) := by have := hE 6; rw [he] at this; exact this
  obtain ⟨c26, r26, v26⟩ := fieldAddr_ok (P := Try.prog) (w := w) (h := h) (hF := h.look) (t := 29) (f := 0) (fun _ _ h => h) (fun _ _ h => h) (by rw [fd29_0]; show fieldP (some (0, .one)) (h.look q) (.bx q 0); rw [hq]; exact Nat.zero_le _) hv6
  rw [fd29_0] at v26
  replace v26 : V S ρ h.look (.bx q 0) c26 := v26
  obtain ⟨c27, r27, v27⟩ := load_ok (P := Try.prog) (w := w) (h := h) (hF := h.look) (t := 22) (fun _ _ h => h) (fun _ _ h => h) hrel (by rw [td22]; show loadP .one (h.look q) (.bx q 0); rw [hq]; exact Nat.zero_lt_succ _) v26
  rw [td22, show blkOf h (.bx q 0) = h.look q from rfl, hq] at v27
  replace v27 : V S ρ h.look (.sl r) c27 := v27
  have hc27 : c27.cells = #[c27] := by
    obtain ⟨_, _, _, _, rfl, _⟩ := v27.sl_inv
    rfl
  obtain ⟨cs, el, hcs, r28⟩ := lit_run (P := Try.prog) (w := w) (ty := t2) ap23 hc27
  have g1 := grow_stable hrel hown cs el (0, 0)
  have r28' : (Instr.buildSlice 23 1 ⟨[(0, c27)]⟩).run Try.prog w = .ok (.slice (some ⟨w.heap.size, 0, none⟩) 1 1) { w with heap := w.heap.push (.cells cs el (0, 0)) } := r28
  have hS1 : (S.set w.heap.size cs) w.heap.size = some cs := by simp [Store.set]
  generalize hS1e : S.set w.heap.size cs = S1 at *
  have hv6' := g1.v hv6
  have v27' := g1.v v27
  generalize hw1 : ({ w with heap := w.heap.push (.cells cs el (0, 0)) } : World) = w1 at *
  obtain ⟨c29, r29, v29⟩ := fieldAddr_ok (P := Try.prog) (w := w1) (h := h) (hF := h.look) (t := 29) (f := 1) (fun _ _ h => h) (fun _ _ h => h) (by rw [fd29_1]; show fieldP (some (1, .one)) (h.look q) (.bx q 0); rw [hq]; exact Nat.le_succ _) hv6'
  rw [fd29_1] at v29
  replace v29 : V S1 ρ h.look (.bx q 1) c29 := v29
  obtain ⟨c30, r30, v30⟩ := load_ok (P := Try.prog) (w := w1) (h := h) (hF := h.look) (t := 23) (fun _ _ h => h) (fun _ _ h => h) g1.rel (by rw [td23]; show loadP .one (h.look q) (.bx q 1); rw [hq]; exact Nat.lt_succ_self _) v29
  rw [td23, show blkOf h (.bx q 1) = h.look q from rfl, hq] at v30
  replace v30 : V S1 ρ h.look (.mt m) c30 := v30
  obtain ⟨c31, w2, S2, r31, g2, v31⟩ := app_run (P := Try.prog) (ty := t5) g1.rel (fun b hb => hown b (Nat.le_trans g1.kept.size hb)) hr hm v27' v30 ap23 (by omega) hcs hS1
  have g3 := g1.trans g2
  have r32 : ∃ c32, (Builtin.len_ #[23] t6 #[c31]).run Try.prog w2 = .ok c32 w2 /\ V S2 ρ h.look (.int .i64 ((d.length : Int) + 1)) c32 := by
    obtain ⟨_, _, _, _, _, _, rfl, _⟩ := v31.vec_inv
    obtain ⟨el2, i2, z2, ht2, _⟩ := ap_spec ap23
    refine ⟨goInt (vwL r m d.length).length, by simp [Builtin.len_, run_underlying ht2], ?_⟩
    rw [vwL_len]
    have := v_int (S := S2) (ρ := ρ) (H := h.look) .i64 ((d.length : Int) + 1)
    exact this
  obtain ⟨c32, r32, v32⟩ := r32
  refine wp_region ?_
  have hwl := wpOps_eq_wpList (P := Try.prog) (Q := fun ex a w => ∃ e h n, Q ex e h n /\ Sat x e h n a w) (ops := ⟨[⟨some 26, .fieldAddr 29 (.tmp 6) 0, t0, p0, f0, none⟩, ⟨some 27, .load 22 (.tmp 26), t1, p1, f1, none⟩, ⟨some 28, .buildSlice 23 1 ⟨[(0, .tmp 27)]⟩, t2, p2, f2, none⟩, ⟨some 29, .fieldAddr 29 (.tmp 6) 1, t3, p3, f3, none⟩, ⟨some 30, .load 23 (.tmp 29), t4, p4, f4, none⟩, ⟨some 31, .call ⟨.builtin .append, ⟨[.tmp 28, .tmp 30]⟩, ⟨[23, 23]⟩⟩, t5, p5, f5, none⟩, ⟨some 32, .call ⟨.builtin .len, ⟨[.tmp 31]⟩, ⟨[23]⟩⟩, t6, p6, f6, none⟩, ⟨some 33, .move (.const (.int .i64 0)), t7, p7, f7, none⟩]⟩)
    [⟨some 26, .fieldAddr 29 (.tmp 6) 0, t0, p0, f0, none⟩, ⟨some 27, .load 22 (.tmp 26), t1, p1, f1, none⟩, ⟨some 28, .buildSlice 23 1 ⟨[(0, .tmp 27)]⟩, t2, p2, f2, none⟩, ⟨some 29, .fieldAddr 29 (.tmp 6) 1, t3, p3, f3, none⟩, ⟨some 30, .load 23 (.tmp 29), t4, p4, f4, none⟩, ⟨some 31, .call ⟨.builtin .append, ⟨[.tmp 28, .tmp 30]⟩, ⟨[23, 23]⟩⟩, t5, p5, f5, none⟩, ⟨some 32, .call ⟨.builtin .len, ⟨[.tmp 31]⟩, ⟨[23]⟩⟩, t6, p6, f6, none⟩, ⟨some 33, .move (.const (.int .i64 0)), t7, p7, f7, none⟩] 0 (by simp)
  refine (congrFun (congrFun hwl a) w).mpr ?_
  refine step_val rfl (cv := c26) (w' := w) (by simp [execOp, r26]) ?_
  have e26 : (a.put (some 26) c26).eval (.tmp 26) = c26 := eval_put (by omega)
  refine step_val rfl (cv := c27) (w' := w) (by simp [execOp, e26, r27]) ?_
  show wpList _ _ _ _ ((a.put (some 26) c26).put (some 27) c27) w
  generalize ha1 : (a.put (some 26) c26) = a1 at *
  have z1 : a1.tmps.size = x.k := by rw [<- ha1, put_size]; exact hk
  have e27 : (a1.put (some 27) c27).eval (.tmp 27) = c27 := eval_put (by omega)
  refine step_val rfl (cv := .slice (some ⟨w.heap.size, 0, none⟩) 1 1) (w' := w1) (by simp only [execOp]; simp [e27, r28']) ?_
  show wpList _ _ _ _ ((a1.put (some 27) c27).put (some 28) (.slice (some ⟨w.heap.size, 0, none⟩) 1 1)) w1
  have e6 : ((a1.put (some 27) c27).put (some 28) (.slice (some ⟨w.heap.size, 0, none⟩) 1 1)).eval (.tmp 6) = a.eval (.tmp 6) := by
    rw [eval_ne (by omega), eval_ne (by omega), <- ha1, eval_ne (by omega)]
  have e28 : ((a1.put (some 27) c27).put (some 28) (.slice (some ⟨w.heap.size, 0, none⟩) 1 1)).eval (.tmp 28) = .slice (some ⟨w.heap.size, 0, none⟩) 1 1 := eval_put (by rw [put_size]; omega)
  have E1 : EnvRel S ρ h.look ((27, .sl r) :: (26, .bx q 0) :: e) (a1.put (some 27) c27) := by
    rw [<- ha1]
    exact EnvRel.set (EnvRel.set hE v26 hk (by omega)) v27 ((put_size _ _ _).trans hk) (by omega)
  have E2 := EnvRel.set (t := 28) (v := .undef) (cv := .slice (some ⟨w.heap.size, 0, none⟩) 1 1) (E1.ext g3.store g3.keep) (.pure _ _ (.undef _)) ((put_size _ _ _).trans z1) (by omega)
  have z2 : ((a1.put (some 27) c27).put (some 28) (.slice (some ⟨w.heap.size, 0, none⟩) 1 1)).tmps.size = x.k := by rw [put_size, put_size]; exact z1
  have d2 : ((a1.put (some 27) c27).put (some 28) (.slice (some ⟨w.heap.size, 0, none⟩) 1 1)).defers = [] := by rw [put_defers, put_defers, <- ha1, put_defers]; exact hdf
  generalize ((a1.put (some 27) c27).put (some 28) (.slice (some ⟨w.heap.size, 0, none⟩) 1 1)) = a2 at *
  refine step_val rfl (cv := c29) (w' := w1) (by simp [execOp, e6, r29]) ?_
  have e29 : (a2.put (some 29) c29).eval (.tmp 29) = c29 := eval_put (by omega)
  refine step_val rfl (cv := c30) (w' := w1) (by simp [execOp, e29, r30]) ?_
  show wpList _ _ _ _ ((a2.put (some 29) c29).put (some 30) c30) w1
  have e28' : ((a2.put (some 29) c29).put (some 30) c30).eval (.tmp 28) = .slice (some ⟨w.heap.size, 0, none⟩) 1 1 := by
    rw [eval_ne (by omega), eval_ne (by omega), e28]
  have e30 : ((a2.put (some 29) c29).put (some 30) c30).eval (.tmp 30) = c30 := eval_put (by rw [put_size]; omega)
  have E3 := EnvRel.set (t := 30) (EnvRel.set (t := 29) E2 (g2.v v29) z2 (by omega)) (g2.v v30) ((put_size _ _ _).trans z2) (by omega)
  have z3 : ((a2.put (some 29) c29).put (some 30) c30).tmps.size = x.k := by rw [put_size, put_size]; exact z2
  have d3 : ((a2.put (some 29) c29).put (some 30) c30).defers = [] := by rw [put_defers, put_defers]; exact d2
  generalize ((a2.put (some 29) c29).put (some 30) c30) = a3 at *
  refine step_val rfl (cv := c31) (w' := w2) (by simp [execOp, resolve, invoke, builtin, e28', e30, r31]) ?_
  have e31 : (a3.put (some 31) c31).eval (.tmp 31) = c31 := eval_put (by omega)
  refine step_val rfl (cv := c32) (w' := w2) (by simp [execOp, resolve, invoke, builtin, e31, r32]) ?_
  refine step_val rfl (cv := .int .i64 0) (w' := w2) (by simp [execOp, Act.eval]) ?_
  show ∃ e h n, Q .normal e h n /\ Sat x e h n (((a3.put (some 31) c31).put (some 32) c32).put (some 33) (.int .i64 0)) w2
  have E4 := EnvRel.set (t := 33) (EnvRel.set (t := 32) (EnvRel.set (t := 31) E3 v31 z3 (by omega)) v32 ((put_size _ _ _).trans z3) (by omega)) (v_int .i64 0) (((put_size _ _ _).trans (put_size _ _ _)).trans z3) (by omega)
  refine ⟨_, h, n, hQ, S2, ρ, fun b c hb => g3.store b c (s1 b c hb), fun b h1 h2 => ?_, g2.rel, hfx, E4, hkept.trans g3.kept, by rw [put_size, put_size, put_size]; exact z3, by rw [put_defers, put_defers, put_defers]; exact d3, hn, hxn⟩
  by_cases hS : S b = none
  · exact g3.fresh b hS h2
  · exact s2 b h1 hS
theorem pick_region {hint : Hint} {i : Nat} {r m k j : Nat} {y : AV} {e : Env} {h : Heap} {n : Nat} {Q : AQ} {p0 p1 p2 : String} {f0 f1 f2 : Array Edge} {t0 t1 t2 : TypeId}
    (he : e.get 31 = .vec (vwL r m k)) (hj : e.get 33 = .int .i64 (j : Int)) (hy : (vwL r m k)[j]? = some y)
    (hQ : Q .normal ((8, y) :: (36, y) :: (35, .undef) :: e) h n) :
    UserP Try.prog hint (Code.region i ⟨[⟨some 35, .indexAddr 23 (.tmp 31) (.tmp 33), t0, p0, f0, none⟩, ⟨some 36, .load 22 (.tmp 35), t1, p1, f1, none⟩, ⟨some 8, .assign (.tmp 36), t2, p2, f2, none⟩]⟩ false)
      [⟨some 35, .indexAddr 23 (.tmp 31) (.tmp 33), t0, p0, f0, none⟩, ⟨some 36, .load 22 (.tmp 35), t1, p1, f1, none⟩, ⟨some 8, .assign (.tmp 36), t2, p2, f2, none⟩] Q e h n := by
  intro x a w hx0 hdst hs
  have h36 : 36 < x.k := dstOK_mem hdst (o := ⟨some 36, .load 22 (.tmp 35), t1, p1, f1, none⟩) (by simp) 36 rfl
  obtain ⟨S, ρ, s1, s2, hrel, hfx, hE, hkept, hk, hdf, hn, hxn⟩ := hs
  have hv31 : V S ρ h.look (.vec (vwL r m k)) (a.eval (.tmp 31)) := by have := hE 31; rw [he] at this; exact this
  have hv33 : V S ρ h.look (.int .i64 (j : Int)) (a.eval (.tmp 33)) := by have := hE 33; rw [hj] at this; exact this
  obtain ⟨ad, b, off, c, vals, cap, e31, hrow, hcap, hc, hv⟩ := hv31.vec_inv
  have hlt := (List.getElem?_eq_some_iff.1 hy).1
  obtain ⟨rfl, hSb⟩ := hrow (by intro h0; rw [h0] at hlt; simp at hlt)
  have e33 := hv33.int_inv
  obtain ⟨el, i2, z2, ht2, hi2, _, _, hsize, _⟩ := ap_spec ap23
  have hcell : w.cell? ⟨b, off + j, none⟩ = some (vals j) := by rw [(hrel.stab b c hSb).cell]; exact hc j y hy
  have r35 : (Instr.indexAt 23 (a.eval (.tmp 31)) (a.eval (.tmp 33))).run Try.prog w = .ok (.pointer (some ⟨b, off + j, none⟩)) w := by
    rw [e31, e33]
    have hlt2 : (j : Int) < ((vwL r m k).length : Int) := by omega
    simp [Instr.indexAt, run_underlying ht2, asIntOf, hlt2, hlt, sizeOf, typeInfo, hi2, hsize, add_none]
  have r36 : (Instr.loadAt 22 (.pointer (some ⟨b, off + j, none⟩))).run Try.prog w = .ok (vals j) w := by
    simp only [Instr.loadAt, Instr.sureAddr, Sem.run_bind, Sem.run_pure, Result.andThen_ok]
    exact run_loadVar_one td22 hcell
  refine wp_region ?_
  have hwl := wpOps_eq_wpList (P := Try.prog) (Q := fun ex a w => ∃ e h n, Q ex e h n /\ Sat x e h n a w) (ops := ⟨[⟨some 35, .indexAddr 23 (.tmp 31) (.tmp 33), t0, p0, f0, none⟩, ⟨some 36, .load 22 (.tmp 35), t1, p1, f1, none⟩, ⟨some 8, .assign (.tmp 36), t2, p2, f2, none⟩]⟩)
    [⟨some 35, .indexAddr 23 (.tmp 31) (.tmp 33), t0, p0, f0, none⟩, ⟨some 36, .load 22 (.tmp 35), t1, p1, f1, none⟩, ⟨some 8, .assign (.tmp 36), t2, p2, f2, none⟩] 0 (by simp)
  refine (congrFun (congrFun hwl a) w).mpr ?_
  refine step_val rfl (cv := .pointer (some ⟨b, off + j, none⟩)) (w' := w) (by simp only [execOp]; simp [r35]) ?_
  have e35 : (a.put (some 35) (.pointer (some ⟨b, off + j, none⟩))).eval (.tmp 35) = .pointer (some ⟨b, off + j, none⟩) := eval_put (by omega)
  refine step_val rfl (cv := vals j) (w' := w) (by simp [execOp, e35, r36]) ?_
  show wpList _ _ _ _ ((a.put (some 35) (.pointer (some ⟨b, off + j, none⟩))).put (some 36) (vals j)) w
  have e36 : ((a.put (some 35) (.pointer (some ⟨b, off + j, none⟩))).put (some 36) (vals j)).eval (.tmp 36) = vals j := eval_put (by rw [put_size]; omega)
  refine step_val rfl (cv := vals j) (w' := w) (by simp [execOp, e36]) ?_
  show ∃ e h n, Q .normal e h n /\ Sat x e h n (((a.put (some 35) (.pointer (some ⟨b, off + j, none⟩))).put (some 36) (vals j)).put (some 8) (vals j)) w
  have E4 := EnvRel.set (t := 8) (EnvRel.set (t := 36) (EnvRel.set (t := 35) (v := .undef) (cv := .pointer (some ⟨b, off + j, none⟩)) hE (.pure _ _ (.undef _)) hk (by omega)) (hv j y hy) ((put_size _ _ _).trans hk) (by omega)) (hv j y hy) (((put_size _ _ _).trans (put_size _ _ _)).trans hk) (by omega)
  exact ⟨_, h, n, hQ, S, ρ, s1, s2, hrel, hfx, E4, hkept, by rw [put_size, put_size, put_size]; exact hk, by rw [put_defers, put_defers, put_defers]; exact hdf, hn, hxn⟩
end Go.Proofs.Ytgcbdpehnonghaa
