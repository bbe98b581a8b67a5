/- Texts joined: XV PlN PlO PlP PlQ SCI. -/
import Derived.Test.YteefjdbdknkcjaaGreatDoorJ5
import Derived.Test.YteefjdbdknkcjaaGreatDoorTy
import Derived.Deep.AppendSrc
namespace Go.Proofs.YteefjdbdknkcjaaGreatDoor
open Go.Vc Go.RowKit
set_option maxRecDepth 100000
set_option maxHeartbeats 1600000
set_option linter.unusedSimpArgs false
set_option linter.unusedVariables false
def vwL (r m k : Nat) : List AV := .sl r :: (List.range k).map fun (j : Nat) => AV.mr m (j : Int)
theorem vwL_len (r m k : Nat) : (vwL r m k).length = k + 1 := by simp [vwL]
theorem vwL_get {r m k j : Nat} {x : AV} (h : (vwL r m k)[j]? = some x) : (j = 0 /\ x = .sl r) \/ ∃ p, j = p + 1 /\ p < k /\ x = .mr m (p : Int) := by
  rcases j with _ | p
  · left
    exact ⟨rfl, (Option.some.inj h).symm⟩
  · right
    unfold vwL at h
    rw [List.getElem?_cons_succ, List.getElem?_map] at h
    obtain ⟨p', hp, rfl⟩ := Option.map_eq_some_iff.1 h
    have hlt : p < k := by have := (List.getElem?_eq_some_iff.1 hp).1; simpa using this
    rw [List.getElem?_range hlt] at hp
    exact ⟨p, rfl, hlt, by rw [Option.some.inj hp]⟩
section
variable {P : Program} {own : Nat -> Prop} {S : Store} {ρ : Rho} {H : HF} {w : World}
theorem lit_run {TM ty : TypeId} {b : Nat} (hap : ap P TM = some (1, b)) {hd : Value} (hc : hd.cells = #[hd]) : ∃ cs el, cs[0]? = some hd /\ (Instr.buildSlice TM 1 ⟨[(0, hd)]⟩).run P w = .ok (.slice (some ⟨w.heap.size, 0, none⟩) 1 1) (w.alloc (.cells cs el)) := by
  obtain ⟨el, i, z, ht, hi, hzero, hzs, hsize, hby⟩ := ap_spec hap
  obtain ⟨m, hm1⟩ : ∃ m : Nat, m = 1 := ⟨1, rfl⟩
  rw [<- hm1] at hzs hsize
  obtain ⟨cs, f1, f2, _, f4⟩ := fill_ok m [hd] 0 (madeCells z.cells (1 * m)) (fun v hv => by rw [List.mem_singleton.1 hv, hc, hm1]; rfl) (by rw [size_madeCells]; simp)
  have hparts : [(0, hd)] = (([hd] : List Value).zipIdx 0).map fun x => (x.2, x.1) := rfl
  have hnb : ¬ 16777216 < 1 * m := by subst hm1; omega
  have hz0 : ¬ 1 * m = 0 := by subst hm1; omega
  refine ⟨cs, el, ?_, ?_⟩
  · have := f4 0 hd 0 rfl (by omega)
    rw [hc, hm1] at this
    simpa using this
  · simp only [madeCells] at f1
    rw [<- hparts, Nat.one_mul] at f1
    rw [Nat.one_mul] at hnb hz0
    simp [Instr.buildSlice, run_underlying ht, sizeOf, typeInfo, hi, hsize, hz0, zeroValue, hzero, hnb, f1, newRow]
theorem app_run (hrel : Rel own S ρ H w) (hown : ∀ b, w.heap.size <= b -> own b) {r m B : Nat} {o : List Int} {d : List (List Int)} (hr : H r = some (.arr (.ints o))) (hm : H m = some (.mat d)) {hdO hdM : Value} (hvO : V S ρ H (.sl r) hdO) (hvM : V S ρ H (.mt m) hdM)
    {TM ty : TypeId} {bb : Nat} (hap : ap P TM = some (1, bb)) (hbb : (d.length + 1) * (bb + 1) <= 140737488355328) {cs : Array Value} (hcs : cs[0]? = some hdO) (hBS : S B = some cs) :
    ∃ cv w2 S2, (Builtin.append_ #[TM, TM] ty #[.slice (some ⟨B, 0, none⟩) 1 1, hdM]).run P w = .ok cv w2 /\ Grow own S ρ H w S2 ρ H w2 /\ V S2 ρ H (.vec (vwL r m d.length)) cv := by
  obtain ⟨el, i, z, ht, hi, hzero, hzs, hsize, hby⟩ := ap_spec hap
  obtain ⟨d', a1, rfl, hm', ha1⟩ := hvM.mt_inv
  rw [hm] at hm'; cases hm'
  obtain ⟨c, hc, hsz, hcap, hrows⟩ := hrel.blk m _ hm
  by_cases hk : d.length = 0
  · have g : Grow own S ρ H w S ρ H w := .refl hrel
    refine ⟨.slice (some ⟨B, 0, none⟩) 1 1, w, S, ?_, g, ?_⟩
    · rw [hk]
      exact run_append_nothing w TM TM ty el i ht hi (some ⟨B, 0, none⟩) 1 1 (Nat.le_refl _) (.slice a1 0 (ρ.cap m)) (by
        rw [hsize]
        cases a1 with
        | none => exact Src.ofNil w ht _
        | some a => exact Src.ofSlice w ht a 0 _ [] rfl (fun j u hu => by simp at hu) (fun u hu => by cases hu))
    · rw [hk]
      exact V.vec (vwL r m 0) (some ⟨B, 0, none⟩) B 0 cs (fun _ => hdO) 1 (fun _ => ⟨rfl, hBS⟩) (Nat.le_refl _)
        (fun j x hx => by
          rcases vwL_get hx with ⟨rfl, rfl⟩ | ⟨p, rfl, hp, rfl⟩
          · exact hcs
          · omega)
        (fun j x hx => by
          rcases vwL_get hx with ⟨rfl, rfl⟩ | ⟨p, rfl, hp, rfl⟩
          · exact g.v hvO
          · omega)
  · have hcap0 : ρ.cap m ≠ 0 := by omega
    rw [ha1 hcap0]
    obtain ⟨elm, hcm⟩ := hc hcap0
    have hrow : ∀ p, p < d.length -> ∃ row cv, d[p]? = some row /\ c[p]? = some cv /\ RowAt ρ m p row cv := fun p hp => by
      obtain ⟨⟨cv, h1, h2⟩, _⟩ := hrows p _ (ix_some d hp)
      exact ⟨_, cv, ix_some d hp, h1, h2⟩
    let news := c.toList.take d.length
    have hnl : news.length = d.length := by simp [news]; omega
    have hng : ∀ p, p < d.length -> news[p]? = c[p]? := fun p hp => by
      show (c.toList.take d.length)[p]? = _
      rw [List.getElem?_take, if_pos hp]; simp
    have hsrc : Src P i.size TM (.slice (some ⟨ρ.blk m 0, 0, none⟩) d.length (ρ.cap m)) d.length news w := by
      rw [hsize]
      refine Src.ofSlice w ht _ _ _ news (by omega) (fun j u hu => ?_) (fun u hu => ?_)
      · have hj : j < d.length := by have := (List.getElem?_eq_some_iff.1 hu).1; omega
        rw [Addr.add_lit, Nat.zero_add, (OwnCells.cellsIn ⟨elm, hcm⟩).cell, <- hng j hj]; exact hu
      · obtain ⟨j, hj⟩ := List.getElem?_of_mem hu
        have hjl : j < d.length := by have := (List.getElem?_eq_some_iff.1 hj).1; omega
        obtain ⟨row, cv, _, h2, a, _, h3, _⟩ := hrow j hjl
        rw [hng j hjl, h2] at hj
        rw [<- Option.some.inj hj, h3]; rfl
    have hold : (Builtin.firstCells i.size 1 (.slice (some ⟨B, 0, none⟩) 1 1)).run P w.drew = .ok ([hdO] : List Value).toArray w.drew := by
      refine run_firstCells_some (P := P) w.drew i.size 1 _ _ _ [hdO] (by rw [hsize]; rfl) (fun j u hu => ?_)
      rcases j with _ | j
      · rw [Addr.add_lit, Nat.zero_add]
        have e1 : w.drew.cell? ⟨B, 0, none⟩ = w.cell? ⟨B, 0, none⟩ := rfl
        rw [e1, (hrel.stab B cs hBS).cell, hcs]
        exact hu
      · simp at hu
    have hb2 : (1 + d.length) * bb <= 140737488355328 := by
      have h1 : (1 + d.length) * bb <= (d.length + 1) * (bb + 1) := by rw [Nat.add_comm 1]; exact Nat.mul_le_mul_left _ (Nat.le_succ _)
      omega
    have hl1 : 1 + d.length <= 140737488355328 := by
      have h1 : d.length + 1 <= (d.length + 1) * (bb + 1) := Nat.le_mul_of_pos_right _ (Nat.succ_pos _)
      omega
    have hrun := run_append_grow_src (P := P) w TM TM ty el i z ht hi hzero (some ⟨B, 0, none⟩) 1 1 _ hold _ d.length news hsrc (by omega) (by omega) (by rw [hby]; exact growslice_fits (by omega) hb2)
    generalize hgcap : grownCap w (1 + d.length) 1 el = gc at hrun
    have hgc : 1 + d.length <= gc := by rw [<- hgcap]; exact grownCap_ge _ _ _ _
    generalize hcc : ([hdO] ++ news).toArray ++ Builtin.zeroCells z.cells (gc - (1 + d.length)) = cc at hrun
    have hc0 : cc[0]? = some hdO := by rw [<- hcc, Array.getElem?_append_left (by simp)]; rfl
    have hcp : ∀ p, p < d.length -> cc[p + 1]? = c[p]? := fun p hp => by
      rw [<- hcc, Array.getElem?_append_left (by simp; omega), List.getElem?_toArray, List.singleton_append, List.getElem?_cons_succ, hng p hp]
    have hrel' : Rel own S ρ H w.drew := hrel.drew _
    have g := grow_stable hrel' hown cc el (0, 0)
    have g0 : Grow own S ρ H w S ρ H w.drew := ⟨hrel', fun _ _ h => h, fun _ h1 h2 => absurd h1 h2, .refl _ _, (Kept.refl own w).drew _⟩
    refine ⟨_, _, S.set w.drew.heap.size cc, hrun, g0.trans g, ?_⟩
    have key := V.vec (S := S.set w.drew.heap.size cc) (ρ := ρ) (H := H) (vwL r m d.length) (some ⟨w.heap.size, 0, none⟩) w.heap.size 0 cc (fun j => cc.getD j Go.undef) gc (fun _ => ⟨rfl, if_pos rfl⟩) (by rw [vwL_len]; omega)
      (fun j x hx => by
        rw [Nat.zero_add, Array.getD_eq_getD_getElem?]
        rcases vwL_get hx with ⟨rfl, rfl⟩ | ⟨p, rfl, hp, rfl⟩
        · rw [hc0]; rfl
        · obtain ⟨row, cv, _, h2, _⟩ := hrow p hp
          rw [hcp p hp, h2]; rfl)
      (fun j x hx => by
        rw [Array.getD_eq_getD_getElem?]
        rcases vwL_get hx with ⟨rfl, rfl⟩ | ⟨p, rfl, hp, rfl⟩
        · rw [hc0]; exact g.v hvO
        · obtain ⟨row, cv, h1, h2, h3⟩ := hrow p hp
          rw [hcp p hp, h2]
          exact V.mr m p d row cv hm (by omega) (by simpa using h1) h3)
    rw [vwL_len, Nat.add_comm d.length 1] at key
    exact key
end
theorem vwL_tr {φ : AV -> AV} {r m k : Nat} (h1 : φ (.sl r) = .sl r) (h2 : ∀ j : Int, φ (.mr m j) = .mr m j) : AV.trL φ (vwL r m k) = vwL r m k := by
  unfold vwL
  have key : ∀ l : List Nat, AV.trL φ (l.map fun (j : Nat) => AV.mr m (j : Int)) = l.map fun (j : Nat) => AV.mr m (j : Int) := fun l => by
    induction l with
    | nil => rfl
    | cons x l ih => simp only [List.map_cons, AV.trL, AV.tr, h2, ih]
  simp only [AV.trL, AV.tr, h1, key]
theorem co_vec (cs : List AV) (v : AV) : Co (.vec cs) v = (AV.vec cs = v) := by simp [Co]
theorem view_region {hint : Hint} {i : Nat} {q r m : Nat} {o : List Int} {d : List (List Int)} {e : Env} {h : Heap} {n : Nat} {Q : AQ} {p0 p1 p2 p3 p4 p5 p6 p7 : String} {f0 f1 f2 f3 f4 f5 f6 f7 : Array Edge} {t0 t1 t2 t3 t4 t5 t6 t7 : TypeId}
    (he : e.get 6 = .bx q 0) (hq : h.look q = some (.box [.sl r, .mt m])) (hr : h.look r = some (.arr (.ints o))) (hm : h.look m = some (.mat d)) (hbb : d.length <= 1000000)
    (hQ : Q .normal ((33, .int .i64 0) :: (32, .int .i64 ((d.length : Int) + 1)) :: (31, .vec (vwL r m d.length)) :: (30, .mt m) :: (29, .bx q 1) :: (28, .undef) :: (27, .sl r) :: (26, .bx q 0) :: e) h n) :
    UserP Tryz.prog hint (Code.region i ⟨[⟨some 26, .fieldAddr 27 (.tmp 6) 0, t0, p0, f0, none⟩, ⟨some 27, .load 24 (.tmp 26), t1, p1, f1, none⟩, ⟨some 28, .buildSlice 25 1 ⟨[(0, .tmp 27)]⟩, t2, p2, f2, none⟩, ⟨some 29, .fieldAddr 27 (.tmp 6) 1, t3, p3, f3, none⟩, ⟨some 30, .load 25 (.tmp 29), t4, p4, f4, none⟩, ⟨some 31, .call ⟨.builtin .append, ⟨[.tmp 28, .tmp 30]⟩, ⟨[25, 25]⟩⟩, t5, p5, f5, none⟩, ⟨some 32, .call ⟨.builtin .len, ⟨[.tmp 31]⟩, ⟨[25]⟩⟩, t6, p6, f6, none⟩, ⟨some 33, .move (.const (.int .i64 0)), t7, p7, f7, none⟩]⟩ false)
      [⟨some 26, .fieldAddr 27 (.tmp 6) 0, t0, p0, f0, none⟩, ⟨some 27, .load 24 (.tmp 26), t1, p1, f1, none⟩, ⟨some 28, .buildSlice 25 1 ⟨[(0, .tmp 27)]⟩, t2, p2, f2, none⟩, ⟨some 29, .fieldAddr 27 (.tmp 6) 1, t3, p3, f3, none⟩, ⟨some 30, .load 25 (.tmp 29), t4, p4, f4, none⟩, ⟨some 31, .call ⟨.builtin .append, ⟨[.tmp 28, .tmp 30]⟩, ⟨[25, 25]⟩⟩, t5, p5, f5, none⟩, ⟨some 32, .call ⟨.builtin .len, ⟨[.tmp 31]⟩, ⟨[25]⟩⟩, t6, p6, f6, none⟩, ⟨some 33, .move (.const (.int .i64 0)), t7, p7, f7, none⟩] Q e h n := by
  intro x a w hx0 hdst hs
  have h33 : 33 < x.k := dstOK_mem hdst (o := ⟨some 33, .move (.const (.int .i64 0)), t7, p7, f7, none⟩) (by simp) 33 rfl
  obtain ⟨S, ρ, s1, s2, hrel, hfx, hE, hkept, hk, hdf, hn, hxn⟩ := hs
  have hown : ∀ b, w.heap.size <= b -> x.own b := fun b hb => x.hown b (Nat.le_trans hkept.size hb)
  have hv6 : V S ρ h.look (.bx q 0) (a.eval (.tmp 6)) := by have := hE 6; rw [he] at this; exact this
  obtain ⟨c26, r26, v26⟩ := fieldAddr_ok (P := Tryz.prog) (w := w) (h := h) (hF := h.look) (t := 27) (f := 0) (fun _ _ h => h) (fun _ _ h => h) (by rw [fd27_0]; show fieldP (some (0, .one)) (h.look q) (.bx q 0); rw [hq]; exact Nat.zero_le _) hv6
  rw [fd27_0] at v26
  replace v26 : V S ρ h.look (.bx q 0) c26 := v26
  obtain ⟨c27, r27, v27⟩ := load_ok (P := Tryz.prog) (w := w) (h := h) (hF := h.look) (t := 24) (fun _ _ h => h) (fun _ _ h => h) hrel (by rw [td24]; show loadP .one (h.look q) (.bx q 0); rw [hq]; exact Nat.zero_lt_succ _) v26
  rw [td24, show blkOf h (.bx q 0) = h.look q from rfl, hq] at v27
  replace v27 : V S ρ h.look (.sl r) c27 := v27
  have hc27 : c27.cells = #[c27] := by
    obtain ⟨_, _, _, _, rfl, _⟩ := v27.sl_inv
    rfl
  obtain ⟨cs, el, hcs, r28⟩ := lit_run (P := Tryz.prog) (w := w) (ty := t2) ap25 hc27
  have g1 := grow_stable hrel hown cs el (0, 0)
  have r28' : (Instr.buildSlice 25 1 ⟨[(0, c27)]⟩).run Tryz.prog w = .ok (.slice (some ⟨w.heap.size, 0, none⟩) 1 1) { w with heap := w.heap.push (.cells cs el (0, 0)) } := r28
  have hS1 : (S.set w.heap.size cs) w.heap.size = some cs := by simp [Store.set]
  generalize hS1e : S.set w.heap.size cs = S1 at *
  have hv6' := g1.v hv6
  have v27' := g1.v v27
  generalize hw1 : ({ w with heap := w.heap.push (.cells cs el (0, 0)) } : World) = w1 at *
  obtain ⟨c29, r29, v29⟩ := fieldAddr_ok (P := Tryz.prog) (w := w1) (h := h) (hF := h.look) (t := 27) (f := 1) (fun _ _ h => h) (fun _ _ h => h) (by rw [fd27_1]; show fieldP (some (1, .one)) (h.look q) (.bx q 0); rw [hq]; exact Nat.le_succ _) hv6'
  rw [fd27_1] at v29
  replace v29 : V S1 ρ h.look (.bx q 1) c29 := v29
  obtain ⟨c30, r30, v30⟩ := load_ok (P := Tryz.prog) (w := w1) (h := h) (hF := h.look) (t := 25) (fun _ _ h => h) (fun _ _ h => h) g1.rel (by rw [td25]; show loadP .one (h.look q) (.bx q 1); rw [hq]; exact Nat.lt_succ_self _) v29
  rw [td25, show blkOf h (.bx q 1) = h.look q from rfl, hq] at v30
  replace v30 : V S1 ρ h.look (.mt m) c30 := v30
  obtain ⟨c31, w2, S2, r31, g2, v31⟩ := app_run (P := Tryz.prog) (ty := t5) g1.rel (fun b hb => hown b (Nat.le_trans g1.kept.size hb)) hr hm v27' v30 ap25 (by omega) hcs hS1
  have g3 := g1.trans g2
  have r32 : ∃ c32, (Builtin.len_ #[25] t6 #[c31]).run Tryz.prog w2 = .ok c32 w2 /\ V S2 ρ h.look (.int .i64 ((d.length : Int) + 1)) c32 := by
    obtain ⟨_, _, _, _, _, _, rfl, _⟩ := v31.vec_inv
    obtain ⟨el2, i2, z2, ht2, _⟩ := ap_spec ap25
    refine ⟨goInt (vwL r m d.length).length, by simp [Builtin.len_, run_underlying ht2], ?_⟩
    rw [vwL_len]
    have := v_int (S := S2) (ρ := ρ) (H := h.look) .i64 ((d.length : Int) + 1)
    exact this
  obtain ⟨c32, r32, v32⟩ := r32
  refine wp_region ?_
  have hwl := wpOps_eq_wpList (P := Tryz.prog) (Q := fun ex a w => ∃ e h n, Q ex e h n /\ Sat x e h n a w) (ops := ⟨[⟨some 26, .fieldAddr 27 (.tmp 6) 0, t0, p0, f0, none⟩, ⟨some 27, .load 24 (.tmp 26), t1, p1, f1, none⟩, ⟨some 28, .buildSlice 25 1 ⟨[(0, .tmp 27)]⟩, t2, p2, f2, none⟩, ⟨some 29, .fieldAddr 27 (.tmp 6) 1, t3, p3, f3, none⟩, ⟨some 30, .load 25 (.tmp 29), t4, p4, f4, none⟩, ⟨some 31, .call ⟨.builtin .append, ⟨[.tmp 28, .tmp 30]⟩, ⟨[25, 25]⟩⟩, t5, p5, f5, none⟩, ⟨some 32, .call ⟨.builtin .len, ⟨[.tmp 31]⟩, ⟨[25]⟩⟩, t6, p6, f6, none⟩, ⟨some 33, .move (.const (.int .i64 0)), t7, p7, f7, none⟩]⟩)
    [⟨some 26, .fieldAddr 27 (.tmp 6) 0, t0, p0, f0, none⟩, ⟨some 27, .load 24 (.tmp 26), t1, p1, f1, none⟩, ⟨some 28, .buildSlice 25 1 ⟨[(0, .tmp 27)]⟩, t2, p2, f2, none⟩, ⟨some 29, .fieldAddr 27 (.tmp 6) 1, t3, p3, f3, none⟩, ⟨some 30, .load 25 (.tmp 29), t4, p4, f4, none⟩, ⟨some 31, .call ⟨.builtin .append, ⟨[.tmp 28, .tmp 30]⟩, ⟨[25, 25]⟩⟩, t5, p5, f5, none⟩, ⟨some 32, .call ⟨.builtin .len, ⟨[.tmp 31]⟩, ⟨[25]⟩⟩, t6, p6, f6, none⟩, ⟨some 33, .move (.const (.int .i64 0)), t7, p7, f7, none⟩] 0 (by simp)
  refine (congrFun (congrFun hwl a) w).mpr ?_
  refine step_val rfl (cv := c26) (w' := w) (by simp [execOp, r26]) ?_
  have e26 : (a.put (some 26) c26).eval (.tmp 26) = c26 := eval_put (by omega)
  refine step_val rfl (cv := c27) (w' := w) (by simp [execOp, e26, r27]) ?_
  show wpList _ _ _ _ ((a.put (some 26) c26).put (some 27) c27) w
  generalize ha1 : (a.put (some 26) c26) = a1 at *
  have z1 : a1.tmps.size = x.k := by rw [<- ha1, put_size]; exact hk
  have e27 : (a1.put (some 27) c27).eval (.tmp 27) = c27 := eval_put (by omega)
  refine step_val rfl (cv := .slice (some ⟨w.heap.size, 0, none⟩) 1 1) (w' := w1) (by simp only [execOp]; simp [e27, r28']) ?_
  show wpList _ _ _ _ ((a1.put (some 27) c27).put (some 28) (.slice (some ⟨w.heap.size, 0, none⟩) 1 1)) w1
  have e6 : ((a1.put (some 27) c27).put (some 28) (.slice (some ⟨w.heap.size, 0, none⟩) 1 1)).eval (.tmp 6) = a.eval (.tmp 6) := by
    rw [eval_ne (by omega), eval_ne (by omega), <- ha1, eval_ne (by omega)]
  have e28 : ((a1.put (some 27) c27).put (some 28) (.slice (some ⟨w.heap.size, 0, none⟩) 1 1)).eval (.tmp 28) = .slice (some ⟨w.heap.size, 0, none⟩) 1 1 := eval_put (by rw [put_size]; omega)
  have E1 : EnvRel S ρ h.look ((27, .sl r) :: (26, .bx q 0) :: e) (a1.put (some 27) c27) := by
    rw [<- ha1]
    exact EnvRel.set (EnvRel.set hE v26 hk (by omega)) v27 ((put_size _ _ _).trans hk) (by omega)
  have E2 := EnvRel.set (t := 28) (v := .undef) (cv := .slice (some ⟨w.heap.size, 0, none⟩) 1 1) (E1.ext g3.store g3.keep) (.pure _ _ (.undef _)) ((put_size _ _ _).trans z1) (by omega)
  have z2 : ((a1.put (some 27) c27).put (some 28) (.slice (some ⟨w.heap.size, 0, none⟩) 1 1)).tmps.size = x.k := by rw [put_size, put_size]; exact z1
  have d2 : ((a1.put (some 27) c27).put (some 28) (.slice (some ⟨w.heap.size, 0, none⟩) 1 1)).defers = [] := by rw [put_defers, put_defers, <- ha1, put_defers]; exact hdf
  generalize ((a1.put (some 27) c27).put (some 28) (.slice (some ⟨w.heap.size, 0, none⟩) 1 1)) = a2 at *
  refine step_val rfl (cv := c29) (w' := w1) (by simp [execOp, e6, r29]) ?_
  have e29 : (a2.put (some 29) c29).eval (.tmp 29) = c29 := eval_put (by omega)
  refine step_val rfl (cv := c30) (w' := w1) (by simp [execOp, e29, r30]) ?_
  show wpList _ _ _ _ ((a2.put (some 29) c29).put (some 30) c30) w1
  have e28' : ((a2.put (some 29) c29).put (some 30) c30).eval (.tmp 28) = .slice (some ⟨w.heap.size, 0, none⟩) 1 1 := by
    rw [eval_ne (by omega), eval_ne (by omega), e28]
  have e30 : ((a2.put (some 29) c29).put (some 30) c30).eval (.tmp 30) = c30 := eval_put (by rw [put_size]; omega)
  have E3 := EnvRel.set (t := 30) (EnvRel.set (t := 29) E2 (g2.v v29) z2 (by omega)) (g2.v v30) ((put_size _ _ _).trans z2) (by omega)
  have z3 : ((a2.put (some 29) c29).put (some 30) c30).tmps.size = x.k := by rw [put_size, put_size]; exact z2
  have d3 : ((a2.put (some 29) c29).put (some 30) c30).defers = [] := by rw [put_defers, put_defers]; exact d2
  generalize ((a2.put (some 29) c29).put (some 30) c30) = a3 at *
  refine step_val rfl (cv := c31) (w' := w2) (by simp [execOp, resolve, invoke, builtin, e28', e30, r31]) ?_
  have e31 : (a3.put (some 31) c31).eval (.tmp 31) = c31 := eval_put (by omega)
  refine step_val rfl (cv := c32) (w' := w2) (by simp [execOp, resolve, invoke, builtin, e31, r32]) ?_
  refine step_val rfl (cv := .int .i64 0) (w' := w2) (by simp [execOp, Act.eval]) ?_
  show ∃ e h n, Q .normal e h n /\ Sat x e h n (((a3.put (some 31) c31).put (some 32) c32).put (some 33) (.int .i64 0)) w2
  have E4 := EnvRel.set (t := 33) (EnvRel.set (t := 32) (EnvRel.set (t := 31) E3 v31 z3 (by omega)) v32 ((put_size _ _ _).trans z3) (by omega)) (v_int .i64 0) (((put_size _ _ _).trans (put_size _ _ _)).trans z3) (by omega)
  refine ⟨_, h, n, hQ, S2, ρ, fun b c hb => g3.store b c (s1 b c hb), fun b h1 h2 => ?_, g2.rel, hfx, E4, hkept.trans g3.kept, by rw [put_size, put_size, put_size]; exact z3, by rw [put_defers, put_defers, put_defers]; exact d3, hn, hxn⟩
  by_cases hS : S b = none
  · exact g3.fresh b hS h2
  · exact s2 b h1 hS
theorem pick_region {hint : Hint} {i : Nat} {r m k j : Nat} {y : AV} {e : Env} {h : Heap} {n : Nat} {Q : AQ} {p0 p1 p2 : String} {f0 f1 f2 : Array Edge} {t0 t1 t2 : TypeId}
    (he : e.get 31 = .vec (vwL r m k)) (hj : e.get 33 = .int .i64 (j : Int)) (hy : (vwL r m k)[j]? = some y)
    (hQ : Q .normal ((8, y) :: (36, y) :: (35, .undef) :: e) h n) :
    UserP Tryz.prog hint (Code.region i ⟨[⟨some 35, .indexAddr 25 (.tmp 31) (.tmp 33), t0, p0, f0, none⟩, ⟨some 36, .load 24 (.tmp 35), t1, p1, f1, none⟩, ⟨some 8, .assign (.tmp 36), t2, p2, f2, none⟩]⟩ false)
      [⟨some 35, .indexAddr 25 (.tmp 31) (.tmp 33), t0, p0, f0, none⟩, ⟨some 36, .load 24 (.tmp 35), t1, p1, f1, none⟩, ⟨some 8, .assign (.tmp 36), t2, p2, f2, none⟩] Q e h n := by
  intro x a w hx0 hdst hs
  have h36 : 36 < x.k := dstOK_mem hdst (o := ⟨some 36, .load 24 (.tmp 35), t1, p1, f1, none⟩) (by simp) 36 rfl
  obtain ⟨S, ρ, s1, s2, hrel, hfx, hE, hkept, hk, hdf, hn, hxn⟩ := hs
  have hv31 : V S ρ h.look (.vec (vwL r m k)) (a.eval (.tmp 31)) := by have := hE 31; rw [he] at this; exact this
  have hv33 : V S ρ h.look (.int .i64 (j : Int)) (a.eval (.tmp 33)) := by have := hE 33; rw [hj] at this; exact this
  obtain ⟨ad, b, off, c, vals, cap, e31, hrow, hcap, hc, hv⟩ := hv31.vec_inv
  have hlt := (List.getElem?_eq_some_iff.1 hy).1
  obtain ⟨rfl, hSb⟩ := hrow (by intro h0; rw [h0] at hlt; simp at hlt)
  have e33 := hv33.int_inv
  obtain ⟨el, i2, z2, ht2, hi2, _, _, hsize, _⟩ := ap_spec ap25
  have hcell : w.cell? ⟨b, off + j, none⟩ = some (vals j) := by rw [(hrel.stab b c hSb).cell]; exact hc j y hy
  have r35 : (Instr.indexAt 25 (a.eval (.tmp 31)) (a.eval (.tmp 33))).run Tryz.prog w = .ok (.pointer (some ⟨b, off + j, none⟩)) w := by
    rw [e31, e33]
    have hlt2 : (j : Int) < ((vwL r m k).length : Int) := by omega
    simp [Instr.indexAt, run_underlying ht2, asIntOf, hlt2, hlt, sizeOf, typeInfo, hi2, hsize, add_none]
  have r36 : (Instr.loadAt 24 (.pointer (some ⟨b, off + j, none⟩))).run Tryz.prog w = .ok (vals j) w := by
    simp only [Instr.loadAt, Instr.sureAddr, Sem.run_bind, Sem.run_pure, Result.andThen_ok]
    exact run_loadVar_one td24 hcell
  refine wp_region ?_
  have hwl := wpOps_eq_wpList (P := Tryz.prog) (Q := fun ex a w => ∃ e h n, Q ex e h n /\ Sat x e h n a w) (ops := ⟨[⟨some 35, .indexAddr 25 (.tmp 31) (.tmp 33), t0, p0, f0, none⟩, ⟨some 36, .load 24 (.tmp 35), t1, p1, f1, none⟩, ⟨some 8, .assign (.tmp 36), t2, p2, f2, none⟩]⟩)
    [⟨some 35, .indexAddr 25 (.tmp 31) (.tmp 33), t0, p0, f0, none⟩, ⟨some 36, .load 24 (.tmp 35), t1, p1, f1, none⟩, ⟨some 8, .assign (.tmp 36), t2, p2, f2, none⟩] 0 (by simp)
  refine (congrFun (congrFun hwl a) w).mpr ?_
  refine step_val rfl (cv := .pointer (some ⟨b, off + j, none⟩)) (w' := w) (by simp only [execOp]; simp [r35]) ?_
  have e35 : (a.put (some 35) (.pointer (some ⟨b, off + j, none⟩))).eval (.tmp 35) = .pointer (some ⟨b, off + j, none⟩) := eval_put (by omega)
  refine step_val rfl (cv := vals j) (w' := w) (by simp [execOp, e35, r36]) ?_
  show wpList _ _ _ _ ((a.put (some 35) (.pointer (some ⟨b, off + j, none⟩))).put (some 36) (vals j)) w
  have e36 : ((a.put (some 35) (.pointer (some ⟨b, off + j, none⟩))).put (some 36) (vals j)).eval (.tmp 36) = vals j := eval_put (by rw [put_size]; omega)
  refine step_val rfl (cv := vals j) (w' := w) (by simp [execOp, e36]) ?_
  show ∃ e h n, Q .normal e h n /\ Sat x e h n (((a.put (some 35) (.pointer (some ⟨b, off + j, none⟩))).put (some 36) (vals j)).put (some 8) (vals j)) w
  have E4 := EnvRel.set (t := 8) (EnvRel.set (t := 36) (EnvRel.set (t := 35) (v := .undef) (cv := .pointer (some ⟨b, off + j, none⟩)) hE (.pure _ _ (.undef _)) hk (by omega)) (hv j y hy) ((put_size _ _ _).trans hk) (by omega)) (hv j y hy) (((put_size _ _ _).trans (put_size _ _ _)).trans hk) (by omega)
  exact ⟨_, h, n, hQ, S, ρ, s1, s2, hrel, hfx, E4, hkept, by rw [put_size, put_size, put_size]; exact hk, by rw [put_defers, put_defers, put_defers]; exact hdf, hn, hxn⟩
end Go.Proofs.YteefjdbdknkcjaaGreatDoor
namespace Go.Vc
set_option linter.unusedSimpArgs false
set_option linter.unusedVariables false
set_option linter.unusedSectionVars false

/-! counting -/
def cN (f : Nat -> Bool) : Nat -> Nat
  | 0 => 0
  | k + 1 => cN f k + (if f k then 1 else 0)
theorem cN_le (f : Nat -> Bool) : ∀ n, cN f n <= n
  | 0 => Nat.le_refl _
  | n + 1 => by have := cN_le f n; simp only [cN]; split <;> omega
theorem cN_add {f g h : Nat -> Bool} : ∀ {n : Nat}, (∀ j, j < n -> (if f j then 1 else 0) + (if g j then 1 else 0) <= (if h j then 1 else 0)) -> cN f n + cN g n <= cN h n
  | 0, _ => Nat.le_refl _
  | n + 1, H => by
    have h1 := cN_add (n := n) (fun j hj => H j (by omega))
    have h2 := H n (by omega)
    simp only [cN]; omega
theorem cN_pos {f : Nat -> Bool} : ∀ {n j : Nat}, j < n -> f j = true -> 0 < cN f n
  | 0, _, h, _ => by omega
  | n + 1, j, h, hf => by
    simp only [cN]
    by_cases e : j = n
    · subst e; rw [if_pos hf]; omega
    · have := cN_pos (n := n) (j := j) (by omega) hf; omega
theorem sumN_cN (f : Nat -> Bool) (c : Int) : ∀ n, sumN (fun j => if f j then c else 0) n = (cN f n : Int) * c
  | 0 => by simp [sumN, cN]
  | n + 1 => by
    have h := sumN_cN f c n
    simp only [sumN, cN, h]
    split
    · rw [Int.natCast_add, Int.add_mul]; simp
    · simp
theorem sumN_dvd {f : Nat -> Int} {c : Int} : ∀ {n : Nat}, (∀ j, j < n -> c ∣ f j) -> c ∣ sumN f n
  | 0, _ => Int.dvd_zero _
  | n + 1, h => by
    simp only [sumN]
    exact Int.dvd_add (sumN_dvd (n := n) fun j hj => h j (by omega)) (h n (by omega))

/-! the least of some numbers, -1 if there is none -/
def IsMn (x : Int) (P : Int -> Prop) : Prop := (x = -1 /\ ∀ c, ¬ P c) \/ (0 <= x /\ P x /\ ∀ c, P c -> x <= c)
def mnU (x c : Int) : Int := if x < 0 \/ c < x then c else x
theorem IsMn.congr {x : Int} {P Q : Int -> Prop} (h : IsMn x P) (e : ∀ c, P c ↔ Q c) : IsMn x Q := by
  have : P = Q := funext fun c => propext (e c)
  rwa [<- this]
theorem IsMn.upd {x c : Int} {P Q : Int -> Prop} (h : IsMn x P) (hc : 0 <= c) (e : ∀ y, Q y ↔ P y \/ y = c) : IsMn (mnU x c) Q := by
  refine IsMn.congr (P := fun y => P y \/ y = c) ?_ (fun y => (e y).symm)
  unfold mnU
  rcases h with ⟨rfl, h⟩ | ⟨h0, h1, h2⟩
  · rw [if_pos (.inl (by omega))]
    exact .inr ⟨hc, .inr rfl, fun y hy => by rcases hy with hy | hy; exact (h _ hy).elim; omega⟩
  · split
    · exact .inr ⟨hc, .inr rfl, fun y hy => by rcases hy with hy | hy; have := h2 _ hy; omega; omega⟩
    · exact .inr ⟨h0, .inl h1, fun y hy => by rcases hy with hy | hy; exact h2 _ hy; omega⟩
theorem IsMn.none : IsMn (-1) (fun _ => False) := .inl ⟨rfl, fun _ h => h⟩
def mn : List Int -> Int -> Int
  | [], x => x
  | c :: l, x => mn l (mnU x c)
theorem mn_is : ∀ (l : List Int) (x : Int) (P : Int -> Prop), IsMn x P -> (∀ c ∈ l, 0 <= c) -> IsMn (mn l x) (fun y => P y \/ y ∈ l)
  | [], x, P, h, _ => h.congr (fun c => by simp)
  | c :: l, x, P, h, hc => by
    have h1 := IsMn.upd (Q := fun y => P y \/ y = c) h (hc c (by simp)) (fun _ => Iff.rfl)
    exact (mn_is l _ _ h1 (fun y hy => hc y (by simp [hy]))).congr (fun y => by simp only [List.mem_cons]; rw [or_assoc])

/-! which numbers divide which -/
def LL : Nat -> Int
  | 0 => 1 | 1 => 1 | 2 => 2 | 3 => 6 | 4 => 12 | 5 => 60 | 6 => 360 | _ => 2520
theorem LL_mono : ∀ r : Nat, r < 8 -> ∀ q : Nat, q < r + 1 -> LL q ∣ LL r := by decide
theorem LL_step : ∀ r : Nat, r < 8 -> ∀ s : Nat, s < r + 1 -> 1 <= s -> (s : Int) * LL (r - s) ∣ LL r := by decide
theorem LL_unit : ∀ r : Nat, r < 8 -> LL r ∣ 2520 := by decide

/-! growth -/
structure St where
  now : Int
  p : List Int
  w : List Int
  t : List Int
section
variable (o : List Int) (d : List (List Int)) (s : St)
def gpr : List Int := tab d.length fun j => if ix s.w (j : Int) < 0 then s.now else ix s.p (j : Int)
def gcl (a : Nat) : Int := clm d (gpr d s) 2520 (a : Int)
def gti : List Int := tab o.length fun a => if ix s.t (a : Int) < 0 /\ gcl d s a = 2520 * ix o (a : Int) then s.now else ix s.t (a : Int)
def witF (now : Int) (t : List Int) (row : List Int) : Nat -> Int
  | 0 => -1
  | a + 1 => if (0 <= ix t (a : Int) /\ 2520 * ix row (a : Int) <= now) /\ (witF now t row a < 0 \/ ix t (a : Int) < ix t (witF now t row a)) then a else witF now t row a
def wit (j : Nat) : Int := witF s.now (gti o d s) (ix d (j : Int)) o.length
def gsett : St := ⟨s.now, tab d.length fun j => if ix s.w (j : Int) < 0 /\ 0 <= wit o d s j then s.now else ix s.p (j : Int),
  tab d.length fun j => if ix s.w (j : Int) < 0 then wit o d s j else ix s.w (j : Int), gti o d s⟩
def movingP : Prop := ∃ j, j < d.length /\ ix s.w (j : Int) < 0
instance : Decidable (movingP d s) := by unfold movingP; infer_instance
def gspB (a : Nat) (j : Nat) : Bool := decide (ix s.w (j : Int) < 0 /\ 2520 * ix (ix d (j : Int)) (a : Int) <= s.now)
def gsp (a : Nat) : Nat := cN (gspB d s a) d.length
def grest (a : Nat) : Int := 2520 * ix o (a : Int) - gcl d s a
def cand1 (c : Int) : Prop := ∃ j, j < d.length /\ ∃ a, a < o.length /\ ix s.w (j : Int) < 0 /\ s.now < c /\ c = 2520 * ix (ix d (j : Int)) (a : Int)
def cand2 (c : Int) : Prop := ∃ a, a < o.length /\ ix s.t (a : Int) < 0 /\ 0 < gsp d s a /\ c = s.now + (grest o d s a).tdiv (gsp d s a)
def candL : List Int := ((List.range d.length).flatMap fun (j : Nat) => (List.range o.length).filterMap fun (a : Nat) => if ix s.w (j : Int) < 0 /\ s.now < 2520 * ix (ix d (j : Int)) (a : Int) then some (2520 * ix (ix d (j : Int)) (a : Int)) else none) ++
  (List.range o.length).filterMap fun (a : Nat) => if ix s.t (a : Int) < 0 /\ 0 < gsp d s a then some (s.now + (grest o d s a).tdiv (gsp d s a)) else none
theorem candL_mem (c : Int) : c ∈ candL o d s ↔ cand1 o d s c \/ cand2 o d s c := by
  unfold candL cand1 cand2
  rw [List.mem_append]
  refine or_congr ⟨fun h => ?_, ?_⟩ ⟨fun h => ?_, ?_⟩
  · obtain ⟨j, hj, h⟩ := List.mem_flatMap.1 h
    obtain ⟨a, ha, h⟩ := List.mem_filterMap.1 h
    split at h
    · rename_i hc; cases h; exact ⟨j, List.mem_range.1 hj, a, List.mem_range.1 ha, hc.1, hc.2, rfl⟩
    · cases h
  · rintro ⟨j, hj, a, ha, h1, h2, rfl⟩
    exact List.mem_flatMap.2 ⟨j, List.mem_range.2 hj, List.mem_filterMap.2 ⟨a, List.mem_range.2 ha, by rw [if_pos ⟨h1, h2⟩]⟩⟩
  · obtain ⟨a, ha, h⟩ := List.mem_filterMap.1 h
    split at h
    · rename_i hc; cases h; exact ⟨a, List.mem_range.1 ha, hc.1, hc.2, rfl⟩
    · cases h
  · rintro ⟨a, ha, h1, h2, rfl⟩
    exact List.mem_filterMap.2 ⟨a, List.mem_range.2 ha, by rw [if_pos ⟨h1, h2⟩]⟩
def gstep : Int := mn (candL o d s) (-1)
def adv : St := ⟨gstep o d s, s.p, s.w, s.t⟩
end
def runF (o : List Int) (d : List (List Int)) : Nat -> St -> St
  | 0, s => s
  | k + 1, s => if movingP d (gsett o d s) then runF o d k (adv o d (gsett o d s)) else gsett o d s
def st0 (n m : Nat) : St := ⟨0, List.replicate m 0, List.replicate m (-1), List.replicate n (-1)⟩
def grown (o : List Int) (d : List (List Int)) : St := runF o d 1000000 (st0 o.length d.length)

structure GInv (o : List Int) (d : List (List Int)) (s : St) : Prop where
  f : FieldOK o d
  lp : s.p.length = d.length
  lw : s.w.length = d.length
  lt : s.t.length = o.length
  n0 : 0 <= s.now /\ s.now <= 498960
  ws : ∀ j, j < d.length -> -1 <= ix s.w (j : Int) /\ ix s.w (j : Int) < o.length
  pz : ∀ j, j < d.length -> ix s.w (j : Int) < 0 -> ix s.p (j : Int) = 0
  ps : ∀ j, j < d.length -> 0 <= ix s.w (j : Int) -> 0 <= ix s.p (j : Int) /\ ix s.p (j : Int) < s.now
  ts : ∀ a, a < o.length -> -1 <= ix s.t (a : Int) /\ ix s.t (a : Int) <= s.now
  ub : ∀ a, a < o.length -> ix s.t (a : Int) < 0 -> gcl d s a <= 2520 * ix o (a : Int)
  dv : LL (cN (fun j => decide (ix (gsett o d s).w (j : Int) < 0)) d.length) ∣ s.now /\ ∀ j, j < d.length -> 0 <= ix s.w (j : Int) -> LL (cN (fun j => decide (ix (gsett o d s).w (j : Int) < 0)) d.length) ∣ ix s.p (j : Int)

section
variable {o : List Int} {d : List (List Int)} {s : St}
theorem gpr_len : (gpr d s).length = d.length := tab_len _ _
theorem gpr_ix {j : Nat} (hj : j < d.length) : ix (gpr d s) (j : Int) = if ix s.w (j : Int) < 0 then s.now else ix s.p (j : Int) := tab_ix hj
theorem gti_ix {a : Nat} (ha : a < o.length) : ix (gti o d s) (a : Int) = if ix s.t (a : Int) < 0 /\ gcl d s a = 2520 * ix o (a : Int) then s.now else ix s.t (a : Int) := tab_ix ha
theorem set_w {j : Nat} (hj : j < d.length) : ix (gsett o d s).w (j : Int) = if ix s.w (j : Int) < 0 then wit o d s j else ix s.w (j : Int) := tab_ix hj
theorem set_p {j : Nat} (hj : j < d.length) : ix (gsett o d s).p (j : Int) = if ix s.w (j : Int) < 0 /\ 0 <= wit o d s j then s.now else ix s.p (j : Int) := tab_ix hj
theorem witF_bd (now : Int) (t row : List Int) : ∀ n, -1 <= witF now t row n /\ witF now t row n < n
  | 0 => by simp [witF]
  | n + 1 => by have := witF_bd now t row n; unfold witF; split <;> omega
theorem witF_pos {now : Int} {t row : List Int} {a : Nat} (h : 0 <= ix t (a : Int) /\ 2520 * ix row (a : Int) <= now) : ∀ {n : Nat}, a < n -> 0 <= witF now t row n
  | 0, hn => by omega
  | n + 1, hn => by
    unfold witF
    by_cases e : a = n
    · subst e
      split
      · omega
      · rename_i hc
        by_cases hw : witF now t row a < 0
        · exact (hc ⟨h, .inl hw⟩).elim
        · omega
    · have := witF_pos h (n := n) (by omega)
      split <;> omega
theorem wit_bd (j : Nat) : -1 <= wit o d s j /\ wit o d s j < o.length := witF_bd _ _ _ _
theorem gpr_gsett : gpr d (gsett o d s) = gpr d s := by
  refine tab_congr (fun j hj => ?_)
  rw [set_w hj, set_p hj]
  show (if _ then s.now else _) = _
  by_cases h : ix s.w (j : Int) < 0
  · by_cases h2 : 0 <= wit o d s j
    · simp [h, h2]
    · have := (wit_bd (o := o) (d := d) (s := s) j).1
      simp [h, h2]
  · simp [h]
theorem gcl_gsett (a : Nat) : gcl d (gsett o d s) a = gcl d s a := by unfold gcl; rw [gpr_gsett]

theorem GInv.clm (h : GInv o d s) : ClmOK o d (gpr d s) 2520 :=
  ⟨h.f, gpr_len, fun k hk => by
    rw [gpr_len] at hk
    rw [gpr_ix hk]
    have := h.n0
    split
    · omega
    · have := h.ps k hk (by omega); omega, by omega⟩
theorem GInv.less (h : GInv o d s) {a : Nat} (ha : a < o.length) (ht : ix (gti o d s) (a : Int) < 0) : ix s.t (a : Int) < 0 /\ gcl d s a < 2520 * ix o (a : Int) := by
  rw [gti_ix ha] at ht
  have h0 := h.n0
  split at ht
  · omega
  · rename_i hc
    have := h.ub a ha ht
    exact ⟨ht, by have hne : gcl d s a ≠ 2520 * ix o (a : Int) := fun e => hc ⟨ht, e⟩; omega⟩
theorem GInv.ent (h : GInv o d s) {j a : Nat} (hj : j < d.length) (ha : a < o.length) : 0 <= ix (ix d (j : Int)) (a : Int) /\ ix (ix d (j : Int)) (a : Int) <= 99 := by
  have hr := ix_mem d hj
  have := h.f.len _ hr
  exact h.f.d99 _ hr _ (ix_mem _ (by omega))
theorem GInv.opn (h : GInv o d s) {a : Nat} (ha : a < o.length) : 0 <= ix o (a : Int) /\ ix o (a : Int) <= 99 := h.f.o99 _ (ix_mem o ha)
theorem dvd_max0 {c x y : Int} (h1 : c ∣ x) (h2 : c ∣ y) : c ∣ max 0 (x - y) := by
  rcases Int.le_total (x - y) 0 with h | h
  · rw [show max 0 (x - y) = 0 by omega]; exact Int.dvd_zero _
  · rw [show max 0 (x - y) = x - y by omega]; exact Int.dvd_sub h1 h2
def gcnt (d : List (List Int)) (s : St) : Nat := cN (fun j => decide (ix s.w (j : Int) < 0)) d.length
theorem GInv.cnt8 (h : GInv o d s) (t : St) : gcnt d t < 8 := by have := cN_le (fun j => decide (ix t.w (j : Int) < 0)) d.length; have := h.f.m7; unfold gcnt; omega
theorem GInv.sw (h : GInv o d s) {j : Nat} (hj : j < d.length) : -1 <= ix (gsett o d s).w (j : Int) /\ ix (gsett o d s).w (j : Int) < o.length := by
  rw [set_w hj]; have := h.ws j hj; have := wit_bd (o := o) (d := d) (s := s) j
  split <;> omega
theorem GInv.sp (h : GInv o d s) {j : Nat} (hj : j < d.length) (hw : 0 <= ix (gsett o d s).w (j : Int)) :
    (0 <= ix (gsett o d s).p (j : Int) /\ ix (gsett o d s).p (j : Int) <= s.now) /\ LL (gcnt d (gsett o d s)) ∣ ix (gsett o d s).p (j : Int) := by
  rw [set_w hj] at hw
  rw [set_p hj]
  have hn := h.n0
  by_cases h1 : ix s.w (j : Int) < 0
  · rw [if_pos h1] at hw
    rw [if_pos ⟨h1, hw⟩]
    exact ⟨by omega, h.dv.1⟩
  · rw [if_neg (fun h => h1 h.1)]
    have := h.ps j hj (by omega)
    exact ⟨by omega, h.dv.2 j hj (by omega)⟩
theorem GInv.sz (h : GInv o d s) {j : Nat} (hj : j < d.length) (hw : ix (gsett o d s).w (j : Int) < 0) : ix s.w (j : Int) < 0 /\ ix (gsett o d s).p (j : Int) = 0 := by
  have h0 := h.ws j hj
  rw [set_w hj] at hw
  rw [set_p hj]
  split at hw
  · rename_i h1; rw [if_neg (by omega)]; exact ⟨h1, h.pz j hj h1⟩
  · omega
theorem GInv.gdv (h : GInv o d s) (a : Nat) : LL (gcnt d (gsett o d s)) ∣ grest o d (gsett o d s) a := by
  have hu := LL_unit _ (h.cnt8 (gsett o d s))
  refine Int.dvd_sub (Int.dvd_trans hu (Int.dvd_mul_right _ _)) (sumN_dvd (fun j hj => ?_))
  rw [gpr_len] at hj
  refine dvd_max0 ?_ (Int.dvd_trans hu (Int.dvd_mul_right _ _))
  rw [gpr_ix hj]
  split
  · exact h.dv.1
  · exact (h.sp hj (by omega)).2
theorem gsp_le (t : St) (a : Nat) : gsp d t a <= gcnt d t := by
  have := cN_add (f := gspB d t a) (g := fun _ => false) (h := fun j => decide (ix t.w (j : Int) < 0)) (n := d.length) (fun j _ => by
    unfold gspB
    by_cases h : ix t.w (j : Int) < 0 <;> simp [h]
    split <;> omega)
  unfold gsp gcnt; omega
theorem GInv.quo (h : GInv o d s) {a : Nat} (ha : a < o.length) (ht : ix (gsett o d s).t (a : Int) < 0) (hs : 0 < gsp d (gsett o d s) a) :
    ∃ q, grest o d (gsett o d s) a = gsp d (gsett o d s) a * q /\ (grest o d (gsett o d s) a).tdiv (gsp d (gsett o d s) a) = q /\ 1 <= q /\ LL (gcnt d (gsett o d s) - gsp d (gsett o d s) a) ∣ q := by
  have h8 := h.cnt8 (gsett o d s)
  have hle := gsp_le (d := d) (gsett o d s) a
  have hdv := h.gdv a
  have hless := (h.less ha ht).2
  rw [<- gcl_gsett (o := o)] at hless
  have hr : 0 < grest o d (gsett o d s) a := by unfold grest; omega
  obtain ⟨k, hk⟩ := Int.dvd_trans (LL_step _ h8 _ (by omega) hs) hdv
  generalize gsp d (gsett o d s) a = sp at *
  generalize grest o d (gsett o d s) a = g at *
  generalize LL (gcnt d (gsett o d s) - sp) = l at *
  rw [Int.mul_assoc] at hk
  refine ⟨l * k, hk, by rw [hk]; exact Int.mul_tdiv_cancel_left _ (by omega), ?_, Int.dvd_mul_right _ _⟩
  generalize l * k = q at *
  refine Int.not_lt.1 (fun hq => ?_)
  have : (sp : Int) * q <= 0 := Int.mul_nonpos_of_nonneg_of_nonpos (by omega) (by omega)
  omega
theorem GInv.cpos (h : GInv o d s) {c : Int} (hc : cand1 o d (gsett o d s) c \/ cand2 o d (gsett o d s) c) : s.now < c := by
  rcases hc with ⟨j, hj, a, ha, _, h2, _⟩ | ⟨a, ha, ht, hs, rfl⟩
  · exact h2
  · obtain ⟨q, _, e, h1, _⟩ := h.quo ha ht hs
    rw [e]; show s.now < s.now + q; omega
theorem GInv.step_is (h : GInv o d s) : IsMn (gstep o d (gsett o d s)) (fun c => cand1 o d (gsett o d s) c \/ cand2 o d (gsett o d s) c) := by
  have := mn_is (candL o d (gsett o d s)) (-1) _ IsMn.none (fun c hc => by have := h.cpos ((candL_mem o d _ c).1 hc); have := h.n0; omega)
  exact this.congr (fun c => by rw [candL_mem]; simp)
theorem GInv.some_cand (h : GInv o d s) (hm : movingP d (gsett o d s)) : ∃ c, cand1 o d (gsett o d s) c \/ cand2 o d (gsett o d s) c := by
  obtain ⟨j, hj, hw⟩ := hm
  by_cases hb : ∃ a, a < o.length /\ s.now < 2520 * ix (ix d (j : Int)) (a : Int)
  · obtain ⟨a, ha, hb⟩ := hb
    exact ⟨_, .inl ⟨j, hj, a, ha, hw, hb, rfl⟩⟩
  · have hn := h.f.n1
    have h0 : 2520 * ix (ix d (j : Int)) ((0 : Nat) : Int) <= s.now := Int.not_lt.1 (fun hh => hb ⟨0, hn, hh⟩)
    have hs : 0 < gsp d (gsett o d s) 0 := cN_pos hj (decide_eq_true ⟨hw, h0⟩)
    refine ⟨_, .inr ⟨0, hn, Int.not_le.1 (fun ht => ?_), hs, rfl⟩⟩
    have h1 := h.sz hj hw
    have h2 := set_w (o := o) (s := s) hj
    rw [if_pos h1.1] at h2
    have h3 : 0 <= wit o d s j := witF_pos (a := 0) ⟨ht, h0⟩ hn
    omega
theorem GInv.lin (h : GInv o d s) {y : Int} (h0 : s.now <= y) (hy : ∀ j, j < d.length -> ix (gsett o d s).w (j : Int) < 0 -> ∀ a, a < o.length -> s.now < 2520 * ix (ix d (j : Int)) (a : Int) -> y <= 2520 * ix (ix d (j : Int)) (a : Int))
    {a : Nat} (ha : a < o.length) : gcl d ⟨y, (gsett o d s).p, (gsett o d s).w, (gsett o d s).t⟩ a = gcl d (gsett o d s) a + gsp d (gsett o d s) a * (y - s.now) := by
  unfold gcl Go.Vc.clm gsp
  rw [gpr_len, gpr_len, <- sumN_cN, <- sumN_add]
  refine sumN_congr (fun j hj => ?_)
  unfold clmT
  rw [gpr_ix hj, gpr_ix hj]
  unfold gspB
  have hn : (gsett o d s).now = s.now := rfl
  simp only [hn]
  by_cases hw : ix (gsett o d s).w (j : Int) < 0
  · simp only [hw, if_true, true_and, decide_eq_true_eq]
    have := hy j hj hw a ha
    split <;> omega
  · simp [hw]
theorem GInv.adv (h : GInv o d s) (hm : movingP d (gsett o d s)) : GInv o d (adv o d (gsett o d s)) /\ s.now < (Go.Vc.adv o d (gsett o d s)).now := by
  have hmn := h.step_is
  obtain ⟨c0, hc0⟩ := h.some_cand hm
  have hn0 := h.n0
  obtain ⟨hx0, hxc, hxm⟩ : 0 <= gstep o d (gsett o d s) /\ (cand1 o d (gsett o d s) (gstep o d (gsett o d s)) \/ cand2 o d (gsett o d s) (gstep o d (gsett o d s))) /\ ∀ c, (cand1 o d (gsett o d s) c \/ cand2 o d (gsett o d s) c) -> gstep o d (gsett o d s) <= c := by
    rcases hmn with ⟨_, hno⟩ | h3
    · exact (hno _ hc0).elim
    · exact h3
  have hX : Go.Vc.adv o d (gsett o d s) = ⟨gstep o d (gsett o d s), (gsett o d s).p, (gsett o d s).w, (gsett o d s).t⟩ := rfl
  rw [hX]
  generalize gstep o d (gsett o d s) = X at *
  have hNX := h.cpos hxc
  have hlin := fun {a : Nat} (ha : a < o.length) => h.lin (y := X) (by omega) (fun j hj hw a ha hb => hxm _ (.inl ⟨j, hj, a, ha, hw, hb, rfl⟩)) ha
  have hub : ∀ a, a < o.length -> ix (gsett o d s).t (a : Int) < 0 -> gcl d ⟨X, (gsett o d s).p, (gsett o d s).w, (gsett o d s).t⟩ a <= 2520 * ix o (a : Int) := fun a ha ht => by
    rw [hlin ha]
    have hl := (h.less ha ht).2
    rw [<- gcl_gsett (o := o)] at hl
    by_cases hs : 0 < gsp d (gsett o d s) a
    · obtain ⟨q, e1, e2, _, _⟩ := h.quo ha ht hs
      have hq := hxm _ (.inr ⟨a, ha, ht, hs, rfl⟩)
      rw [e2] at hq
      have hq : X - s.now <= q := by have : X <= s.now + q := hq; omega
      have := Int.mul_le_mul_of_nonneg_left hq (show (0 : Int) <= (gsp d (gsett o d s) a : Nat) by omega)
      unfold grest at e1
      omega
    · rw [show gsp d (gsett o d s) a = 0 by omega]
      simp; omega
  have htb : ∀ a, a < o.length -> -1 <= ix (gsett o d s).t (a : Int) /\ ix (gsett o d s).t (a : Int) <= s.now := fun a ha => by
    have e := gti_ix (d := d) (s := s) ha
    have e2 : ix (gsett o d s).t (a : Int) = ix (gti o d s) (a : Int) := rfl
    have := h.ts a ha
    rw [e2, e]; split <;> omega
  have hbd : X <= 498960 := by
    obtain ⟨j, hj, hw⟩ := hm
    by_cases hb : ∃ a, a < o.length /\ s.now < 2520 * ix (ix d (j : Int)) (a : Int)
    · obtain ⟨a, ha, hb⟩ := hb
      have := hxm _ (.inl ⟨j, hj, a, ha, hw, hb, rfl⟩)
      have := h.ent hj ha
      omega
    · have hn := h.f.n1
      have h0 : 2520 * ix (ix d (j : Int)) ((0 : Nat) : Int) <= s.now := Int.not_lt.1 (fun hh => hb ⟨0, hn, hh⟩)
      have ht : ix (gsett o d s).t ((0 : Nat) : Int) < 0 := Int.not_le.1 (fun ht => by
        have h1 := h.sz hj hw
        have h2 := set_w (o := o) (s := s) hj
        rw [if_pos h1.1] at h2
        have h3 : 0 <= wit o d s j := witF_pos (a := 0) ⟨ht, h0⟩ hn
        omega)
      have h1 := hub 0 hn ht
      have h2 : clmT d (gpr d ⟨X, (gsett o d s).p, (gsett o d s).w, (gsett o d s).t⟩) 2520 ((0 : Nat) : Int) j <= gcl d ⟨X, (gsett o d s).p, (gsett o d s).w, (gsett o d s).t⟩ 0 := sumN_get (clmT_nn _ _ _ _) (by rw [gpr_len]; exact hj)
      have h3 : clmT d (gpr d ⟨X, (gsett o d s).p, (gsett o d s).w, (gsett o d s).t⟩) 2520 ((0 : Nat) : Int) j = max 0 (ix (gpr d ⟨X, (gsett o d s).p, (gsett o d s).w, (gsett o d s).t⟩) (j : Int) - 2520 * ix (ix d (j : Int)) ((0 : Nat) : Int)) := rfl
      rw [gpr_ix hj] at h3
      simp only [hw, if_true] at h3
      have := h.ent hj hn
      have := h.opn hn
      omega
  refine ⟨⟨h.f, tab_len _ _, tab_len _ _, tab_len _ _, ⟨by omega, hbd⟩, fun j hj => h.sw hj, fun j hj hw => (h.sz hj hw).2, fun j hj hw => ?_, fun a ha => ?_, hub, ?_⟩, hNX⟩
  · have := (h.sp hj hw).1; exact ⟨this.1, Int.lt_of_le_of_lt this.2 hNX⟩
  · have := htb a ha; exact ⟨this.1, Int.le_of_lt (Int.lt_of_le_of_lt this.2 hNX)⟩
  · -- what divides
    have h8 := h.cnt8 (gsett o d s)
    have hle1 : ∀ j, j < d.length -> (ix (gsett o d ⟨X, (gsett o d s).p, (gsett o d s).w, (gsett o d s).t⟩).w (j : Int) < 0 -> ix (gsett o d s).w (j : Int) < 0) := fun j hj hw => by
      rw [set_w hj] at hw
      have e : ix (gsett o d s).w (j : Int) = ix (St.mk X (gsett o d s).p (gsett o d s).w (gsett o d s).t).w (j : Int) := rfl
      split at hw
      · rename_i h1; exact h1
      · exact hw
    have hmono : gcnt d (gsett o d ⟨X, (gsett o d s).p, (gsett o d s).w, (gsett o d s).t⟩) <= gcnt d (gsett o d s) := by
      have := cN_add (f := fun j => decide (ix (gsett o d ⟨X, (gsett o d s).p, (gsett o d s).w, (gsett o d s).t⟩).w (j : Int) < 0)) (g := fun _ => false) (h := fun j => decide (ix (gsett o d s).w (j : Int) < 0)) (n := d.length) (fun j hj => by
        by_cases h1 : ix (gsett o d ⟨X, (gsett o d s).p, (gsett o d s).w, (gsett o d s).t⟩).w (j : Int) < 0
        · simp [h1, hle1 j hj h1]
        · simp [h1])
      unfold gcnt; omega
    have hgoal : ∀ r1, gcnt d (gsett o d ⟨X, (gsett o d s).p, (gsett o d s).w, (gsett o d s).t⟩) = r1 -> LL r1 ∣ X /\ ∀ j, j < d.length -> 0 <= ix (gsett o d s).w (j : Int) -> LL r1 ∣ ix (gsett o d s).p (j : Int) := fun r1 hr1 => by
      rw [hr1] at hmono
      have hd1 := LL_mono _ h8 r1 (by omega)
      refine ⟨?_, fun j hj hw => Int.dvd_trans hd1 (h.sp hj hw).2⟩
      rcases hxc with ⟨j, hj, a, ha, hw, _, e⟩ | ⟨a, ha, ht, hs, e⟩
      · rw [e]; exact Int.dvd_trans (LL_unit _ (by omega)) (Int.dvd_mul_right _ _)
      · obtain ⟨q, e1, e2, e3, e4⟩ := h.quo ha ht hs
        rw [e2] at e
        have hXe : X = s.now + q := e
        have hle := gsp_le (d := d) (gsett o d s) a
        have hcl : gcl d ⟨X, (gsett o d s).p, (gsett o d s).w, (gsett o d s).t⟩ a = 2520 * ix o (a : Int) := by
          rw [hlin ha, show X - s.now = q by omega, <- e1]; unfold grest; omega
        have htight : 0 <= ix (gti o d ⟨X, (gsett o d s).p, (gsett o d s).w, (gsett o d s).t⟩) (a : Int) := by
          rw [gti_ix ha, if_pos ⟨ht, hcl⟩]; show 0 <= X; omega
        have hcnt : r1 + gsp d (gsett o d s) a <= gcnt d (gsett o d s) := by
          rw [<- hr1]
          refine cN_add (fun j hj => ?_)
          by_cases hg : gspB d (gsett o d s) a j = true
          · have hg2 := hg
            unfold gspB at hg2
            have hg2 := of_decide_eq_true hg2
            have hle2 : 2520 * ix (ix d (j : Int)) (a : Int) <= s.now := hg2.2
            have hst : 0 <= ix (gsett o d ⟨X, (gsett o d s).p, (gsett o d s).w, (gsett o d s).t⟩).w (j : Int) := by
              rw [set_w hj, if_pos hg2.1]
              exact witF_pos (a := a) ⟨htight, by show _ <= X; omega⟩ ha
            have hst' : ¬ ix (gsett o d ⟨X, (gsett o d s).p, (gsett o d s).w, (gsett o d s).t⟩).w (j : Int) < 0 := by omega
            simp only [hst', decide_false, hg, hg2.1, decide_true]
            decide
          · have hg : gspB d (gsett o d s) a j = false := by simpa using hg
            by_cases h1 : ix (gsett o d ⟨X, (gsett o d s).p, (gsett o d s).w, (gsett o d s).t⟩).w (j : Int) < 0
            · simp [h1, hle1 j hj h1, hg]
            · simp [h1, hg]
        have hd2 := LL_mono _ h8 (gcnt d (gsett o d s) - gsp d (gsett o d s) a) (by omega)
        have hd3 := LL_mono (gcnt d (gsett o d s) - gsp d (gsett o d s) a) (by omega) r1 (by omega)
        rw [hXe]
        exact Int.dvd_add (Int.dvd_trans hd1 h.dv.1) (Int.dvd_trans hd3 e4)
    exact hgoal _ rfl
def Going (o : List Int) (d : List (List Int)) (s : St) : Prop := GInv o d s /\ ∃ k : Nat, (k : Int) <= s.now /\ runF o d (1000000 - k) s = grown o d
theorem Going.next {o : List Int} {d : List (List Int)} {s : St} (h : Going o d s) (hm : movingP d (gsett o d s)) : Going o d (Go.Vc.adv o d (gsett o d s)) /\ s.now < (Go.Vc.adv o d (gsett o d s)).now := by
  obtain ⟨hi, k, hk, e⟩ := h
  obtain ⟨h1, h2⟩ := hi.adv hm
  have hn := hi.n0
  refine ⟨⟨h1, k + 1, by omega, ?_⟩, h2⟩
  rw [<- e, show 1000000 - k = (1000000 - (k + 1)) + 1 by omega]
  show _ = if movingP d (gsett o d s) then _ else _
  rw [if_pos hm]
theorem Going.done {o : List Int} {d : List (List Int)} {s : St} (h : Going o d s) (hm : ¬ movingP d (gsett o d s)) : gsett o d s = grown o d := by
  obtain ⟨hi, k, hk, e⟩ := h
  have hn := hi.n0
  rw [<- e, show 1000000 - k = (1000000 - (k + 1)) + 1 by omega]
  show _ = if movingP d (gsett o d s) then _ else _
  rw [if_neg hm]
end
end Go.Vc
namespace Go.Vc
set_option linter.unusedSimpArgs false
set_option linter.unusedVariables false
def stB (w : List Int) : List Bool := w.map fun x => decide (0 <= x)
def stW (w : List Int) : List Int := w.map fun x => max 0 x
def unW (bs : List Bool) (wt : List Int) : List Int := tab bs.length fun j => if ix bs (j : Int) = true then ix wt (j : Int) else -1
section
variable {o : List Int} {d : List (List Int)} {s : St}
end
def brkP (o : List Int) (d : List (List Int)) (now : Int) (bs : List Bool) (j : Nat) (c : Int) : Prop := ∃ j', j' < j /\ ∃ a : Nat, a < o.length /\ ix bs (j' : Int) = false /\ now < c /\ c = 2520 * ix (ix d (j' : Int)) (a : Int)
def brkL (o : List Int) (d : List (List Int)) (now : Int) (bs : List Bool) : List Int :=
  (List.range d.length).flatMap fun (j : Nat) => (List.range o.length).filterMap fun (a : Nat) => if ix bs (j : Int) = false /\ now < 2520 * ix (ix d (j : Int)) (a : Int) then some (2520 * ix (ix d (j : Int)) (a : Int)) else none
def candA (o : List Int) (d : List (List Int)) (t : St) (k : Nat) (c : Int) : Prop := cand1 o d t c \/ ∃ a, a < k /\ ix t.t (a : Int) < 0 /\ 0 < gsp d t a /\ c = t.now + (grest o d t a).tdiv (gsp d t a)
end Go.Vc
namespace Go.Vc
set_option linter.unusedSimpArgs false
set_option linter.unusedVariables false
set_option linter.unusedSectionVars false

theorem IsMn.le {x b : Int} {P : Int -> Prop} (h : IsMn x P) (hb : -1 <= b) (hP : ∀ c, P c -> c <= b) : x <= b := by
  rcases h with ⟨rfl, _⟩ | ⟨_, h1, _⟩
  · exact hb
  · exact hP _ h1
theorem IsMn.ge {x : Int} {P : Int -> Prop} (h : IsMn x P) : -1 <= x := by
  rcases h with ⟨rfl, _⟩ | ⟨h1, _, _⟩ <;> omega
end Go.Vc
namespace Go.Vc
set_option linter.unusedSimpArgs false
set_option linter.unusedVariables false
set_option linter.unusedSectionVars false

theorem set_self {α : Type} [Inhabited α] {xs : List α} {k : Nat} (h : k < xs.length) : xs.set k (ix xs (k : Int)) = xs := by
  refine List.ext_getElem? fun j => ?_
  by_cases e : k = j
  · subst e; rw [List.getElem?_set_self h, ix_some xs h]
  · rw [List.getElem?_set_ne e]
section
variable {o : List Int} {d : List (List Int)} {s : St}
def candI (o : List Int) (d : List (List Int)) (t : St) (k i : Nat) (c : Int) : Prop :=
  (∃ a, a < k /\ ((∃ j, j < d.length /\ ix t.w (j : Int) < 0 /\ t.now < c /\ c = 2520 * ix (ix d (j : Int)) (a : Int)) \/ (ix t.t (a : Int) < 0 /\ 0 < gsp d t a /\ c = t.now + (grest o d t a).tdiv (gsp d t a)))) \/
    ∃ j, j < i /\ ix t.w (j : Int) < 0 /\ t.now < c /\ c = 2520 * ix (ix d (j : Int)) (k : Int)
end
end Go.Vc
namespace Go.Proofs.YteefjdbdknkcjaaGreatDoor
open Go.Vc
set_option maxRecDepth 100000
set_option maxHeartbeats 1600000
set_option linter.unusedSimpArgs false
set_option linter.unusedVariables false
theorem over_keep (b : Int) {x : List Int} {a : Nat} (h : a < x.length) (h0 : ix x (a : Int) = 0) : over (scl b x) x (a + 1) = over (scl b x) x a := by
  have e1 := row_step b h
  have e2 := over_ix (scl b x) x (scl_len b x).symm h
  have hl := over_len (scl b x) x (scl_len b x).symm (show a <= x.length by omega)
  rw [<- e1, h0, Int.zero_mul, <- h0, <- e2]
  exact set_self (by omega)
def g_scaleI : List AV -> Prop × AV × Heap
  | [.agg [.ints o, .rows d], .int .i64 n] => ((o.length <= 1048576000 /\ d.length <= 1048576000 /\ ∀ x ∈ d, x.length <= 1048576000) /\ RK .i64 n, .tup [.agg [.sl 1, .mt 2], .bool (sclB o d n)], [(1, .arr (.ints (bif sclB o d n then scl (min n 100) o else []))), (2, .mat (bif sclB o d n then d.map (scl (min n 100)) else []))])
  | _ => (False, .undef, [])
theorem g_scaleI_eq (o : List Int) (d : List (List Int)) (n : Int) : g_scaleI [.agg [.ints o, .rows d], .int .i64 n] = ((o.length <= 1048576000 /\ d.length <= 1048576000 /\ ∀ x ∈ d, x.length <= 1048576000) /\ RK .i64 n, .tup [.agg [.sl 1, .mt 2], .bool (sclB o d n)], [(1, .arr (.ints (bif sclB o d n then scl (min n 100) o else []))), (2, .mat (bif sclB o d n then d.map (scl (min n 100)) else []))]) := (rfl)
theorem scaleI_ok (o : List Int) (d : List (List Int)) (n : Int) (hp : (o.length <= 1048576000 /\ d.length <= 1048576000 /\ ∀ x ∈ d, x.length <= 1048576000) /\ RK .i64 n) : SpecOK Tryz.prog 12 [.agg [.ints o, .rows d], .int .i64 n] (.tup [.agg [.sl 1, .mt 2], .bool (sclB o d n)]) [(1, .arr (.ints (bif sclB o d n then scl (min n 100) o else []))), (2, .mat (bif sclB o d n then d.map (scl (min n 100)) else []))] := by
  refine fun_ok (C := t_isF ++ t_cloneI ++ t_copyL) (hint := hintX [4, 6, 21, 24] [(2, [.post, .upf 4 0 (.arr (.ints [])), .upf 4 1 (.mat [])]), (4, [.mv 0 0]), (6, [.mv 0 0]), (14, [.cut [6, 4, 5]]), (15, [.post, .drop [1, 2, 3] 1, .upf 4 0 (.arr (.ints [])), .upf 4 1 (.mat [])])] 0 [] [] [] []) (((t_isF_ok).append t_cloneI_ok).append t_copyL_ok) mixed Tryz.func12 rfl (by kernel_rfl) rfl ?_
  show codeA _ _ _ _ _ _ _ _
  simp only [go_sem, Tryz.results12]
  obtain ⟨hpre, hn⟩ := hp
  refine ⟨hpre, partB_intro (fun hg => fork_intro (fun h1 => ?_) (fun h1 => ?_)) (fun hg => ?_)⟩
  · have hB : sclB o d n = false := by unfold sclB; rw [decide_eq_false (by omega), Bool.false_and, Bool.and_false]
    rw [hB]
    exact ⟨rfl, rfl, rfl⟩
  · have hF := good_iff.1 hg
    have hn7 := hF.n7
    have hm7 := hF.m7
    have hB : sclB o d n = good (scl (min n 100) o) (d.map (scl (min n 100))) := by unfold sclB; rw [hg, decide_eq_true (by omega), Bool.true_and, Bool.true_and]
    rw [hB]
    generalize hb : min n 100 = b at *
    have hb1 : 1 <= b /\ b <= 100 := by omega
    refine ⟨by omega, ⟨by omega, hpre.2.2⟩, view_region (q := 3) (r := 1) (m := 2) rfl rfl rfl rfl (by omega) ?_⟩
    refine loop_intro (fun j : Nat => [(33, .int .i64 j), (32, .int .i64 ((d.length : Int) + 1)), (31, .vec (vwL 1 2 d.length)), (6, .bx 3 0), (4, .bx 0 0), (5, .bool false), (1, .int .i64 n)]) (fun j => [(0, .box [.nils, .nils]), (1, .arr (.ints (if j = 0 then o else scl b o))), (2, .mat (over (d.map (scl b)) d (j - 1))), (3, .box [.sl 1, .mt 2])]) 4 (fun j => j <= d.length + 1) (fun j => d.length + 1 - j) 0 (Nat.zero_le _) (Nat.zero_le _) ?_ ?_
    · simp only [go_sem, tr_vec, co_vec, over_zero]
      repeat' (first | refine fork_intro (fun hb => ?_) (fun hb => ?_) | refine partB_intro (fun hb => ?_) (fun hb => ?_) | refine And.intro ?_ ?_)
      all_goals first | exact True.intro | omega | with_reducible rfl | exact congrArg (AV.int _) (by omega) | (first | rfl | exact congrArg AV.vec (vwL_tr rfl (fun _ => rfl)))
    · intro j hj
      simp only [go_sem]
      refine fork_intro (fun hc => ?_) (fun hc => ?_)
      · have hjl : j < (vwL 1 2 d.length).length := by rw [vwL_len]; omega
        have hml := over_len (d.map (scl b)) d (by simp) (show j - 1 <= d.length by omega)
        rcases j with _ | p
        · refine pick_region (r := 1) (m := 2) (k := d.length) (j := 0) (y := .sl 1) rfl rfl rfl ?_
          simp only [go_sem]
          refine loop_intro (fun i : Nat => [(39, .int .i64 i), (38, .int .i64 o.length), (37, .sl 1), (8, .sl 1), (33, .int .i64 0), (32, .int .i64 ((d.length : Int) + 1)), (31, .vec (vwL 1 2 d.length)), (6, .bx 3 0), (4, .bx 0 0), (5, .bool false), (1, .int .i64 n)]) (fun i => [(0, .box [.nils, .nils]), (1, .arr (.ints (over (scl b o) o i))), (2, .mat d), (3, .box [.sl 1, .mt 2])]) 4 (fun i => i <= o.length) (fun i => o.length - i) 0 (Nat.zero_le _) (Nat.zero_le _) ?_ ?_
          · simp only [go_sem, tr_vec, co_vec, over_zero]
            repeat' (first | refine fork_intro (fun hb => ?_) (fun hb => ?_) | refine partB_intro (fun hb => ?_) (fun hb => ?_) | refine And.intro ?_ ?_)
            all_goals first | exact True.intro | omega | with_reducible rfl | exact congrArg (AV.int _) (by omega) | (first | rfl | exact congrArg AV.vec (vwL_tr rfl (fun _ => rfl)))
          · intro i hi
            have hol := over_len (scl b o) o (scl_len b o).symm hi
            simp only [go_sem, hb]
            refine fork_intro (fun hc2 => ?_) (fun hc2 => ?_)
            · have hil : i < o.length := by omega
              have hx := over_ix (scl b o) o (scl_len b o).symm hil
              have hx0 := hF.o99 _ (ix_mem o hil)
              have hxb := scl_bnd hb1 hx0
              have hst := row_step b hil
              rw [hx]
              refine ⟨by omega, fork_intro (fun h0 => ?_) (fun h0 => ?_)⟩
              · refine ⟨by omega, by omega, by omega, ?_⟩
                rw [hst]
                refine LoopEnd.intro (i + 1) ?_ ?_ (Nat.zero_le _) ?_ <;> (try omega)
                simp only [go_sem, tr_vec, co_vec]
                repeat' (first | refine fork_intro (fun hb => ?_) (fun hb => ?_) | refine partB_intro (fun hb => ?_) (fun hb => ?_) | refine And.intro ?_ ?_)
                all_goals first | exact True.intro | omega | with_reducible rfl | exact congrArg (AV.int _) (by omega) | (first | rfl | exact congrArg AV.vec (vwL_tr rfl (fun _ => rfl)))
              · have e0 := over_keep b hil (by omega)
                refine ⟨by omega, ?_⟩
                rw [<- e0]
                refine LoopEnd.intro (i + 1) ?_ ?_ (Nat.zero_le _) ?_ <;> (try omega)
                simp only [go_sem, tr_vec, co_vec]
                repeat' (first | refine fork_intro (fun hb => ?_) (fun hb => ?_) | refine partB_intro (fun hb => ?_) (fun hb => ?_) | refine And.intro ?_ ?_)
                all_goals first | exact True.intro | omega | with_reducible rfl | exact congrArg (AV.int _) (by omega) | (first | rfl | exact congrArg AV.vec (vwL_tr rfl (fun _ => rfl)))
            · have hie : i = o.length := by omega
              have hoe := over_end (scl b o) o (scl_len b o).symm
              refine ⟨by omega, ?_⟩
              rw [hie, hoe]
              refine LoopEnd.intro 1 ?_ ?_ (Nat.zero_le _) ?_ <;> (try omega)
              simp only [go_sem, tr_vec, co_vec, over_zero]
              repeat' (first | refine fork_intro (fun hb => ?_) (fun hb => ?_) | refine partB_intro (fun hb => ?_) (fun hb => ?_) | refine And.intro ?_ ?_)
              all_goals first | exact True.intro | omega | with_reducible rfl | exact congrArg (AV.int _) (by omega) | (first | rfl | exact congrArg AV.vec (vwL_tr rfl (fun _ => rfl)))
        · have hpl : p < d.length := by omega
          refine pick_region (r := 1) (m := 2) (k := d.length) (j := p + 1) (y := .mr 2 p) rfl rfl (by rw [vwL, List.getElem?_cons_succ, List.getElem?_map, List.getElem?_range hpl]; rfl) ?_
          have hxl := hF.len _ (ix_mem d hpl)
          have hop := over_ix (d.map (scl b)) d (by simp) hpl
          have hols := over_set (d.map (scl b)) d (by simp) hpl
          rw [ix_map _ _ hpl] at hols
          have hll := over_len (d.map (scl b)) d (by simp) (show p <= d.length by omega)
          rw [show p + 1 - 1 = p from rfl]
          simp only [go_sem]
          rw [hop, hxl]
          generalize hx : ix d (p : Int) = x at *
          generalize hM : over (d.map (scl b)) d p = M at *
          have hx99 : ∀ y ∈ x, 0 <= y /\ y <= 99 := by rw [<- hx]; exact hF.d99 _ (ix_mem d hpl)
          have e0 : M.set p x = M := by rw [<- hop]; exact set_self (by omega)
          refine loop_intro (fun i : Nat => [(39, .int .i64 i), (38, .int .i64 o.length), (37, .mr 2 p), (8, .mr 2 p), (33, .int .i64 ((p + 1 : Nat) : Int)), (32, .int .i64 ((d.length : Int) + 1)), (31, .vec (vwL 1 2 d.length)), (6, .bx 3 0), (4, .bx 0 0), (5, .bool false), (1, .int .i64 n)]) (fun i => [(0, .box [.nils, .nils]), (1, .arr (.ints (scl b o))), (2, .mat (M.set p (over (scl b x) x i))), (3, .box [.sl 1, .mt 2])]) 4 (fun i => i <= o.length) (fun i => o.length - i) 0 (Nat.zero_le _) (Nat.zero_le _) ?_ ?_
          · simp only [go_sem, tr_vec, co_vec, over_zero, e0]
            repeat' (first | refine fork_intro (fun hb => ?_) (fun hb => ?_) | refine partB_intro (fun hb => ?_) (fun hb => ?_) | refine And.intro ?_ ?_)
            all_goals first | exact True.intro | omega | with_reducible rfl | exact congrArg (AV.int _) (by omega) | (first | rfl | exact congrArg AV.vec (vwL_tr rfl (fun _ => rfl)))
          · intro i hi
            have hml2 : (M.set p (over (scl b x) x i)).length = d.length := by rw [List.length_set]; exact hll
            have hmi : ix (M.set p (over (scl b x) x i)) (p : Int) = over (scl b x) x i := by rw [ix_set _ _ (by omega), if_pos rfl]
            have hol := over_len (scl b x) x (scl_len b x).symm (show i <= x.length by omega)
            simp only [go_sem, hb, hmi, List.set_set]
            refine fork_intro (fun hc2 => ?_) (fun hc2 => ?_)
            · have hil : i < x.length := by omega
              have hxi := over_ix (scl b x) x (scl_len b x).symm hil
              have hx0 := hx99 _ (ix_mem x hil)
              have hxb := scl_bnd hb1 hx0
              have hst := row_step b hil
              rw [hxi]
              refine ⟨by omega, fork_intro (fun h0 => ?_) (fun h0 => ?_)⟩
              · refine ⟨by omega, by omega, by omega, ?_⟩
                rw [hst]
                refine LoopEnd.intro (i + 1) ?_ ?_ (Nat.zero_le _) ?_ <;> (try omega)
                simp only [go_sem, tr_vec, co_vec]
                repeat' (first | refine fork_intro (fun hb => ?_) (fun hb => ?_) | refine partB_intro (fun hb => ?_) (fun hb => ?_) | refine And.intro ?_ ?_)
                all_goals first | exact True.intro | omega | with_reducible rfl | exact congrArg (AV.int _) (by omega) | (first | rfl | exact congrArg AV.vec (vwL_tr rfl (fun _ => rfl)))
              · have e1 := over_keep b hil (by omega)
                refine ⟨by omega, ?_⟩
                rw [<- e1]
                refine LoopEnd.intro (i + 1) ?_ ?_ (Nat.zero_le _) ?_ <;> (try omega)
                simp only [go_sem, tr_vec, co_vec]
                repeat' (first | refine fork_intro (fun hb => ?_) (fun hb => ?_) | refine partB_intro (fun hb => ?_) (fun hb => ?_) | refine And.intro ?_ ?_)
                all_goals first | exact True.intro | omega | with_reducible rfl | exact congrArg (AV.int _) (by omega) | (first | rfl | exact congrArg AV.vec (vwL_tr rfl (fun _ => rfl)))
            · have hie : i = x.length := by omega
              have hoe := over_end (scl b x) x (scl_len b x).symm
              refine ⟨by omega, ?_⟩
              rw [hie, hoe, hols]
              refine LoopEnd.intro (p + 1 + 1) ?_ ?_ (Nat.zero_le _) ?_ <;> (try omega)
              simp only [go_sem, tr_vec, co_vec]
              repeat' (first | refine fork_intro (fun hb => ?_) (fun hb => ?_) | refine partB_intro (fun hb => ?_) (fun hb => ?_) | refine And.intro ?_ ?_)
              all_goals first | exact True.intro | omega | with_reducible rfl | exact congrArg (AV.int _) (by omega) | (first | rfl | exact congrArg AV.vec (vwL_tr rfl (fun _ => rfl)))
      · refine stop_intro ?_
        have hje : j = d.length + 1 := by omega
        rw [hje, if_neg (by omega), Nat.add_sub_cancel]
        have hoe := over_end (d.map (scl b)) d (by simp)
        rw [hoe]
        simp only [go_sem]
        refine ⟨⟨by rw [scl_len]; omega, by rw [List.length_map]; omega, fun x hx => ?_⟩, partB_intro (fun h => ?_) (fun h => ?_)⟩
        · obtain ⟨y, hy, rfl⟩ := List.mem_map.1 hx
          rw [scl_len, hF.len y hy]; omega
        · rw [h]; exact ⟨rfl, rfl, rfl⟩
        · rw [h]; exact ⟨rfl, rfl, rfl⟩
  · have hB : sclB o d n = false := by unfold sclB; rw [hg, Bool.false_and]
    rw [hB]
    exact ⟨rfl, rfl, rfl⟩
def t_scaleI : Table := [(12, ownC g_scaleI)]
theorem t_scaleI_ok : TabOK Tryz.prog t_scaleI := .cons Tryz.func12 (by kernel_rfl) (.own (by intro args hp; unfold g_scaleI at hp ⊢; split at hp <;> first | exact hp.elim | exact ⟨scaleI_ok _ _ _ hp, rfl⟩)) (.nil _)
attribute [go_sem] g_scaleI_eq t_scaleI
end Go.Proofs.YteefjdbdknkcjaaGreatDoor
