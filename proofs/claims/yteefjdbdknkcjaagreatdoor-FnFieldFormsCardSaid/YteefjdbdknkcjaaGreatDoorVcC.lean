/- An abstract run of the model's code, with proofs that it is sound: whatever order a region draws, whatever capacity an append draws. Conditions: none. Part three. -/
import Derived.Test.YteefjdbdknkcjaaGreatDoorVcB
import Derived.Deep.LoopGhost
set_option linter.unusedSimpArgs false
set_option linter.unusedVariables false
namespace Go.Vc
open Go.RowKit
def lateKind (hint : Hint) (o : Oper) : Bool := o.guard.isNone && (match o.op with
  | .move _ | .assign _ | .extract _ _ => true
  | .slice _ _ _ _ none => true
  | .binOp op _ _ y _ => !isNilc op y
  | .buildSlice _ _ ⟨_⟩ => !hint (o.dst.getD 0) && !hint.mat (o.dst.getD 0)
  | _ => false)
def tailKind (o : Oper) : Bool := o.guard.isNone && (match o.op with
  | .store _ _ _ => true
  | .call ⟨.builtin .append, ⟨[_, _]⟩, ⟨[_, _]⟩⟩ => true
  | .move _ | .assign _ | .extract _ _ => true
  | _ => false)
section
variable {P : Program} {C : Table} {hint : Hint}
theorem late_eval {o : Oper} (hk : lateKind hint o = true) (e : Env) (h : Heap) (n : Nat) : evalH P C hint o e h n = ⟨(evalH P C hint o e [] 0).pre, (evalH P C hint o e [] 0).val, [], 0⟩ := by
  obtain ⟨dst, op, t, pos, af, gd⟩ := o
  simp only [lateKind, Bool.and_eq_true] at hk
  obtain ⟨_, hk⟩ := hk
  split at hk
  · rename_i _ x; rfl
  · rename_i _ x; rfl
  · rename_i _ x k; rfl
  · rfl
  · rfl
  · rename_i _ t2 len ps
    simp only [Bool.and_eq_true, Bool.not_eq_true'] at hk
    simp only [evalH, hk.1, hk.2, selR, cond_false]
    cases hp : (ps.map fun p => opnd e p.2).all AV.pureB with
    | true =>
      simp only [cond_true, buildR, newL, cond_false]
      split <;> rfl
    | false => rfl
  · cases hk
theorem opnd_congr {e e' : Env} {y : Operand} (h : ∀ t, y = .tmp t -> e.get t = e'.get t) : opnd e y = opnd e' y := by
  cases y with
  | tmp t => exact h t rfl
  | _ => rfl
theorem mem_tmpsOf {o : Oper} {t : Tmp} (h : Operand.tmp t ∈ o.op.operands) : t ∈ tmpsOf o := by
  simp only [tmpsOf, List.mem_filterMap]
  exact ⟨.tmp t, by simpa using h, rfl⟩
theorem late_congr {o : Oper} (hk : lateKind hint o = true) {e e' : Env} (he : ∀ t ∈ tmpsOf o, e.get t = e'.get t) : evalH P C hint o e [] 0 = evalH P C hint o e' [] 0 := by
  have key : ∀ y, y ∈ o.op.operands -> opnd e y = opnd e' y := fun y hy => opnd_congr (fun t ht => he t (mem_tmpsOf (by rw [<- ht]; exact hy)))
  obtain ⟨dst, op, t, pos, af, gd⟩ := o
  simp only [lateKind, Bool.and_eq_true] at hk
  obtain ⟨_, hk⟩ := hk
  split at hk
  · rename_i _ x
    simp only [evalH, key x (by simp [Op.operands])]
  · rename_i _ x
    simp only [evalH, key x (by simp [Op.operands])]
  · rename_i _ x k
    simp only [evalH, key x (by simp [Op.operands])]
  · rename_i _ t2 x lo hi
    have h1 : lo.map (opnd e) = lo.map (opnd e') := by
      cases lo with
      | none => rfl
      | some y => simp only [Option.map_some]; rw [key y (by simp [Op.operands])]
    have h2 : hi.map (opnd e) = hi.map (opnd e') := by
      cases hi with
      | none => rfl
      | some y => simp only [Option.map_some]; rw [key y (by simp [Op.operands])]
    simp only [evalH, key x (by simp [Op.operands]), h1, h2]
  · rename_i _ bop t2 x y t3
    simp only [evalH, key x (by simp [Op.operands]), key y (by simp [Op.operands])]
  · rename_i _ t2 len ps
    have h1 : (ps.map fun p => opnd e p.2) = ps.map fun p => opnd e' p.2 := List.map_congr_left (fun p hp => key p.2 (by
      obtain ⟨a, b⟩ := p
      simp only [Op.operands]
      first
        | (simp; exact ⟨a, hp⟩)
        | (simp [Array.mem_map]; exact ⟨a, hp⟩)))
    simp only [evalH, h1]
  · cases hk
def LateAt (P : Program) (C : Table) (hint : Hint) (e : Env) (o : Oper) : Prop :=
  (evalH P C hint o e [] 0).pre /\ (∀ d, o.dst = some d -> e.get d = (evalH P C hint o e [] 0).val /\ (e.get d).pureB = true) /\ ∀ t ∈ tmpsOf o, (e.get t).pureB = true
theorem LateAt.congr {o : Oper} (hk : lateKind hint o = true) {e e' : Env} (h : LateAt P C hint e o) (he : ∀ t ∈ tmpsOf o, e'.get t = e.get t) (hd : ∀ d, o.dst = some d -> e'.get d = e.get d) : LateAt P C hint e' o := by
  have e1 := late_congr (P := P) (C := C) hk (e := e') (e' := e) he
  refine ⟨by rw [e1]; exact h.1, fun d h1 => ?_, fun t ht => by rw [he t ht]; exact h.2.2 t ht⟩
  rw [hd d h1, e1]; exact h.2.1 d h1
def hideE (ds : List Nat) (e : Env) : Env := ds.map (fun d => (d, AV.undef)) ++ e
theorem hideE_get (ds : List Nat) (e : Env) (t : Nat) : (hideE ds e).get t = if t ∈ ds then .undef else e.get t := by
  induction ds with
  | nil => simp [hideE]
  | cons d ds ih =>
    show Env.get ((d, AV.undef) :: hideE ds e) t = _
    rw [Env.get]
    by_cases h : d = t
    · subst h; simp
    · rw [if_neg h, ih]
      have : ¬ t = d := fun e => h e.symm
      simp [List.mem_cons, this]
theorem purE_eq (r : Nat) (e : Env) : purE r e = trE (purA r) e := by
  induction e with
  | nil => rfl
  | cons a e ih => obtain ⟨t, v⟩ := a; simp only [purE, trE, ih]
def EnvLike (f : Env -> ResM) : Prop := ∃ (p : Prop) (φ : AV -> AV) (h : Heap), φ .undef = .undef /\ ∀ e, (f e).pre = p /\ (f e).heap = h /\ (p -> ∀ t, (f e).env.get t = (e.get t).tr φ)
theorem envLike_id {p : Prop} {h : Heap} : EnvLike (fun e => ⟨p, e, h⟩) := ⟨p, id, h, rfl, fun e => ⟨rfl, rfl, fun _ t => (AV.tr_id _).symm⟩⟩
theorem envLike_tr {p : Prop} {φ : AV -> AV} {h : Heap} (h0 : φ .undef = .undef) : EnvLike (fun e => ⟨p, trE φ e, h⟩) := ⟨p, φ, h, h0, fun e => ⟨rfl, rfl, fun _ t => trE_get φ e t h0⟩⟩
theorem envLike_no : EnvLike (fun _ => noM) := ⟨False, id, [], rfl, fun e => ⟨rfl, rfl, fun h => h.elim⟩⟩
theorem rowR_like (d : TD) (r : Nat) (i : Int) (xss : List (List Int)) (n : Nat) (k : Option Blk) (h : Heap) : EnvLike (fun e => rowR hint d r i xss n k e h) := by
  unfold rowR
  split
  · exact envLike_tr rfl
  · exact envLike_no
theorem storeR_like (d : TD) (k : Option Blk) (p x : AV) (h : Heap) : EnvLike (fun e => storeR hint d k p x e h) := by
  unfold storeR
  split
  · exact envLike_id
  · split
    · exact envLike_id
    · exact envLike_no
  · split
    · exact envLike_id
    · exact envLike_no
  · split
    · exact rowR_like ..
    · exact envLike_no
  · exact envLike_no
theorem appR_like (ts tx : TypeId) (s : AV) (k : Option Blk) (y : AV) (h : Heap) : EnvLike (fun e => appR hint P ts tx s k y e h) := by
  unfold appR
  split
  · split
    · simp only [purE_eq]; exact envLike_tr rfl
    · exact envLike_no
  · exact envLike_no
theorem appM_like (ts tx : TypeId) (s : AV) (k : Option Blk) (y : AV) (h : Heap) : EnvLike (fun e => appM hint P ts tx s k y e h) := by
  unfold appM
  split
  · split
    · exact envLike_tr rfl
    · exact envLike_no
  · split
    · exact envLike_tr rfl
    · exact envLike_no
  · exact envLike_no
variable {x : Cx}
theorem Sat.congr {e e' : Env} {h : Heap} {n : Nat} {a : Act} {w : World} (hs : Sat x e h n a w) (he : ∀ t, e'.get t = e.get t) : Sat x e' h n a w := by
  obtain ⟨S, ρ, h1, h2, h3, hf, h4, h5⟩ := hs
  exact ⟨S, ρ, h1, h2, h3, hf, fun t => by rw [he]; exact h4 t, h5⟩
theorem dset_get {e : Env} {d : Option Tmp} {v : AV} {t : Tmp} : (dset e d v).get t = if d = some t then v else e.get t := by
  cases d with
  | none => simp [dset]
  | some d =>
    simp only [dset, Env.get]
    by_cases h : d = t
    · subst h; simp
    · rw [if_neg h, if_neg (by simpa using h)]
theorem hide_dset {ds : List Nat} {e e1 e2 : Env} {d : Option Tmp} {v : AV} {φ : AV -> AV} (h0 : φ .undef = .undef) (hd : ∀ t ∈ ds, d ≠ some t) (h1 : ∀ t, e1.get t = ((hideE ds e).get t).tr φ) (h2 : ∀ t, e2.get t = (e.get t).tr φ) (t : Tmp) :
    (hideE ds (dset e2 d v)).get t = (dset e1 d v).get t := by
  rw [hideE_get, dset_get, dset_get, h1, h2, hideE_get]
  by_cases ht : t ∈ ds
  · rw [if_pos ht, if_neg (hd t ht), if_pos ht]; show AV.undef = AV.tr φ .undef; rfl
  · rw [if_neg ht, if_neg ht]
theorem tail_step (hT : TabOK P C) (hx0 : x.n0 <= hint.n0) {all : List Oper} {o : Oper} (hk : tailKind o = true) {rest : List Oper} {e : Env} {h : Heap} {n : Nat} {K : Env -> Heap -> Nat -> Prop} (hop : opsA P C hint all (o :: rest) e h n K) {ds : List Nat}
    (hds : ∀ d ∈ ds, d ∉ tmpsOf o /\ o.dst ≠ some d) {a : Act} {w : World} (hs : Sat x (hideE ds e) h n a w) (hd : ∀ t, o.dst = some t -> t < x.k) {next : Act -> World -> Prop} {Q : Exit -> Act -> World -> Prop}
    (hK : ∀ e2 h2 n2 a' w', opsA P C hint all rest e2 h2 n2 K -> (∃ φ : AV -> AV, φ .undef = .undef /\ ∀ t, o.dst ≠ some t -> e2.get t = (e.get t).tr φ) -> Sat x (hideE ds e2) h2 n2 a' w' -> next a' w') : o.wp P a w next Q := by
  have key : ∀ y, y ∈ o.op.operands -> opnd (hideE ds e) y = opnd e y := fun y hy => opnd_congr (fun t ht => by
    rw [hideE_get, if_neg (fun hm => (hds t hm).1 (mem_tmpsOf (by rw [<- ht]; exact hy)))])
  have hdd : ∀ t ∈ ds, o.dst ≠ some t := fun t ht => (hds t ht).2
  have putS : ∀ {v : AV} {h2 : Heap} {n2 : Nat} {a' : Act} {w' : World}, Sat x (dset (hideE ds e) o.dst v) h2 n2 a' w' -> Sat x (hideE ds (dset e o.dst v)) h2 n2 a' w' := by
    intro v h2 n2 a' w' hs2
    exact Sat.congr hs2 (fun t => hide_dset (φ := id) rfl hdd (fun t => (AV.tr_id _).symm) (fun t => (AV.tr_id _).symm) t)
  have putE : ∀ {v : AV}, ∃ φ : AV -> AV, φ .undef = .undef /\ ∀ t, o.dst ≠ some t -> (dset e o.dst v).get t = (e.get t).tr φ := fun {v} => ⟨id, rfl, fun t ht => by rw [dset_get, if_neg ht, AV.tr_id]⟩
  have put2 : ∀ {e1 e2 : Env} {φ : AV -> AV}, φ .undef = .undef -> (∀ t, e1.get t = ((hideE ds e).get t).tr φ) -> (∀ t, e2.get t = (e.get t).tr φ) -> ∀ {v : AV} {h2 : Heap} {n2 : Nat} {a' : Act} {w' : World}, Sat x (dset e1 o.dst v) h2 n2 a' w' -> Sat x (hideE ds (dset e2 o.dst v)) h2 n2 a' w' := by
    intro e1 e2 φ h0 h1 h2 v hh2 n2 a' w' hs2
    exact Sat.congr hs2 (fun t => hide_dset h0 hdd h1 h2 t)
  have put3 : ∀ {e2 : Env} {φ : AV -> AV}, φ .undef = .undef -> (∀ t, e2.get t = (e.get t).tr φ) -> ∀ {v : AV}, ∃ φ : AV -> AV, φ .undef = .undef /\ ∀ t, o.dst ≠ some t -> (dset e2 o.dst v).get t = (e.get t).tr φ := by
    intro e2 φ h0 h2 v
    exact ⟨φ, h0, fun t ht => by rw [dset_get, if_neg ht, h2]⟩
  obtain ⟨dst, op, ty, pos, af, gd⟩ := o
  simp only [tailKind, Bool.and_eq_true, Option.isNone_iff_eq_none] at hk
  obtain ⟨hgd, hk⟩ := hk
  subst hgd
  split at hk
  · rename_i _ t p v
    have k1 := key p (by simp [Op.operands])
    have k2 := key v (by simp [Op.operands])
    have hop : (storeR hint (td P t) (blkOf h (opnd e p)) (opnd e p) (opnd e v) e h).pre /\
            opsA P C hint all rest (dset (storeR hint (td P t) (blkOf h (opnd e p)) (opnd e p) (opnd e v) e h).env dst .skipd) (storeR hint (td P t) (blkOf h (opnd e p)) (opnd e p) (opnd e v) e h).heap n K := hop
    obtain ⟨pp, φ, hh, h0, hl⟩ := storeR_like (hint := hint) (td P t) (blkOf h (opnd e p)) (opnd e p) (opnd e v) h
    obtain ⟨g1, g2, g3⟩ := hl e
    obtain ⟨f1, f2, f3⟩ := hl (hideE ds e)
    have hpp : pp := by rw [<- g1]; exact hop.1
    have hpre : (storeR hint (td P t) (blkOf h (opnd (hideE ds e) p)) (opnd (hideE ds e) p) (opnd (hideE ds e) v) (hideE ds e) h).pre := by rw [k1, k2, f1]; exact hpp
    have fin : ∀ a' w', Sat x (dset (storeR hint (td P t) (blkOf h (opnd (hideE ds e) p)) (opnd (hideE ds e) p) (opnd (hideE ds e) v) (hideE ds e) h).env dst .skipd) (storeR hint (td P t) (blkOf h (opnd (hideE ds e) p)) (opnd (hideE ds e) p) (opnd (hideE ds e) v) (hideE ds e) h).heap n a' w' -> next a' w' := fun a' w' hs2 => by
      rw [k1, k2, f2] at hs2
      rw [g2] at hop
      exact hK _ _ _ a' w' hop.2 (put3 h0 (g3 hpp)) (put2 h0 (f3 hpp) (g3 hpp) hs2)
    by_cases hpo : ∃ r i, opnd (hideE ds e) p = .po r i
    · obtain ⟨r, i, hpo⟩ := hpo
      exact row_ok (P := P) (o := ⟨dst, .store t p v, ty, pos, af, none⟩) hx0 rfl hs hpo hpre hd fin
    · exact store_ok (P := P) (o := ⟨dst, .store t p v, ty, pos, af, none⟩) rfl hs hpre hd (fun r i h => hpo ⟨r, i, h⟩) fin
  · rename_i _ s y ts tx
    have k1 := key s (by simp [Op.operands, Call.operands])
    have k2 := key y (by simp [Op.operands, Call.operands])
    have hop : appS (opnd e s)
            ((appR hint P ts tx (opnd e s) (blkOf h (opnd e s)) (opnd e y) e h).pre /\
              opsA P C hint all rest (dset (appR hint P ts tx (opnd e s) (blkOf h (opnd e s)) (opnd e y) e h).env dst (opnd e s)) (appR hint P ts tx (opnd e s) (blkOf h (opnd e s)) (opnd e y) e h).heap n K)
            ((appM hint P ts tx (opnd e s) (blkOf h (opnd e s)) (opnd e y) e h).pre /\
              opsA P C hint all rest (dset (appM hint P ts tx (opnd e s) (blkOf h (opnd e s)) (opnd e y) e h).env dst (opnd e s)) (appM hint P ts tx (opnd e s) (blkOf h (opnd e s)) (opnd e y) e h).heap n K)
            ((evalH P C hint ⟨dst, .call ⟨.builtin .append, ⟨[s, y]⟩, ⟨[ts, tx]⟩⟩, ty, pos, af, none⟩ e h n).pre /\ opsA P C hint all rest (dset e dst (evalH P C hint ⟨dst, .call ⟨.builtin .append, ⟨[s, y]⟩, ⟨[ts, tx]⟩⟩, ty, pos, af, none⟩ e h n).val) ((evalH P C hint ⟨dst, .call ⟨.builtin .append, ⟨[s, y]⟩, ⟨[ts, tx]⟩⟩, ty, pos, af, none⟩ e h n).new ++ h) (n + (evalH P C hint ⟨dst, .call ⟨.builtin .append, ⟨[s, y]⟩, ⟨[ts, tx]⟩⟩, ty, pos, af, none⟩ e h n).cnt) K) := hop
    unfold appS at hop
    split at hop
    · obtain ⟨pp, φ, hh, h0, hl⟩ := appR_like (hint := hint) (P := P) ts tx (opnd e s) (blkOf h (opnd e s)) (opnd e y) h
      obtain ⟨g1, g2, g3⟩ := hl e
      obtain ⟨f1, f2, f3⟩ := hl (hideE ds e)
      have hpp : pp := by rw [<- g1]; exact hop.1
      refine append_ok (P := P) (o := ⟨dst, .call ⟨.builtin .append, ⟨[s, y]⟩, ⟨[ts, tx]⟩⟩, ty, pos, af, none⟩) hx0 rfl hs (by rw [k1, k2, f1]; exact hpp) hd (fun a' w' hs2 => ?_)
      rw [k1, k2, f2] at hs2
      rw [g2] at hop
      exact hK _ _ _ a' w' hop.2 (put3 h0 (g3 hpp)) (put2 h0 (f3 hpp) (g3 hpp) hs2)
    · obtain ⟨pp, φ, hh, h0, hl⟩ := appM_like (hint := hint) (P := P) ts tx (opnd e s) (blkOf h (opnd e s)) (opnd e y) h
      obtain ⟨g1, g2, g3⟩ := hl e
      obtain ⟨f1, f2, f3⟩ := hl (hideE ds e)
      have hpp : pp := by rw [<- g1]; exact hop.1
      refine appM_ok (P := P) (o := ⟨dst, .call ⟨.builtin .append, ⟨[s, y]⟩, ⟨[ts, tx]⟩⟩, ty, pos, af, none⟩) hx0 rfl hs (by rw [k1, k2, f1]; exact hpp) hd (fun a' w' hs2 => ?_)
      rw [k1, k2, f2] at hs2
      rw [g2] at hop
      exact hK _ _ _ a' w' hop.2 (put3 h0 (g3 hpp)) (put2 h0 (f3 hpp) (g3 hpp) hs2)
    · have e1 : evalH P C hint ⟨dst, .call ⟨.builtin .append, ⟨[s, y]⟩, ⟨[ts, tx]⟩⟩, ty, pos, af, none⟩ (hideE ds e) h n = evalH P C hint ⟨dst, .call ⟨.builtin .append, ⟨[s, y]⟩, ⟨[ts, tx]⟩⟩, ty, pos, af, none⟩ e h n := by simp only [evalH, k1, k2]
      exact opH_ok (P := P) (C := C) (hint := hint) hT (by rw [e1]; exact hop.1) hs hd (fun a' w' hs2 => hK _ _ _ a' w' hop.2 putE (putS (by rw [e1] at hs2; exact hs2)))
  · rename_i _ y
    have k1 := key y (by simp [Op.operands])
    have hop : (evalH P C hint ⟨dst, .move y, ty, pos, af, none⟩ e h n).pre /\ opsA P C hint all rest (dset e dst (evalH P C hint ⟨dst, .move y, ty, pos, af, none⟩ e h n).val) ((evalH P C hint ⟨dst, .move y, ty, pos, af, none⟩ e h n).new ++ h) (n + (evalH P C hint ⟨dst, .move y, ty, pos, af, none⟩ e h n).cnt) K := hop
    have e1 : evalH P C hint ⟨dst, .move y, ty, pos, af, none⟩ (hideE ds e) h n = evalH P C hint ⟨dst, .move y, ty, pos, af, none⟩ e h n := by simp only [evalH, k1]
    exact opH_ok (P := P) (C := C) (hint := hint) hT (by rw [e1]; exact hop.1) hs hd (fun a' w' hs2 => hK _ _ _ a' w' hop.2 putE (putS (by rw [e1] at hs2; exact hs2)))
  · rename_i _ y
    have k1 := key y (by simp [Op.operands])
    have hop : (evalH P C hint ⟨dst, .assign y, ty, pos, af, none⟩ e h n).pre /\ opsA P C hint all rest (dset e dst (evalH P C hint ⟨dst, .assign y, ty, pos, af, none⟩ e h n).val) ((evalH P C hint ⟨dst, .assign y, ty, pos, af, none⟩ e h n).new ++ h) (n + (evalH P C hint ⟨dst, .assign y, ty, pos, af, none⟩ e h n).cnt) K := hop
    have e1 : evalH P C hint ⟨dst, .assign y, ty, pos, af, none⟩ (hideE ds e) h n = evalH P C hint ⟨dst, .assign y, ty, pos, af, none⟩ e h n := by simp only [evalH, k1]
    exact opH_ok (P := P) (C := C) (hint := hint) hT (by rw [e1]; exact hop.1) hs hd (fun a' w' hs2 => hK _ _ _ a' w' hop.2 putE (putS (by rw [e1] at hs2; exact hs2)))
  · rename_i _ y k
    have k1 := key y (by simp [Op.operands])
    have hop : (evalH P C hint ⟨dst, .extract y k, ty, pos, af, none⟩ e h n).pre /\ opsA P C hint all rest (dset e dst (evalH P C hint ⟨dst, .extract y k, ty, pos, af, none⟩ e h n).val) ((evalH P C hint ⟨dst, .extract y k, ty, pos, af, none⟩ e h n).new ++ h) (n + (evalH P C hint ⟨dst, .extract y k, ty, pos, af, none⟩ e h n).cnt) K := hop
    have e1 : evalH P C hint ⟨dst, .extract y k, ty, pos, af, none⟩ (hideE ds e) h n = evalH P C hint ⟨dst, .extract y k, ty, pos, af, none⟩ e h n := by simp only [evalH, k1]
    exact opH_ok (P := P) (C := C) (hint := hint) hT (by rw [e1]; exact hop.1) hs hd (fun a' w' hs2 => hK _ _ _ a' w' hop.2 putE (putS (by rw [e1] at hs2; exact hs2)))
  · cases hk
end
end Go.Vc
namespace Go.Vc
open Go.RowKit
def needsL (all : List Oper) : Nat -> List Nat -> List Nat
  | 0, S => S
  | j + 1, S => needsL all j (if S.any (fun i => match all[i]? with | some o => waits o j | none => false) then j :: S else S)
def sepB (o p : Oper) : Bool := match p.dst with
  | some d => !(tmpsOf o).contains d && o.dst != some d && (match o.dst with | some q => !(tmpsOf p).contains q | none => true)
  | none => match o.dst with | some q => !(tmpsOf p).contains q | none => true
def lateOK (hint : Hint) (all : List Oper) (c hd : Nat) : Bool :=
  backB all && ssaB (all.take hd) && guardB (all.take hd) && (all.take hd).all (fun o => !isM hint o) && decide (c <= hd) && decide (hd < all.length) && Region.chainB .any all.toArray hd &&
  ((List.range c).all fun j => (needsL all hd [hd]).contains j) && ((all.take hd).drop c).all (lateKind hint) && (all.drop hd).all tailKind &&
  ((List.range all.length).all fun i => decide (i < hd) || (List.range hd).all fun j => decide (j < c) || (match all[i]?, all[j]? with | some o, some p => waits o j || sepB o p | _, _ => true))
theorem needsL_ok {all : List Oper} {listed : Array Bool} (hcl : ∀ j oj, all.toArray[j]? = some oj -> listed.getD j false = true -> ∀ ed ∈ oj.after, Region.binds .any ed = true -> listed.getD ed.on false = true) (hd : Nat)
    (hready : ∀ o, all[hd]? = some o -> ∀ ed ∈ o.after, Region.binds .any ed = true -> listed.getD ed.on false = true) :
    ∀ (j : Nat) (S : List Nat), (∀ i ∈ S, i = hd \/ listed.getD i false = true) -> ∀ i ∈ needsL all j S, i = hd \/ listed.getD i false = true
  | 0, S, h => h
  | j + 1, S, h => by
    unfold needsL
    refine needsL_ok hcl hd hready j _ (fun i hi => ?_)
    split at hi
    · rename_i hany
      rcases List.mem_cons.1 hi with rfl | hi
      · obtain ⟨q, hq, hw⟩ := List.any_eq_true.1 hany
        split at hw
        · rename_i o ho
          obtain ⟨e, he, hb, hon⟩ := waits_spec hw
          rcases h q hq with rfl | hl
          · exact .inr (by have := hready o ho e he hb; rwa [hon] at this)
          · exact .inr (by have := hcl q o (by simpa using ho) hl e he hb; rwa [hon] at this)
        · cases hw
      · exact h i hi
    · exact h i hi
def dstU (all : List Oper) (hd : Nat) (U : List Nat) : List Nat := U.filterMap (fun j => if j < hd then gdst all j else none)
theorem mem_dstU {all : List Oper} {hd : Nat} {U : List Nat} {d : Nat} : d ∈ dstU all hd U ↔ ∃ j ∈ U, j < hd /\ gdst all j = some d := by
  unfold dstU
  rw [List.mem_filterMap]
  constructor
  · rintro ⟨j, hj, h⟩
    by_cases hlt : j < hd
    · rw [if_pos hlt] at h; exact ⟨j, hj, hlt, h⟩
    · rw [if_neg hlt] at h; cases h
  · rintro ⟨j, hj, hlt, h⟩
    exact ⟨j, hj, by rw [if_pos hlt]; exact h⟩
theorem gdst_of {all : List Oper} {j : Nat} {o : Oper} (h : all[j]? = some o) : gdst all j = o.dst := by rw [gdst_eq, h]; rfl
section
variable {P : Program} {C : Table} {hint : Hint} {x : Cx}
theorem late_ok (hT : TabOK P C) (hx0 : x.n0 <= hint.n0) {all : List Oper} {Q : Exit -> Act -> World -> Prop} {K : Env -> Heap -> Nat -> Prop} (hK : ∀ e h n a w, K e h n -> Sat x e h n a w -> Q .normal a w) {c hd : Nat} (hchk : lateOK hint all c hd = true) (hdst : dstOK x.k all = true) :
    ∀ (fuel i : Nat) (e : Env) (h : Heap) (n : Nat) (listed : Array Bool) (U : List Nat) (a : Act) (w : World), hd <= i -> i <= all.length -> Left all listed U -> (∀ j ∈ U, c <= j) -> (∀ j, hd <= j -> (j ∈ U ↔ i <= j /\ j < all.length)) -> U.length <= fuel ->
      opsA P C hint all (all.drop i) e h n K -> (∀ j o, j ∈ U -> j < hd -> all[j]? = some o -> LateAt P C hint e o) -> Sat x (hideE (dstU all hd U) e) h n a w -> wpAny P .any all.toArray Q fuel listed a w := by
  simp only [lateOK, Bool.and_eq_true, decide_eq_true_eq] at hchk
  obtain ⟨⟨⟨⟨⟨⟨⟨⟨⟨⟨hback, hssa⟩, hgd⟩, hM⟩, hc⟩, hhd⟩, hchain⟩, hneed⟩, hlate⟩, htail⟩, hsep⟩ := hchk
  have isLate : ∀ (j : Nat) o, c <= j -> j < hd -> all[j]? = some o -> lateKind hint o = true := fun j o h1 h2 ho => by
    refine List.all_eq_true.1 hlate o (List.mem_iff_getElem?.2 ⟨j - c, ?_⟩)
    rw [List.getElem?_drop, List.getElem?_take, if_pos (by omega), show c + (j - c) = j by omega]; exact ho
  have isTail : ∀ (j : Nat) o, hd <= j -> all[j]? = some o -> tailKind o = true := fun j o h1 ho => by
    refine List.all_eq_true.1 htail o (List.mem_iff_getElem?.2 ⟨j - hd, ?_⟩)
    rw [List.getElem?_drop, show hd + (j - hd) = j by omega]; exact ho
  have hsep2 : ∀ (i j : Nat) o p, hd <= i -> c <= j -> j < hd -> all[i]? = some o -> all[j]? = some p -> waits o j = true \/ sepB o p = true := fun i j o p h1 h2 h3 ho hp => by
    have hi := (List.getElem?_eq_some_iff.1 ho).1
    have g1 := List.all_eq_true.1 hsep i (List.mem_range.2 hi)
    simp only [Bool.or_eq_true, decide_eq_true_eq] at g1
    rcases g1 with g1 | g1
    · omega
    · have g2 := List.all_eq_true.1 g1 j (List.mem_range.2 h3)
      simp only [Bool.or_eq_true, decide_eq_true_eq, ho, hp] at g2
      rcases g2 with g2 | g2
      · omega
      · exact g2
  have takeE : ∀ (j : Nat) o, j < hd -> all[j]? = some o -> (all.take hd)[j]? = some o := fun j o h1 ho => by rw [List.getElem?_take, if_pos h1]; exact ho
  have done : ∀ {i : Nat} {e : Env} {h : Heap} {n : Nat} {listed : Array Bool} {U : List Nat} {a : Act} {w : World}, i <= all.length -> U = [] -> (∀ j, hd <= j -> (j ∈ U ↔ i <= j /\ j < all.length)) -> hd <= i -> opsA P C hint all (all.drop i) e h n K -> Sat x (hideE (dstU all hd U) e) h n a w -> Q .normal a w := by
    intro i e h n listed U a w h1 h2 h3 h4 h5 h6
    subst h2
    have hi : i = all.length := by
      rcases Nat.lt_or_ge i all.length with h | h
      · exact absurd ((h3 i h4).2 ⟨Nat.le_refl _, h⟩) (by simp)
      · omega
    subst hi
    rw [List.drop_of_length_le (Nat.le_refl _)] at h5
    exact hK e h n a w h5 (h6.congr (fun t => rfl))
  intro fuel
  induction fuel with
  | zero =>
    intro i e h n listed U a w h1 h2 hL hc' hU hf hop hla hs
    have hU0 : U = [] := List.length_eq_zero_iff.1 (by omega)
    refine ⟨?_, done (listed := listed) h2 hU0 hU h1 hop hs⟩
    subst hU0
    exact List.eq_nil_iff_forall_not_mem.2 (fun j hj => absurd (ready_mem hL hj) (by simp))
  | succ fuel ih =>
    intro i e h n listed U a w h1 h2 hL hc' hU hf hop hla hs
    refine ⟨fun h0 => ?_, fun j hj => ?_⟩
    · have hU0 : U = [] := by
        by_cases hne : U = []
        · exact hne
        · obtain ⟨m, hm1, hm2⟩ := exists_least U hne
          have := ready_least hback hL hm1 hm2
          rw [h0] at this; cases this
      exact done (listed := listed) h2 hU0 hU h1 hop hs
    · have hjU := ready_mem hL hj
      obtain ⟨hja, hjl⟩ := (hL.mem j).1 hjU
      have ho : all[j]? = some all[j] := by simp [hja]
      generalize all[j] = o at ho
      obtain ⟨hL', hlen⟩ := hL.step hjU
      have hd1 : ∀ t, o.dst = some t -> t < x.k := dstOK_mem hdst (List.mem_of_getElem? ho)
      have rd : ∀ i, waits o i = true -> i ∉ U := fun i hw hi => by
        have := ready_listed hj (by simpa using ho) hw
        have := ((hL.mem i).1 hi).2
        simp_all
      unfold wpOp
      simp only [List.getElem?_toArray, ho]
      by_cases hjh : j < hd
      · -- a late one
        have hcj := hc' j hjU
        have hk := isLate j o hcj hjh ho
        have hg : o.guard = none := by simp only [lateKind, Bool.and_eq_true, Option.isNone_iff_eq_none] at hk; exact hk.1
        rw [if_pos (by simp [Region.wanted, hg])]
        left
        have hat := hla j o hjU hjh ho
        have hread : ∀ t ∈ tmpsOf o, (hideE (dstU all hd U) e).get t = e.get t := fun t ht => by
          rw [hideE_get, if_neg (fun hm => ?_)]
          obtain ⟨q, hq1, hq2, hq3⟩ := mem_dstU.1 hm
          have hqa : all[q]? = some all[q] := by simp [((hL.mem q).1 hq1).1]
          have g1 := zipIdx_all (zipIdx_all hssa (takeE j o hjh ho)) (takeE q _ hq2 hqa)
          rw [gdst_of hqa] at hq3
          simp only [hq3, Bool.and_eq_true, Bool.or_eq_true] at g1
          rcases g1.1.2 with g2 | g2
          · have : (tmpsOf o).contains t = true := by simpa using ht
            rw [this] at g2; cases g2
          · exact rd q g2 hq1
        have e1 := late_congr (P := P) (C := C) hk (e := hideE (dstU all hd U) e) (e' := e) hread
        have e2 := late_eval (P := P) (C := C) hk (hideE (dstU all hd U) e) h n
        have distinct : ∀ q, q ∈ U.erase j -> q < hd -> ∀ d, gdst all q = some d -> o.dst ≠ some d := fun q hq hqh d hqd => by
          rw [hL.nodup.mem_erase_iff] at hq
          have hqa : all[q]? = some all[q] := by simp [((hL.mem q).1 hq.2).1]
          have g1 := zipIdx_all (zipIdx_all hssa (takeE j o hjh ho)) (takeE q _ hqh hqa)
          rw [gdst_of hqa] at hqd
          simp only [hqd, Bool.and_eq_true, Bool.or_eq_true, beq_iff_eq, bne_iff_ne, ne_eq] at g1
          rcases g1.1.1 with g2 | g2
          · exact absurd g2.symm (fun e => hq.1 e.symm)
          · exact g2
        refine opH_ok (P := P) (C := C) (hint := hint) hT (by rw [e2, e1]; exact hat.1) hs hd1 (fun a' w' hs2 => ?_)
        rw [e2, e1] at hs2
        have hs3 : Sat x (dset (hideE (dstU all hd U) e) o.dst (evalH P C hint o e [] 0).val) h n a' w' := hs2
        refine ih i e h n _ _ a' w' h1 h2 hL' (fun q hq => hc' q (List.mem_of_mem_erase hq)) (fun q hq => ?_) (by omega) hop (fun q oq hq => hla q oq (List.mem_of_mem_erase hq)) (hs3.congr (fun t => ?_))
        · rw [hL.nodup.mem_erase_iff, hU q hq]
          constructor
          · exact fun h => h.2
          · exact fun h => ⟨by omega, h⟩
        · rw [hideE_get, dset_get, hideE_get]
          by_cases ht : o.dst = some t
          · rw [if_pos ht, if_neg (fun hm => ?_)]
            · exact (hat.2.1 t ht).1
            · obtain ⟨q, hq1, hq2, hq3⟩ := mem_dstU.1 hm
              exact distinct q hq1 hq2 t hq3 ht
          · rw [if_neg ht]
            have : t ∈ dstU all hd (U.erase j) ↔ t ∈ dstU all hd U := by
              rw [mem_dstU, mem_dstU]
              constructor
              · rintro ⟨q, hq, r⟩; exact ⟨q, List.mem_of_mem_erase hq, r⟩
              · rintro ⟨q, hq, r⟩
                refine ⟨q, (hL.nodup.mem_erase_iff).2 ⟨fun e => ?_, hq⟩, r⟩
                subst e
                rw [gdst_of ho] at r
                exact ht r.2
            by_cases hm : t ∈ dstU all hd U
            · rw [if_pos (this.2 hm), if_pos hm]
            · rw [if_neg (fun h => hm (this.1 h)), if_neg hm]
      · -- one of the tail
        have hjge : hd <= j := by omega
        have hij : j = i := by
          have hju := (hU j hjge).1 hjU
          by_cases hji : j = i
          · exact hji
          · exfalso
            have g1 := List.all_eq_true.1 hchain j (List.mem_range.2 (by simpa using hju.2))
            simp only [Bool.or_eq_true, decide_eq_true_eq] at g1
            rcases g1 with g1 | g1
            · omega
            · obtain ⟨o', ho', ed, he, hb, hon⟩ := Region.waitsFor_spec g1
              obtain ⟨_, o2, ho2, hall⟩ := mem_ready.1 hj
              rw [ho'] at ho2; cases ho2
              have := hall ed he hb
              rw [hon] at this
              have hm : j - 1 ∈ U := (hU (j - 1) (by omega)).2 ⟨by omega, by omega⟩
              have := ((hL.mem (j - 1)).1 hm).2
              simp_all
        subst hij
        have hk := isTail j o hjge ho
        have hg : o.guard = none := by simp only [tailKind, Bool.and_eq_true, Option.isNone_iff_eq_none] at hk; exact hk.1
        rw [if_pos (by simp [Region.wanted, hg])]
        left
        have hdrop : all.drop j = o :: all.drop (j + 1) := by
          have h3 : all[j] = o := by have := ho; simp [hja] at this; exact this
          rw [<- h3]; exact List.drop_eq_getElem_cons hja
        rw [hdrop] at hop
        have apart : ∀ q, q ∈ U -> q < hd -> ∀ p, all[q]? = some p -> sepB o p = true := fun q hq hqh p hp => by
          rcases hsep2 j q o p hjge (hc' q hq) hqh ho hp with g | g
          · exact absurd hq (rd q g)
          · exact g
        refine tail_step hT hx0 hk hop (fun d hdm => ?_) hs hd1 (fun e2 h2' n2 a' w' hop2 hφ hs2 => ?_)
        · obtain ⟨q, hq1, hq2, hq3⟩ := mem_dstU.1 hdm
          have hqa : all[q]? = some all[q] := by simp [((hL.mem q).1 hq1).1]
          have g := apart q hq1 hq2 _ hqa
          rw [gdst_of hqa] at hq3
          simp only [sepB, hq3, Bool.and_eq_true, Bool.not_eq_true', bne_iff_ne, ne_eq] at g
          exact ⟨fun hm => by have : (tmpsOf o).contains d = true := by simpa using hm
                              rw [this] at g; exact absurd g.1.1 (by simp), g.1.2⟩
        · obtain ⟨φ, hφ0, hφ⟩ := hφ
          have hUe : ∀ q, q < hd -> (q ∈ U.erase j ↔ q ∈ U) := fun q hq => by
            rw [hL.nodup.mem_erase_iff]
            exact ⟨fun h => h.2, fun h => ⟨by omega, h⟩⟩
          refine ih (j + 1) e2 h2' n2 _ _ a' w' (by omega) (by omega) hL' (fun q hq => hc' q (List.mem_of_mem_erase hq)) (fun q hq => ?_) (by omega) hop2 (fun q oq hq hqh hoq => ?_) (hs2.congr (fun t => ?_))
          · rw [hL.nodup.mem_erase_iff, hU q hq]; omega
          · have hqU := List.mem_of_mem_erase hq
            have hat := hla q oq hqU hqh hoq
            have hkq := isLate q oq (hc' q hqU) hqh hoq
            have g := apart q hqU hqh oq hoq
            have hnr : ∀ t ∈ tmpsOf oq, o.dst ≠ some t := fun t ht e => by
              have hc : (tmpsOf oq).contains t = true := by simpa using ht
              unfold sepB at g
              split at g
              · simp only [e, Bool.and_eq_true, hc] at g; exact absurd g.2 (by simp)
              · simp only [e, hc] at g; exact absurd g (by simp)
            refine hat.congr hkq (fun t ht => ?_) (fun d hd => ?_)
            · rw [hφ t (hnr t ht)]; exact AV.pureB_tr (hat.2.2 t ht)
            · have hne : o.dst ≠ some d := fun e => by
                simp only [sepB, hd, Bool.and_eq_true, bne_iff_ne, ne_eq] at g
                exact g.1.2 e
              rw [hφ d hne]; exact AV.pureB_tr (hat.2.1 d hd).2
          · rw [hideE_get, hideE_get]
            have : t ∈ dstU all hd (U.erase j) ↔ t ∈ dstU all hd U := by
              rw [mem_dstU, mem_dstU]
              constructor
              · rintro ⟨q, hq, r⟩; exact ⟨q, List.mem_of_mem_erase hq, r⟩
              · rintro ⟨q, hq, r⟩; exact ⟨q, (hUe q r.1).2 hq, r⟩
            by_cases hm : t ∈ dstU all hd U
            · rw [if_pos (this.2 hm), if_pos hm]
            · rw [if_neg (fun h => hm (this.1 h)), if_neg hm]
end
end Go.Vc
namespace Go.Vc
open Go.RowKit
section
variable {P : Program} {C : Table} {hint : Hint} {own : Nat -> Prop}
def NewL (hint : Hint) (l : List Oper) (tr : List Stp) : Prop := ∀ (i : Nat) o s, l[i]? = some o -> tr[i]? = some s -> lateKind hint o = true -> s.new = []
theorem NewL.cons {o : Oper} {s : Stp} {l : List Oper} {tr : List Stp} (h : NewL hint l tr) (h0 : lateKind hint o = true -> s.new = []) : NewL hint (o :: l) (s :: tr) := fun i o' s' h1 h2 h3 => by
  cases i with
  | zero => simp at h1 h2; subst h1; subst h2; exact h0 h3
  | succ i => exact h i o' s' (by simpa using h1) (by simpa using h2) h3
theorem extractN (hT : TabOK P C) {all tail : List Oper} {K : Env -> Heap -> Nat -> Prop} : ∀ (l : List Oper) (e : Env) (h : Heap) (n : Nat), (∀ o ∈ l, isM hint o = false) -> (∀ r, h.look r ≠ none -> r < n) -> opsA P C hint all (l ++ tail) e h n K ->
    ∃ tr e' h' n', Trace P own all l tr e h n e' h' n' /\ opsA P C hint all tail e' h' n' K /\ NewL hint l tr
  | [], e, h, n, _, _, ho => ⟨[], e, h, n, ⟨rfl, rfl, rfl⟩, ho, fun i o s h => by simp at h⟩
  | o :: l, e, h, n, hm, hn, ho => by
    have hm1 := hm o (by simp)
    have hm2 : ∀ o ∈ l, isM hint o = false := fun o h => hm o (by simp [h])
    simp only [List.cons_append] at ho
    unfold opsA at ho
    obtain ⟨e1, y, hE, hG, hy⟩ := guard_ext ho
    cases y with
    | false =>
      simp only [Bool.false_eq_true, if_false] at hy
      obtain ⟨tr, e', h', n', ht, hk, hN⟩ := extractN hT l _ h n hm2 hn hy
      exact ⟨⟨e1, .skipd, [], 0, false⟩ :: tr, e', h', n', ⟨⟨⟨hE, hG⟩, fun r hr => (hr rfl).elim, by simp⟩, hn, ht⟩, hk, hN.cons (fun _ => rfl)⟩
    | true =>
      simp only [if_true] at hy
      split at hy
      · rename_i c p q hpk
        have go : ∀ (b : Bool) (r : Operand), (∀ S ρ H cv, V S ρ H (opnd e1 c) cv -> cv = .bool b) -> (if b then p else q) = r -> opsA P C hint all (l ++ tail) (dset e1 o.dst (opnd e1 r)) h n K ->
            ∃ tr e' h' n', Trace P own all (o :: l) tr e h n e' h' n' /\ opsA P C hint all tail e' h' n' K /\ NewL hint (o :: l) tr := by
          intro b r hb hr hK2
          obtain ⟨tr, e', h', n', ht, hk, hN⟩ := extractN hT l _ h n hm2 hn hK2
          exact ⟨⟨e1, opnd e1 r, [], 0, true⟩ :: tr, e', h', n', ⟨⟨⟨hE, hG⟩, fun r hr => (hr rfl).elim, by simp only [if_true]; exact fun hF _ _ => pick_ok hpk hb hr⟩, hn, ht⟩, hk, hN.cons (fun _ => rfl)⟩
        unfold pickS at hy
        split at hy
        · rename_i b hb
          cases b with
          | true => exact go true p (fun S ρ H cv h => by rw [hb] at h; exact h.bool_inv) rfl (hy.1 rfl)
          | false => exact go false q (fun S ρ H cv h => by rw [hb] at h; exact h.bool_inv) rfl (hy.2 rfl)
        · rename_i hb; exact go true p (fun S ρ H cv h => by rw [hb] at h; exact h.tt_inv) rfl hy
        · rename_i hb; exact go false q (fun S ρ H cv h => by rw [hb] at h; exact h.ff_inv) rfl hy
        · exact hy.elim
      · rename_i t p v hst
        simp [isM, hst] at hm1
      · rename_i s y ts tx hst
        simp [isM, hst] at hm1
      · rename_i f xs ts hcl
        have hm3 : hint.ms (mkey f) = false := by simpa [isM, hcl] using hm1
        rw [hm3] at hy
        simp only [cond_false] at hy
        obtain ⟨hp, hy⟩ := hy
        have keys := evalH_keys (hint := hint) hT.spec hp
        obtain ⟨tr, e', h', n', ht, hk, hN⟩ := extractN hT l _ _ _ hm2 (fun r hr => by
          rcases look_ne_append hr with h1 | h1
          · exact (keys r h1).2
          · have := hn r h1; omega) hy
        refine ⟨⟨e1, (evalH P C hint o e1 h n).val, (evalH P C hint o e1 h n).new, (evalH P C hint o e1 h n).cnt, true⟩ :: tr, e', h', n', ⟨⟨⟨hE, hG⟩, keys, ?_⟩, hn, ht⟩, hk, hN.cons (fun hl => by show (evalH P C hint o e1 h n).new = []; rw [late_eval hl])⟩
        simp only [if_true]
        exact fun hF h1 h2 => evalH_ok hT.spec hT.call h1 h2 hn hp
      · rename_i op t y z t2 hbo
        have hm3 : isNilc op z = false := by simpa [isM, hbo] using hm1
        rw [hm3] at hy
        simp only [cond_false] at hy
        obtain ⟨hp, hy⟩ := hy
        have keys := evalH_keys (hint := hint) hT.spec hp
        obtain ⟨tr, e', h', n', ht, hk, hN⟩ := extractN hT l _ _ _ hm2 (fun r hr => by
          rcases look_ne_append hr with h1 | h1
          · exact (keys r h1).2
          · have := hn r h1; omega) hy
        refine ⟨⟨e1, (evalH P C hint o e1 h n).val, (evalH P C hint o e1 h n).new, (evalH P C hint o e1 h n).cnt, true⟩ :: tr, e', h', n', ⟨⟨⟨hE, hG⟩, keys, ?_⟩, hn, ht⟩, hk, hN.cons (fun hl => by show (evalH P C hint o e1 h n).new = []; rw [late_eval hl])⟩
        simp only [if_true]
        exact fun hF h1 h2 => evalH_ok hT.spec hT.call h1 h2 hn hp
      · obtain ⟨hp, hy⟩ := hy
        have keys := evalH_keys (hint := hint) hT.spec hp
        obtain ⟨tr, e', h', n', ht, hk, hN⟩ := extractN hT l _ _ _ hm2 (fun r hr => by
          rcases look_ne_append hr with h1 | h1
          · exact (keys r h1).2
          · have := hn r h1; omega) hy
        refine ⟨⟨e1, (evalH P C hint o e1 h n).val, (evalH P C hint o e1 h n).new, (evalH P C hint o e1 h n).cnt, true⟩ :: tr, e', h', n', ⟨⟨⟨hE, hG⟩, keys, ?_⟩, hn, ht⟩, hk, hN.cons (fun hl => by show (evalH P C hint o e1 h n).new = []; rw [late_eval hl])⟩
        simp only [if_true]
        exact fun hF h1 h2 => evalH_ok hT.spec hT.call h1 h2 hn hp
def lateP (P : Program) (C : Table) (hint : Hint) (e : Env) : List Oper -> Prop
  | [] => True
  | o :: l => LateAt P C hint e o /\ lateP P C hint e l
theorem lateP_at {e : Env} : ∀ {l : List Oper}, lateP P C hint e l -> ∀ o ∈ l, LateAt P C hint e o
  | [], _, o, h => by cases h
  | p :: l, hp, o, h => by
    rcases List.mem_cons.1 h with rfl | h
    · exact hp.1
    · exact lateP_at hp.2 o h
variable {x : Cx}
theorem draw_late (hT : TabOK P C) (hx0 : x.n0 <= hint.n0) {all : List Oper} {c hd : Nat} (hchk : lateOK hint all c hd = true) (hdst : dstOK x.k all = true) {e : Env} {h : Heap} {n : Nat} {a : Act} {w : World}
    {Q : Exit -> Act -> World -> Prop} {K : Env -> Heap -> Nat -> Prop} (hK : ∀ e h n a w, K e h n -> Sat x e h n a w -> Q .normal a w)
    (hop : opsA P C hint all (all.take hd) e h n (fun e h n => lateP P C hint e ((all.take hd).drop c) /\ opsA P C hint all (all.drop hd) e h n K)) (hs : Sat x e h n a w) :
    wpAny P .any all.toArray Q all.toArray.size (Array.replicate all.toArray.size false) a { w with drawn := w.drawn + 1 } := by
  have hchk0 := hchk
  simp only [lateOK, Bool.and_eq_true, decide_eq_true_eq] at hchk
  obtain ⟨⟨⟨⟨⟨⟨⟨⟨⟨⟨hback, hssa⟩, hgd⟩, hM⟩, hc⟩, hhd⟩, hchain⟩, hneed⟩, hlate⟩, htail⟩, hsep⟩ := hchk
  have hs' : Sat x e h n a { w with drawn := w.drawn + 1 } := by
    obtain ⟨S, ρ, s1, s2, s3, sf, s4, s5, s6⟩ := hs
    exact ⟨S, ρ, s1, s2, s3.drew _, sf, s4, s5.drew _, s6⟩
  have hk0 : ∀ r, h.look r ≠ none -> r < n := by obtain ⟨S, ρ, s1, s2, s3, sf, s4, s5, s6, s7, s8, s9⟩ := hs; exact s8
  have hxn : x.n0 <= n := by obtain ⟨S, ρ, s1, s2, s3, sf, s4, s5, s6, s7, s8, s9⟩ := hs; exact s9
  have hll : (all.take hd).length = hd := by simp; omega
  obtain ⟨tr, e', h', n', ht, hkt, hN⟩ := extractN (own := x.own) hT (tail := []) (all.take hd) e h n (fun o ho => by have := List.all_eq_true.1 hM o ho; simpa using this) hk0 (by rw [List.append_nil]; exact hop)
  obtain ⟨hlp, hkt⟩ : lateP P C hint e' ((all.take hd).drop c) /\ opsA P C hint all (all.drop hd) e' h' n' K := hkt
  have F := Trace.facts (f := e.get) _ _ _ _ _ _ _ _ (fun t => Ent.refl _) hk0 ht
  have hall : ∀ (i : Nat) o, (all.take hd)[i]? = some o -> all[i]? = some o := fun i o ho => by
    rw [List.getElem?_take] at ho; split at ho
    · exact ho
    · cases ho
  have takeE : ∀ (j : Nat) o, j < hd -> all[j]? = some o -> (all.take hd)[j]? = some o := fun j o h1 ho => by rw [List.getElem?_take, if_pos h1]; exact ho
  have isLate : ∀ (j : Nat) o, c <= j -> j < hd -> all[j]? = some o -> o ∈ (all.take hd).drop c := fun j o h1 h2 ho => by
    refine List.mem_iff_getElem?.2 ⟨j - c, ?_⟩
    rw [List.getElem?_drop, List.getElem?_take, if_pos (by omega), show c + (j - c) = j by omega]; exact ho
  have hdst' : dstOK x.k (all.take hd) = true := List.all_eq_true.2 (fun o ho => List.all_eq_true.1 hdst o (List.mem_of_mem_take ho))
  -- what the head leaves, late operations yet to come
  have ends : ∀ {listed : Array Bool} {U : List Nat} {a : Act} {w : World} {S : Store} {ρ : Rho} {H : HF}, Left all listed U -> (∀ i ∈ U, c <= i) -> Good x (all.take hd) tr e h h' listed a w S ρ H -> Sat x (hideE (dstU all hd U) e') h' n' a w := by
    intro listed U a w S ρ H hL hl hg
    have lst : ∀ i, i < hd -> i ∉ U -> listed.getD i false = true := fun i hi hn => by
      cases hli : listed.getD i false with
      | true => rfl
      | false => exact absurd ((hL.mem i).2 ⟨by omega, hli⟩) hn
    have eH : H = h'.look := by
      funext r
      cases hr : h'.look r with
      | none =>
        cases hH : H r with
        | none => rfl
        | some k => have := hg.sub r k hH; rw [hr] at this; cases this
      | some k =>
        rcases F.whence r k hr with h1 | ⟨i, s, h1, h2⟩
        · exact hg.old r k h1
        · have hi : i < hd := by
            have := (List.getElem?_eq_some_iff.1 h1).1
            rw [F.len, hll] at this; exact this
          have hoi : all[i]? = some all[i] := by simp [show i < all.length by omega]
          by_cases hiU : i ∈ U
          · have := hN i _ s (takeE i _ hi hoi) h1 (List.all_eq_true.1 hlate _ (isLate i _ (hl i hiU) hi hoi))
            rw [this] at h2; simp [Heap.look] at h2
          · exact hg.new i s r k h1 (lst i hi hiU) h2
    refine ⟨S, ρ, hg.s1, hg.s2, by rw [<- eH]; exact hg.rel, by rw [<- eH]; exact hg.fix, fun t => ?_, hg.kept, hg.size, hg.defers, F.keys, Nat.le_trans hxn F.le⟩
    rw [<- eH, hideE_get]
    by_cases htU : t ∈ dstU all hd U
    · rw [if_pos htU]; exact .pure _ _ (.undef _)
    · rw [if_neg htU]
      refine F.fin t _ _ _ _ ?_
      by_cases hex : ∃ (i : Nat) (p : Oper), (all.take hd)[i]? = some p /\ p.dst = some t
      · obtain ⟨i, p, hp, hpd⟩ := hex
        have hi := (List.getElem?_eq_some_iff.1 hp).1
        have hit : i < tr.length := by rw [F.len]; exact hi
        have hst : tr[i]? = some tr[i] := by simp [hit]
        rw [cur_some _ tr e.get _ i t p tr[i] hi hp hst hpd (fun q o' hq hne ho' hdo => by
          have h1 := zipIdx_all (zipIdx_all hssa ho') hp
          simp only [hpd, Bool.and_eq_true, Bool.or_eq_true, beq_iff_eq, bne_iff_ne, ne_eq] at h1
          rcases h1.1.1 with h2 | h2
          · exact hne h2.symm
          · exact h2 hdo)]
        refine hg.done i p _ t hp hst (lst i (by omega) (fun hiU => htU (mem_dstU.2 ⟨i, hiU, by omega, ?_⟩))) hpd
        rw [gdst_of (hall i p hp)]; exact hpd
      · rw [cur_none _ tr e.get _ t (fun i p _ hp hpd => hex ⟨i, p, hp, hpd⟩)]
        exact hg.rest t (fun i p hp hpd => hex ⟨i, p, hp, hpd⟩)
  -- whatever order
  have main : ∀ (fuel : Nat) (U : List Nat) (listed : Array Bool) (a : Act) (w : World) (S : Store) (ρ : Rho) (H : HF), Left all listed U -> (∀ i, hd <= i -> i < all.length -> i ∈ U) -> U.length <= fuel ->
      (∀ j oj, all.toArray[j]? = some oj -> listed.getD j false = true -> ∀ ed ∈ oj.after, Region.binds .any ed = true -> listed.getD ed.on false = true) ->
      Good x (all.take hd) tr e h h' listed a w S ρ H -> wpAny P .any all.toArray Q fuel listed a w := by
    intro fuel
    induction fuel with
    | zero =>
      intro U listed a w S ρ H hL hUt hf hcl hg
      have hU0 : U = [] := List.length_eq_zero_iff.1 (by omega)
      exact absurd (hUt hd (Nat.le_refl _) hhd) (by rw [hU0]; simp)
    | succ fuel ih =>
      intro U listed a w S ρ H hL hUt hf hcl hg
      by_cases hrem : ∃ i ∈ U, i < c
      · -- some operation ahead of the late ones is left
        have hne : U ≠ [] := by obtain ⟨i, hi, _⟩ := hrem; intro e; subst e; cases hi
        obtain ⟨m, hm1, hm2⟩ := exists_least U hne
        have hmr := ready_least hback hL hm1 hm2
        refine ⟨fun h0 => (by rw [h0] at hmr; cases hmr), fun j hj => ?_⟩
        have hjU := ready_mem hL hj
        have hjhd : j < hd := by
          rcases Nat.lt_or_ge j hd with h | h
          · exact h
          · exfalso
            obtain ⟨hja, hjf⟩ := (hL.mem j).1 hjU
            rcases Nat.lt_or_ge hd j with h2 | h2
            · have g1 := List.all_eq_true.1 hchain j (List.mem_range.2 (by simpa using hja))
              simp only [Bool.or_eq_true, decide_eq_true_eq] at g1
              rcases g1 with g1 | g1
              · omega
              · obtain ⟨o', ho', ed, he, hb, hon⟩ := Region.waitsFor_spec g1
                obtain ⟨_, o2, ho2, hall2⟩ := mem_ready.1 hj
                rw [ho'] at ho2; cases ho2
                have := hall2 ed he hb
                rw [hon] at this
                have hm : j - 1 ∈ U := hUt (j - 1) (by omega) (by omega)
                have := ((hL.mem (j - 1)).1 hm).2
                simp_all
            · obtain rfl : j = hd := by omega
              obtain ⟨i, hi1, hi2⟩ := hrem
              obtain ⟨_, o2, ho2, hall2⟩ := mem_ready.1 hj
              have g1 := List.all_eq_true.1 hneed i (List.mem_range.2 hi2)
              have g2 : i ∈ needsL all j [j] := by simpa using g1
              rcases needsL_ok hcl j (fun o ho ed he hb => by
                have : all.toArray[j]? = some o := by simpa using ho
                rw [this] at ho2; cases ho2
                exact hall2 ed he hb) j [j] (fun i hi => .inl (by simpa using hi)) i g2 with h3 | h3
              · omega
              · have := ((hL.mem i).1 hi1).2
                simp_all
        obtain ⟨hL', hlen⟩ := hL.step hjU
        have hjs : j < listed.size := by rw [hL.size]; omega
        refine good_step hxn F hall hback hssa hgd hdst' hL.size hg hj (by rw [hll]; exact hjhd) (fun a' w' S' ρ' H' hg' => ?_)
        refine ih _ _ a' w' S' ρ' H' hL' (fun i hi1 hi2 => ?_) (by omega) (fun q oq hoq hlq ed hed hb => ?_) hg'
        · rw [hL.nodup.mem_erase_iff]; exact ⟨by omega, hUt i hi1 hi2⟩
        · rw [getD_set _ _ _ _ hjs] at hlq ⊢
          split
          · rfl
          · split at hlq
            · rename_i e1; subst e1
              obtain ⟨_, o2, ho2, hall2⟩ := mem_ready.1 hj
              rw [hoq] at ho2; cases ho2
              exact hall2 ed hed hb
            · exact hcl q oq hoq hlq ed hed hb
      · have hUc : ∀ j ∈ U, c <= j := fun j hj => by
          rcases Nat.lt_or_ge j c with h | h
          · exact absurd ⟨j, hj, h⟩ hrem
          · exact h
        exact late_ok hT hx0 hK hchk0 hdst (fuel + 1) hd e' h' n' listed U a w (Nat.le_refl _) (by omega) hL hUc (fun j h1 => ⟨fun hj => ⟨h1, ((hL.mem j).1 hj).1⟩, fun h2 => hUt j h1 h2.2⟩) hf hkt
          (fun j o hj hjh ho => lateP_at hlp o (isLate j o (hUc j hj) hjh ho)) (ends hL hUc hg)
  obtain ⟨S, ρ, s1, s2, s3, sf, s4, s5, s6, s7, s8⟩ := hs'
  refine main all.toArray.size (List.range all.length) _ a _ S ρ h.look ⟨by simp, fun j => ?_, List.nodup_range⟩ (fun i _ hi => List.mem_range.2 hi) (by simp) (fun j oj _ hl => ?_) ?_
  · simp only [List.mem_range]
    constructor
    · intro hj; exact ⟨hj, getD_replicate_false _ _⟩
    · exact fun h => h.1
  · rw [getD_replicate_false] at hl; cases hl
  · refine ⟨s1, s2, s3, sf, fun r k hr => F.old r k hr, fun _ _ h => h, fun i s r k hs hl => (by rw [getD_replicate_false] at hl; cases hl), fun i s r hs _ hr => ?_, fun i o s d ho hs hl => (by rw [getD_replicate_false] at hl; cases hl), fun t _ => s4 t, s5, s6, s7⟩
    cases hh : h.look r with
    | none => rfl
    | some k =>
      obtain ⟨k', hk'⟩ := Option.ne_none_iff_exists'.1 hr
      have h1 := (F.new i s r k' hs hk').2
      have h2 := hk0 r (by rw [hh]; simp)
      omega
theorem draw_late_perm (hT : TabOK P C) (hx0 : x.n0 <= hint.n0) (hm : P.follows .mixedOrders = true) {all all' : List Oper} {f : Nat -> Nat} (hp : PermOf all all' f) {c hd : Nat} (hchk : lateOK hint all' c hd = true) (hdst : dstOK x.k all' = true) {id : Nat} {e : Env} {h : Heap} {n : Nat} {a : Act} {w : World}
    {Q : Exit -> Act -> World -> Prop} {K : Env -> Heap -> Nat -> Prop} (hK : ∀ e h n a w, K e h n -> Sat x e h n a w -> Q .normal a w)
    (hop : opsA P C hint all' (all'.take hd) e h n (fun e h n => lateP P C hint e ((all'.take hd).drop c) /\ opsA P C hint all' (all'.drop hd) e h n K)) (hs : Sat x e h n a w) :
    (Code.region id all.toArray true).wp P Q a w := by
  refine wp_region_any hm ?_
  have h1 := draw_late hT hx0 hchk hdst hK hop hs
  have e1 : all'.toArray.size = all.toArray.size := by simp [hp.len]
  rw [e1] at h1
  refine wpAny_perm hp _ _ _ _ _ ⟨by simp, by simp, fun i hi b => ?_⟩ h1
  simp only [List.size_toArray]
  rw [getD_rep (hp.lt i hi), getD_rep hi]
end
end Go.Vc
namespace Go.Vc
open Go.RowKit
def lateKind2 (o : Oper) : Bool := o.guard.isNone && (match o.op with
  | .move _ | .assign _ | .extract _ _ => true
  | .binOp op _ _ y _ => !isNilc op y
  | .unOp .not _ _ => true
  | .convert _ _ _ => true
  | .indexAddr _ _ _ | .index _ _ _ | .load _ _ | .fieldAddr _ _ _ | .field _ _ _ => true
  | .slice _ _ _ _ none => true
  | .nilCheck _ => true
  | .call ⟨.builtin .len, ⟨[_]⟩, ⟨[_]⟩⟩ => true
  | _ => false)
def tailKind2 (o : Oper) : Bool := o.guard.isNone && (match o.op with
  | .pick _ _ _ => false
  | .binOp op _ _ y _ => !isNilc op y
  | _ => true)
section
variable {P : Program} {C : Table} {hint : Hint}
theorem late2_eval {o : Oper} (hk : lateKind2 o = true) (e : Env) (h : Heap) (n : Nat) : evalH P C hint o e h n = ⟨(evalH P C hint o e h 0).pre, (evalH P C hint o e h 0).val, [], 0⟩ := by
  obtain ⟨dst, op, t, pos, af, gd⟩ := o
  simp only [lateKind2, Bool.and_eq_true] at hk
  obtain ⟨_, hk⟩ := hk
  split at hk <;> first | rfl | (cases hk; done)
theorem evalH_congr {o : Oper} {e e' : Env} (key : ∀ y, y ∈ o.op.operands -> opnd e y = opnd e' y) (h : Heap) (n : Nat) : evalH P C hint o e h n = evalH P C hint o e' h n := by
  have optl : ∀ l : Option Operand, (∀ y, l = some y -> opnd e y = opnd e' y) -> l.map (opnd e) = l.map (opnd e') := fun l hl => by
    cases l with
    | none => rfl
    | some y => simp only [Option.map_some]; rw [hl y rfl]
  unfold evalH
  split <;> (rename_i ho; simp only [ho] at key ⊢)
  · rename_i x; rw [key x (by simp [Op.operands])]
  · rename_i x; rw [key x (by simp [Op.operands])]
  · rename_i op t x y t2; rw [key x (by simp [Op.operands]), key y (by simp [Op.operands])]
  · rename_i t x; rw [key x (by simp [Op.operands])]
  · rename_i t x; rw [key x (by simp [Op.operands])]
  · rename_i s t x; rw [key x (by simp [Op.operands])]
  · rename_i t x i; rw [key x (by simp [Op.operands]), key i (by simp [Op.operands])]
  · rename_i t x i; rw [key x (by simp [Op.operands]), key i (by simp [Op.operands])]
  · rename_i t x; rw [key x (by simp [Op.operands])]
  · rename_i t x f; rw [key x (by simp [Op.operands])]
  · rename_i t x f; rw [key x (by simp [Op.operands])]
  · rename_i x k; rw [key x (by simp [Op.operands])]
  · rename_i f xs
    rw [List.map_congr_left (fun y hy => key y (by simp [Op.operands]; exact hy))]
  · rename_i f x xs
    have e1 : (x :: xs).map (opnd e) = (x :: xs).map (opnd e') := List.map_congr_left (fun y hy => key y (by simp [Op.operands]; simpa using hy))
    rw [e1]
  · rename_i t x; rw [key x (by simp [Op.operands])]
  · rename_i x t; rw [key x (by simp [Op.operands, Call.operands])]
  · rename_i x y ts; rw [key x (by simp [Op.operands, Call.operands]), key y (by simp [Op.operands, Call.operands])]
  · rename_i x y ts; rw [key x (by simp [Op.operands, Call.operands]), key y (by simp [Op.operands, Call.operands])]
  · rename_i t len ps
    have e1 : (ps.map fun p => opnd e p.2) = ps.map fun p => opnd e' p.2 := List.map_congr_left (fun p hp => key p.2 (by simp [Op.operands]; exact ⟨p.1, hp⟩))
    rw [e1]
  · rename_i t l c; rw [key l (by simp [Op.operands]), key c (by simp [Op.operands])]
  · rename_i t x lo hi
    rw [key x (by simp [Op.operands]), optl lo (fun y hy => key y (by simp [Op.operands, hy])), optl hi (fun y hy => key y (by simp [Op.operands, hy]))]
  · rename_i s y ts tx; rw [key s (by simp [Op.operands, Call.operands]), key y (by simp [Op.operands, Call.operands])]
  · rename_i f xs ts
    rw [key f (by simp [Op.operands, Call.operands]), List.map_congr_left (fun y hy => key y (by simp [Op.operands, Call.operands, hy]))]
  · rename_i t ps
    have e1 : (ps.map fun p => opnd e p.2) = ps.map fun p => opnd e' p.2 := List.map_congr_left (fun p hp => key p.2 (by simp [Op.operands]; exact ⟨p.1, hp⟩))
    rw [e1]
  · rename_i x; rw [key x (by simp [Op.operands])]
theorem callM_like (C : Table) (f : AV) (args : List AV) (h : Heap) (n : Nat) : ∃ (p : Prop) (v : AV) (φ : AV -> AV) (hh : Heap) (c : Nat), φ .undef = .undef /\
    ∀ e, (callM C f args e h n).pre = p /\ (callM C f args e h n).val = v /\ (callM C f args e h n).heap = hh /\ (callM C f args e h n).cnt = c /\ (p -> (callM C f args e h n).env = trE φ e) := by
  cases f with
  | fn g caps => exact ⟨_, _, purN _ [], _, _, rfl, fun e => ⟨rfl, rfl, rfl, rfl, fun _ => rfl⟩⟩
  | _ => exact ⟨False, .undef, id, [], 0, rfl, fun e => ⟨rfl, rfl, rfl, rfl, fun h => h.elim⟩⟩
variable {x : Cx}
theorem tail_step2 (hT : TabOK P C) (hx0 : x.n0 <= hint.n0) {all : List Oper} {o : Oper} (hk : tailKind2 o = true) {rest : List Oper} {e : Env} {h : Heap} {n : Nat} {K : Env -> Heap -> Nat -> Prop} (hop : opsA P C hint all (o :: rest) e h n K) {ds : List Nat}
    (hds : ∀ d ∈ ds, d ∉ tmpsOf o /\ o.dst ≠ some d) {a : Act} {w : World} (hs : Sat x (hideE ds e) h n a w) (hd : ∀ t, o.dst = some t -> t < x.k) {next : Act -> World -> Prop} {Q : Exit -> Act -> World -> Prop}
    (hK : ∀ e2 h2 n2 a' w', opsA P C hint all rest e2 h2 n2 K -> Sat x (hideE ds e2) h2 n2 a' w' -> next a' w') : o.wp P a w next Q := by
  have key : ∀ y, y ∈ o.op.operands -> opnd (hideE ds e) y = opnd e y := fun y hy => opnd_congr (fun t ht => by
    rw [hideE_get, if_neg (fun hm => (hds t hm).1 (mem_tmpsOf (by rw [<- ht]; exact hy)))])
  have hdd : ∀ t ∈ ds, o.dst ≠ some t := fun t ht => (hds t ht).2
  have putS : ∀ {v : AV} {h2 : Heap} {n2 : Nat} {a' : Act} {w' : World}, Sat x (dset (hideE ds e) o.dst v) h2 n2 a' w' -> Sat x (hideE ds (dset e o.dst v)) h2 n2 a' w' := by
    intro v h2 n2 a' w' hs2
    exact Sat.congr hs2 (fun t => hide_dset (φ := id) rfl hdd (fun t => (AV.tr_id _).symm) (fun t => (AV.tr_id _).symm) t)
  have put2 : ∀ {e1 e2 : Env} {φ : AV -> AV}, φ .undef = .undef -> (∀ t, e1.get t = ((hideE ds e).get t).tr φ) -> (∀ t, e2.get t = (e.get t).tr φ) -> ∀ {v : AV} {h2 : Heap} {n2 : Nat} {a' : Act} {w' : World}, Sat x (dset e1 o.dst v) h2 n2 a' w' -> Sat x (hideE ds (dset e2 o.dst v)) h2 n2 a' w' := by
    intro e1 e2 φ h0 h1 h2 v hh2 n2 a' w' hs2
    exact Sat.congr hs2 (fun t => hide_dset h0 hdd h1 h2 t)
  have hev : evalH P C hint o (hideE ds e) h n = evalH P C hint o e h n := evalH_congr key h n
  have byEval : (evalH P C hint o e h n).pre /\ opsA P C hint all rest (dset e o.dst (evalH P C hint o e h n).val) ((evalH P C hint o e h n).new ++ h) (n + (evalH P C hint o e h n).cnt) K -> o.wp P a w next Q := fun hy =>
    opH_ok (P := P) (C := C) (hint := hint) hT (by rw [hev]; exact hy.1) hs hd (fun a' w' hs2 => hK _ _ _ a' w' hy.2 (putS (by rw [hev] at hs2; exact hs2)))
  simp only [tailKind2, Bool.and_eq_true, Option.isNone_iff_eq_none] at hk
  obtain ⟨hgd, hk⟩ := hk
  unfold opsA at hop
  rw [hgd] at hop
  unfold guardA at hop
  simp only at hop
  split at hop
  · rename_i c p q hpk; rw [hpk] at hk; cases hk
  · rename_i t p v hst
    rw [hst] at key
    have k1 := key p (by simp [Op.operands])
    have k2 := key v (by simp [Op.operands])
    obtain ⟨pp, φ, hh, h0, hl⟩ := storeR_like (hint := hint) (td P t) (blkOf h (opnd e p)) (opnd e p) (opnd e v) h
    obtain ⟨g1, g2, g3⟩ := hl e
    obtain ⟨f1, f2, f3⟩ := hl (hideE ds e)
    have hpp : pp := by rw [<- g1]; exact hop.1
    have hpre : (storeR hint (td P t) (blkOf h (opnd (hideE ds e) p)) (opnd (hideE ds e) p) (opnd (hideE ds e) v) (hideE ds e) h).pre := by rw [k1, k2, f1]; exact hpp
    have fin : ∀ a' w', Sat x (dset (storeR hint (td P t) (blkOf h (opnd (hideE ds e) p)) (opnd (hideE ds e) p) (opnd (hideE ds e) v) (hideE ds e) h).env o.dst .skipd) (storeR hint (td P t) (blkOf h (opnd (hideE ds e) p)) (opnd (hideE ds e) p) (opnd (hideE ds e) v) (hideE ds e) h).heap n a' w' -> next a' w' := fun a' w' hs2 => by
      rw [k1, k2, f2] at hs2
      rw [g2] at hop
      exact hK _ _ _ a' w' hop.2 (put2 h0 (f3 hpp) (g3 hpp) hs2)
    by_cases hpo : ∃ r i, opnd (hideE ds e) p = .po r i
    · obtain ⟨r, i, hpo⟩ := hpo
      exact row_ok hx0 hst hs hpo hpre hd fin
    · exact store_ok hst hs hpre hd (fun r i h => hpo ⟨r, i, h⟩) fin
  · rename_i s y ts tx hap
    have k1 := key s (by rw [hap]; simp [Op.operands, Call.operands])
    have k2 := key y (by rw [hap]; simp [Op.operands, Call.operands])
    unfold appS at hop
    split at hop
    · obtain ⟨pp, φ, hh, h0, hl⟩ := appR_like (hint := hint) (P := P) ts tx (opnd e s) (blkOf h (opnd e s)) (opnd e y) h
      obtain ⟨g1, g2, g3⟩ := hl e
      obtain ⟨f1, f2, f3⟩ := hl (hideE ds e)
      have hpp : pp := by rw [<- g1]; exact hop.1
      refine append_ok (P := P) hx0 hap hs (by rw [k1, k2, f1]; exact hpp) hd (fun a' w' hs2 => ?_)
      rw [k1, k2, f2] at hs2
      rw [g2] at hop
      exact hK _ _ _ a' w' hop.2 (put2 h0 (f3 hpp) (g3 hpp) hs2)
    · obtain ⟨pp, φ, hh, h0, hl⟩ := appM_like (hint := hint) (P := P) ts tx (opnd e s) (blkOf h (opnd e s)) (opnd e y) h
      obtain ⟨g1, g2, g3⟩ := hl e
      obtain ⟨f1, f2, f3⟩ := hl (hideE ds e)
      have hpp : pp := by rw [<- g1]; exact hop.1
      refine appM_ok (P := P) hx0 hap hs (by rw [k1, k2, f1]; exact hpp) hd (fun a' w' hs2 => ?_)
      rw [k1, k2, f2] at hs2
      rw [g2] at hop
      exact hK _ _ _ a' w' hop.2 (put2 h0 (f3 hpp) (g3 hpp) hs2)
    · exact byEval hop
  · rename_i f xs ts hcl
    have kf := key f (by rw [hcl]; simp [Op.operands, Call.operands])
    have kx : xs.map (opnd (hideE ds e)) = xs.map (opnd e) := List.map_congr_left (fun y hy => key y (by rw [hcl]; simp [Op.operands, Call.operands, hy]))
    cases hm : hint.ms (mkey f) with
    | true =>
      cases hm2 : hint.ms (1000000 + mkey f) with
      | true =>
        simp only [hm, hm2, cond_true] at hop
        refine callZ_ok (K' := fun v e1 h1 c1 => ∃ (φ : AV -> AV) (e2 : Env), φ .undef = .undef /\ (∀ t, e1.get t = ((hideE ds e).get t).tr φ) /\ (∀ t, e2.get t = (e.get t).tr φ) /\ opsA P C hint all rest (dset e2 o.dst v) h1 (n + c1) K) hT.spec hT.call hcl hs ?_ hd ?_
        · rw [kf, kx]
          unfold callZ at hop ⊢
          split at hop <;> first | exact hop.elim | skip
          obtain ⟨q1, q2⟩ := hop
          refine ⟨q1, fun z hz => ?_⟩
          obtain ⟨r1, r2⟩ := q2 z hz
          exact ⟨r1, purN _ [], _, rfl, fun t => trE_get _ _ _ rfl, fun t => trE_get _ _ _ rfl, r2⟩
        · rintro v e1 h1 c1 a' w' ⟨φ, e2, h0, g1, g2, g3⟩ hs2
          exact hK _ _ _ a' w' g3 (put2 h0 g1 g2 hs2)
      | false =>
        simp only [hm, hm2, cond_true, cond_false] at hop
        obtain ⟨pp, v, φ, hh, c, h0, hl⟩ := callM_like C (opnd e f) (xs.map (opnd e)) h n
        obtain ⟨g1, g2, g3, g4, g5⟩ := hl e
        obtain ⟨f1, f2, f3, f4, f5⟩ := hl (hideE ds e)
        have hpp : pp := by rw [<- g1]; exact hop.1
        refine callM_ok hT.spec hT.call hcl hs (by rw [kf, kx, f1]; exact hpp) hd (fun a' w' hs2 => ?_)
        rw [kf, kx, f2, f3, f4, f5 hpp] at hs2
        have hop2 := hop.2
        rw [g2, g3, g4, g5 hpp] at hop2
        exact hK _ _ _ a' w' hop2 (put2 h0 (fun t => trE_get _ _ _ h0) (fun t => trE_get _ _ _ h0) hs2)
    | false =>
      simp only [hm, cond_false] at hop
      exact byEval hop
  · rename_i op t y z t2 hbo
    rw [hbo] at hk
    have hm : isNilc op z = false := by simpa using hk
    simp only [hm, cond_false] at hop
    exact byEval hop
  · exact byEval hop
def LateAt2 (P : Program) (C : Table) (hint : Hint) (e : Env) (h : Heap) (o : Oper) : Prop :=
  (evalH P C hint o e h 0).pre /\ ∀ d, o.dst = some d -> e.get d = (evalH P C hint o e h 0).val
def lateP2 (P : Program) (C : Table) (hint : Hint) (e : Env) (h : Heap) : List Oper -> Prop
  | [] => True
  | o :: l => LateAt2 P C hint e h o /\ lateP2 P C hint e h l
theorem lateP2_at {e : Env} {h : Heap} : ∀ {l : List Oper}, lateP2 P C hint e h l -> ∀ o ∈ l, LateAt2 P C hint e h o
  | [], _, o, h => by cases h
  | p :: l, hp, o, h => by
    rcases List.mem_cons.1 h with rfl | h
    · exact hp.1
    · exact lateP2_at hp.2 o h
def opsL (P : Program) (C : Table) (hint : Hint) (all L : List Oper) : Nat -> List Oper -> (Env -> Heap -> Nat -> Prop) -> Env -> Heap -> Nat -> Prop
  | 0, l, K, e, h, n => lateP2 P C hint e h L /\ opsA P C hint all l e h n K
  | k + 1, l, K, e, h, n => lateP2 P C hint e h L /\ opsA P C hint all (l.take 1) e h n (opsL P C hint all L k (l.drop 1) K)
def lateOK2 (hint : Hint) (all : List Oper) (c hd k : Nat) : Bool :=
  backB all && ssaB (all.take hd) && guardB (all.take hd) && (all.take hd).all (fun o => !isM hint o) && decide (c <= hd) && decide (hd < all.length) && Region.chainB .any all.toArray hd &&
  ((List.range c).all fun j => (needsL all hd [hd]).contains j) && ((all.take hd).drop c).all lateKind2 && (all.drop hd).all tailKind2 &&
  ((List.range all.length).all fun i => decide (i < hd) || (List.range hd).all fun j => decide (j < c) || (match all[i]?, all[j]? with | some o, some p => waits o j || sepB o p | _, _ => true)) &&
  decide (hd + k < all.length) && ((List.range hd).all fun j => decide (j < c) || (needsL all (hd + k) [hd + k]).contains j)
theorem late_ok2 (hT : TabOK P C) (hx0 : x.n0 <= hint.n0) {all : List Oper} {Q : Exit -> Act -> World -> Prop} {K : Env -> Heap -> Nat -> Prop} (hK : ∀ e h n a w, K e h n -> Sat x e h n a w -> Q .normal a w) {c hd k : Nat} (hchk : lateOK2 hint all c hd k = true) (hdst : dstOK x.k all = true) :
    ∀ (fuel i : Nat) (e : Env) (h : Heap) (n : Nat) (listed : Array Bool) (U : List Nat) (a : Act) (w : World), hd <= i -> i <= all.length -> Left all listed U -> (∀ j ∈ U, c <= j) -> (∀ j, hd <= j -> (j ∈ U ↔ i <= j /\ j < all.length)) -> U.length <= fuel ->
      (∀ j oj, all.toArray[j]? = some oj -> listed.getD j false = true -> ∀ ed ∈ oj.after, Region.binds .any ed = true -> listed.getD ed.on false = true) ->
      (i <= hd + k -> opsL P C hint all ((all.take hd).drop c) (hd + k - i) (all.drop i) K e h n) -> (hd + k < i -> opsA P C hint all (all.drop i) e h n K /\ ∀ j ∈ U, hd <= j) -> Sat x (hideE (dstU all hd U) e) h n a w -> wpAny P .any all.toArray Q fuel listed a w := by
  simp only [lateOK2, Bool.and_eq_true, decide_eq_true_eq] at hchk
  obtain ⟨⟨⟨⟨⟨⟨⟨⟨⟨⟨⟨⟨hback, hssa⟩, hgd⟩, hM⟩, hc⟩, hhd⟩, hchain⟩, hneed⟩, hlate⟩, htail⟩, hsep⟩, hkl⟩, hneed2⟩ := hchk
  have memLate : ∀ (j : Nat) o, c <= j -> j < hd -> all[j]? = some o -> o ∈ (all.take hd).drop c := fun j o h1 h2 ho => by
    refine List.mem_iff_getElem?.2 ⟨j - c, ?_⟩
    rw [List.getElem?_drop, List.getElem?_take, if_pos (by omega), show c + (j - c) = j by omega]; exact ho
  have isLate : ∀ (j : Nat) o, c <= j -> j < hd -> all[j]? = some o -> lateKind2 o = true := fun j o h1 h2 ho => List.all_eq_true.1 hlate o (memLate j o h1 h2 ho)
  have isTail : ∀ (j : Nat) o, hd <= j -> all[j]? = some o -> tailKind2 o = true := fun j o h1 ho => by
    refine List.all_eq_true.1 htail o (List.mem_iff_getElem?.2 ⟨j - hd, ?_⟩)
    rw [List.getElem?_drop, show hd + (j - hd) = j by omega]; exact ho
  have hsep2 : ∀ (i j : Nat) o p, hd <= i -> c <= j -> j < hd -> all[i]? = some o -> all[j]? = some p -> waits o j = true \/ sepB o p = true := fun i j o p h1 h2 h3 ho hp => by
    have hi := (List.getElem?_eq_some_iff.1 ho).1
    have g1 := List.all_eq_true.1 hsep i (List.mem_range.2 hi)
    simp only [Bool.or_eq_true, decide_eq_true_eq] at g1
    rcases g1 with g1 | g1
    · omega
    · have g2 := List.all_eq_true.1 g1 j (List.mem_range.2 h3)
      simp only [Bool.or_eq_true, decide_eq_true_eq, ho, hp] at g2
      rcases g2 with g2 | g2
      · omega
      · exact g2
  have takeE : ∀ (j : Nat) o, j < hd -> all[j]? = some o -> (all.take hd)[j]? = some o := fun j o h1 ho => by rw [List.getElem?_take, if_pos h1]; exact ho
  have done : ∀ {i : Nat} {e : Env} {h : Heap} {n : Nat} {U : List Nat} {a : Act} {w : World}, i <= all.length -> U = [] -> (∀ j, hd <= j -> (j ∈ U ↔ i <= j /\ j < all.length)) -> hd <= i -> (hd + k < i -> opsA P C hint all (all.drop i) e h n K /\ ∀ j ∈ U, hd <= j) -> Sat x (hideE (dstU all hd U) e) h n a w -> Q .normal a w := by
    intro i e h n U a w h1 h2 h3 h4 h5 h6
    subst h2
    have hi : i = all.length := by
      rcases Nat.lt_or_ge i all.length with h | h
      · exact absurd ((h3 i h4).2 ⟨Nat.le_refl _, h⟩) (by simp)
      · omega
    subst hi
    have h5 := (h5 hkl).1
    rw [List.drop_of_length_le (Nat.le_refl _)] at h5
    exact hK e h n a w h5 (h6.congr (fun t => rfl))
  intro fuel
  induction fuel with
  | zero =>
    intro i e h n listed U a w h1 h2 hL hc' hU hf hcl hopL hopA hs
    have hU0 : U = [] := List.length_eq_zero_iff.1 (by omega)
    refine ⟨?_, done h2 hU0 hU h1 hopA hs⟩
    subst hU0
    exact List.eq_nil_iff_forall_not_mem.2 (fun j hj => absurd (ready_mem hL hj) (by simp))
  | succ fuel ih =>
    intro i e h n listed U a w h1 h2 hL hc' hU hf hcl hopL hopA hs
    refine ⟨fun h0 => ?_, fun j hj => ?_⟩
    · have hU0 : U = [] := by
        by_cases hne : U = []
        · exact hne
        · obtain ⟨m, hm1, hm2⟩ := exists_least U hne
          have := ready_least hback hL hm1 hm2
          rw [h0] at this; cases this
      exact done h2 hU0 hU h1 hopA hs
    · have hjU := ready_mem hL hj
      obtain ⟨hja, hjl⟩ := (hL.mem j).1 hjU
      have ho : all[j]? = some all[j] := by simp [hja]
      generalize all[j] = o at ho
      obtain ⟨hL', hlen⟩ := hL.step hjU
      have hd1 : ∀ t, o.dst = some t -> t < x.k := dstOK_mem hdst (List.mem_of_getElem? ho)
      have rd : ∀ i, waits o i = true -> i ∉ U := fun i hw hi => by
        have := ready_listed hj (by simpa using ho) hw
        have := ((hL.mem i).1 hi).2
        simp_all
      have hjs : j < listed.size := by rw [hL.size]; exact hja
      have hcl' : ∀ q oq, all.toArray[q]? = some oq -> (listed.setIfInBounds j true).getD q false = true -> ∀ ed ∈ oq.after, Region.binds .any ed = true -> (listed.setIfInBounds j true).getD ed.on false = true := fun q oq hoq hlq ed hed hb => by
        rw [getD_set _ _ _ _ hjs] at hlq ⊢
        split
        · rfl
        · split at hlq
          · rename_i e1; subst e1
            obtain ⟨_, o2, ho2, hall2⟩ := mem_ready.1 hj
            rw [hoq] at ho2; cases ho2
            exact hall2 ed hed hb
          · exact hcl q oq hoq hlq ed hed hb
      unfold wpOp
      simp only [List.getElem?_toArray, ho]
      by_cases hjh : j < hd
      · -- a read that was left
        have hcj := hc' j hjU
        have hik : i <= hd + k := by
          rcases Nat.lt_or_ge (hd + k) i with h | h
          · have := (hopA h).2 j hjU; omega
          · exact h
        have hlp : lateP2 P C hint e h ((all.take hd).drop c) := by
          have := hopL hik
          generalize hd + k - i = q at this
          cases q with
          | zero => exact this.1
          | succ q => exact this.1
        have hat := lateP2_at hlp o (memLate j o hcj hjh ho)
        have hk := isLate j o hcj hjh ho
        have hg : o.guard = none := by simp only [lateKind2, Bool.and_eq_true, Option.isNone_iff_eq_none] at hk; exact hk.1
        rw [if_pos (by simp [Region.wanted, hg])]
        left
        have hread : ∀ t ∈ tmpsOf o, (hideE (dstU all hd U) e).get t = e.get t := fun t ht => by
          rw [hideE_get, if_neg (fun hm => ?_)]
          obtain ⟨q, hq1, hq2, hq3⟩ := mem_dstU.1 hm
          have hqa : all[q]? = some all[q] := by simp [((hL.mem q).1 hq1).1]
          have g1 := zipIdx_all (zipIdx_all hssa (takeE j o hjh ho)) (takeE q _ hq2 hqa)
          rw [gdst_of hqa] at hq3
          simp only [hq3, Bool.and_eq_true, Bool.or_eq_true] at g1
          rcases g1.1.2 with g2 | g2
          · have : (tmpsOf o).contains t = true := by simpa using ht
            rw [this] at g2; cases g2
          · exact rd q g2 hq1
        have e1 : evalH P C hint o (hideE (dstU all hd U) e) h n = evalH P C hint o e h n := evalH_congr (fun y hy => opnd_congr (fun t ht => hread t (mem_tmpsOf (by rw [<- ht]; exact hy)))) h n
        have e2 := late2_eval (P := P) (C := C) (hint := hint) hk e h n
        have distinct : ∀ q, q ∈ U.erase j -> q < hd -> ∀ d, gdst all q = some d -> o.dst ≠ some d := fun q hq hqh d hqd => by
          rw [hL.nodup.mem_erase_iff] at hq
          have hqa : all[q]? = some all[q] := by simp [((hL.mem q).1 hq.2).1]
          have g1 := zipIdx_all (zipIdx_all hssa (takeE j o hjh ho)) (takeE q _ hqh hqa)
          rw [gdst_of hqa] at hqd
          simp only [hqd, Bool.and_eq_true, Bool.or_eq_true, beq_iff_eq, bne_iff_ne, ne_eq] at g1
          rcases g1.1.1 with g2 | g2
          · exact absurd g2.symm (fun e => hq.1 e.symm)
          · exact g2
        refine opH_ok (P := P) (C := C) (hint := hint) hT (by rw [e1, e2]; exact hat.1) hs hd1 (fun a' w' hs2 => ?_)
        rw [e1, e2] at hs2
        have hs3 : Sat x (dset (hideE (dstU all hd U) e) o.dst (evalH P C hint o e h 0).val) h n a' w' := hs2
        refine ih i e h n _ _ a' w' h1 h2 hL' (fun q hq => hc' q (List.mem_of_mem_erase hq)) (fun q hq => ?_) (by omega) hcl' hopL (fun h => ⟨(hopA h).1, fun q hq => (hopA h).2 q (List.mem_of_mem_erase hq)⟩) (hs3.congr (fun t => ?_))
        · rw [hL.nodup.mem_erase_iff, hU q hq]
          constructor
          · exact fun h => h.2
          · exact fun h => ⟨by omega, h⟩
        · rw [hideE_get, dset_get, hideE_get]
          by_cases ht : o.dst = some t
          · rw [if_pos ht, if_neg (fun hm => ?_)]
            · exact hat.2 t ht
            · obtain ⟨q, hq1, hq2, hq3⟩ := mem_dstU.1 hm
              exact distinct q hq1 hq2 t hq3 ht
          · rw [if_neg ht]
            have : t ∈ dstU all hd (U.erase j) ↔ t ∈ dstU all hd U := by
              rw [mem_dstU, mem_dstU]
              constructor
              · rintro ⟨q, hq, r⟩; exact ⟨q, List.mem_of_mem_erase hq, r⟩
              · rintro ⟨q, hq, r⟩
                refine ⟨q, (hL.nodup.mem_erase_iff).2 ⟨fun e => ?_, hq⟩, r⟩
                subst e
                rw [gdst_of ho] at r
                exact ht r.2
            by_cases hm : t ∈ dstU all hd U
            · rw [if_pos (this.2 hm), if_pos hm]
            · rw [if_neg (fun h => hm (this.1 h)), if_neg hm]
      · -- one of the tail
        have hjge : hd <= j := by omega
        have hij : j = i := by
          have hju := (hU j hjge).1 hjU
          by_cases hji : j = i
          · exact hji
          · exfalso
            have g1 := List.all_eq_true.1 hchain j (List.mem_range.2 (by simpa using hju.2))
            simp only [Bool.or_eq_true, decide_eq_true_eq] at g1
            rcases g1 with g1 | g1
            · omega
            · obtain ⟨o', ho', ed, he, hb, hon⟩ := Region.waitsFor_spec g1
              obtain ⟨_, o2, ho2, hall⟩ := mem_ready.1 hj
              rw [ho'] at ho2; cases ho2
              have := hall ed he hb
              rw [hon] at this
              have hm : j - 1 ∈ U := (hU (j - 1) (by omega)).2 ⟨by omega, by omega⟩
              have := ((hL.mem (j - 1)).1 hm).2
              simp_all
        subst hij
        have hk := isTail j o hjge ho
        have hg : o.guard = none := by simp only [tailKind2, Bool.and_eq_true, Option.isNone_iff_eq_none] at hk; exact hk.1
        rw [if_pos (by simp [Region.wanted, hg])]
        left
        have hdrop : all.drop j = o :: all.drop (j + 1) := by
          have h3 : all[j] = o := by have := ho; simp [hja] at this; exact this
          rw [<- h3]; exact List.drop_eq_getElem_cons hja
        have apart : ∀ q, q ∈ U -> q < hd -> ∀ p, all[q]? = some p -> sepB o p = true := fun q hq hqh p hp => by
          rcases hsep2 j q o p hjge (hc' q hq) hqh ho hp with g | g
          · exact absurd hq (rd q g)
          · exact g
        have hdsU : ∀ d ∈ dstU all hd U, d ∉ tmpsOf o /\ o.dst ≠ some d := fun d hdm => by
          obtain ⟨q, hq1, hq2, hq3⟩ := mem_dstU.1 hdm
          have hqa : all[q]? = some all[q] := by simp [((hL.mem q).1 hq1).1]
          have g := apart q hq1 hq2 _ hqa
          rw [gdst_of hqa] at hq3
          simp only [sepB, hq3, Bool.and_eq_true, Bool.not_eq_true', bne_iff_ne, ne_eq] at g
          exact ⟨fun hm => by have : (tmpsOf o).contains d = true := by simpa using hm
                              rw [this] at g; exact absurd g.1.1 (by simp), g.1.2⟩
        have hUe : ∀ q, q < hd -> (q ∈ U.erase j ↔ q ∈ U) := fun q hq => by
          rw [hL.nodup.mem_erase_iff]
          exact ⟨fun h => h.2, fun h => ⟨by omega, h⟩⟩
        have hUt : ∀ q, hd <= q -> (q ∈ U.erase j ↔ j + 1 <= q /\ q < all.length) := fun q hq => by
          rw [hL.nodup.mem_erase_iff, hU q hq]; omega
        have dsE : ∀ {e2 : Env} (t : Nat), (hideE (dstU all hd (U.erase j)) e2).get t = (hideE (dstU all hd U) e2).get t := fun {e2} t => by
          rw [hideE_get, hideE_get]
          have : t ∈ dstU all hd (U.erase j) ↔ t ∈ dstU all hd U := by
            rw [mem_dstU, mem_dstU]
            constructor
            · rintro ⟨q, hq, r⟩; exact ⟨q, List.mem_of_mem_erase hq, r⟩
            · rintro ⟨q, hq, r⟩; exact ⟨q, (hUe q r.1).2 hq, r⟩
          by_cases hm : t ∈ dstU all hd U
          · rw [if_pos (this.2 hm), if_pos hm]
          · rw [if_neg (fun h => hm (this.1 h)), if_neg hm]
        rcases Nat.lt_trichotomy j (hd + k) with hlt | heq | hgt
        · have hop := hopL (Nat.le_of_lt hlt)
          rw [show hd + k - j = (hd + k - (j + 1)) + 1 by omega] at hop
          have hop : opsA P C hint all ((all.drop j).take 1) e h n (opsL P C hint all ((all.take hd).drop c) (hd + k - (j + 1)) ((all.drop j).drop 1) K) := hop.2
          rw [hdrop] at hop
          refine tail_step2 hT hx0 hk (rest := []) hop hdsU hs hd1 (fun e2 h2' n2 a' w' hop2 hs2 => ?_)
          exact ih (j + 1) e2 h2' n2 _ _ a' w' (by omega) (by omega) hL' (fun q hq => hc' q (List.mem_of_mem_erase hq)) hUt (by omega) hcl' (fun _ => hop2) (fun h => by omega) (hs2.congr dsE)
        · have hop := hopL (Nat.le_of_eq heq)
          rw [show hd + k - j = 0 by omega] at hop
          have hop : opsA P C hint all (all.drop j) e h n K := hop.2
          rw [hdrop] at hop
          have noLate : ∀ q ∈ U, hd <= q := fun q hq => by
            rcases Nat.lt_or_ge q hd with hlt | hge
            · exfalso
              have g1 := List.all_eq_true.1 hneed2 q (List.mem_range.2 hlt)
              simp only [Bool.or_eq_true, decide_eq_true_eq] at g1
              rcases g1 with g1 | g1
              · have := hc' q hq; omega
              · have g2 : q ∈ needsL all (hd + k) [hd + k] := by simpa using g1
                rcases needsL_ok hcl (hd + k) (fun o' ho' ed he hb => by
                  rw [<- heq] at ho'
                  obtain ⟨_, o2, ho2, hall2⟩ := mem_ready.1 hj
                  have : all.toArray[j]? = some o' := by simpa using ho'
                  rw [this] at ho2; cases ho2
                  exact hall2 ed he hb) (hd + k) [hd + k] (fun i hi => .inl (by simpa using hi)) q g2 with h3 | h3
                · omega
                · have := ((hL.mem q).1 hq).2
                  simp_all
            · exact hge
          refine tail_step2 hT hx0 hk hop hdsU hs hd1 (fun e2 h2' n2 a' w' hop2 hs2 => ?_)
          exact ih (j + 1) e2 h2' n2 _ _ a' w' (by omega) (by omega) hL' (fun q hq => hc' q (List.mem_of_mem_erase hq)) hUt (by omega) hcl' (fun h => by omega) (fun _ => ⟨hop2, fun q hq => noLate q (List.mem_of_mem_erase hq)⟩) (hs2.congr dsE)
        · obtain ⟨hop, hno⟩ := hopA hgt
          rw [hdrop] at hop
          refine tail_step2 hT hx0 hk hop hdsU hs hd1 (fun e2 h2' n2 a' w' hop2 hs2 => ?_)
          exact ih (j + 1) e2 h2' n2 _ _ a' w' (by omega) (by omega) hL' (fun q hq => hc' q (List.mem_of_mem_erase hq)) hUt (by omega) hcl' (fun h => by omega) (fun _ => ⟨hop2, fun q hq => hno q (List.mem_of_mem_erase hq)⟩) (hs2.congr dsE)
end
section
variable {P : Program} {C : Table} {hint : Hint} {own : Nat -> Prop}
def NewL2 (l : List Oper) (tr : List Stp) : Prop := ∀ (i : Nat) o s, l[i]? = some o -> tr[i]? = some s -> lateKind2 o = true -> s.new = []
theorem NewL2.cons {o : Oper} {s : Stp} {l : List Oper} {tr : List Stp} (h : NewL2 l tr) (h0 : lateKind2 o = true -> s.new = []) : NewL2 (o :: l) (s :: tr) := fun i o' s' h1 h2 h3 => by
  cases i with
  | zero => simp at h1 h2; subst h1; subst h2; exact h0 h3
  | succ i => exact h i o' s' (by simpa using h1) (by simpa using h2) h3
theorem extractN2 (hT : TabOK P C) {all tail : List Oper} {K : Env -> Heap -> Nat -> Prop} : ∀ (l : List Oper) (e : Env) (h : Heap) (n : Nat), (∀ o ∈ l, isM hint o = false) -> (∀ r, h.look r ≠ none -> r < n) -> opsA P C hint all (l ++ tail) e h n K ->
    ∃ tr e' h' n', Trace P own all l tr e h n e' h' n' /\ opsA P C hint all tail e' h' n' K /\ NewL2 l tr
  | [], e, h, n, _, _, ho => ⟨[], e, h, n, ⟨rfl, rfl, rfl⟩, ho, fun i o s h => by simp at h⟩
  | o :: l, e, h, n, hm, hn, ho => by
    have hm1 := hm o (by simp)
    have hm2 : ∀ o ∈ l, isM hint o = false := fun o h => hm o (by simp [h])
    simp only [List.cons_append] at ho
    unfold opsA at ho
    obtain ⟨e1, y, hE, hG, hy⟩ := guard_ext ho
    cases y with
    | false =>
      simp only [Bool.false_eq_true, if_false] at hy
      obtain ⟨tr, e', h', n', ht, hk, hN⟩ := extractN2 hT l _ h n hm2 hn hy
      exact ⟨⟨e1, .skipd, [], 0, false⟩ :: tr, e', h', n', ⟨⟨⟨hE, hG⟩, fun r hr => (hr rfl).elim, by simp⟩, hn, ht⟩, hk, hN.cons (fun _ => rfl)⟩
    | true =>
      simp only [if_true] at hy
      split at hy
      · rename_i c p q hpk
        have go : ∀ (b : Bool) (r : Operand), (∀ S ρ H cv, V S ρ H (opnd e1 c) cv -> cv = .bool b) -> (if b then p else q) = r -> opsA P C hint all (l ++ tail) (dset e1 o.dst (opnd e1 r)) h n K ->
            ∃ tr e' h' n', Trace P own all (o :: l) tr e h n e' h' n' /\ opsA P C hint all tail e' h' n' K /\ NewL2 (o :: l) tr := by
          intro b r hb hr hK2
          obtain ⟨tr, e', h', n', ht, hk, hN⟩ := extractN2 hT l _ h n hm2 hn hK2
          exact ⟨⟨e1, opnd e1 r, [], 0, true⟩ :: tr, e', h', n', ⟨⟨⟨hE, hG⟩, fun r hr => (hr rfl).elim, by simp only [if_true]; exact fun hF _ _ => pick_ok hpk hb hr⟩, hn, ht⟩, hk, hN.cons (fun _ => rfl)⟩
        unfold pickS at hy
        split at hy
        · rename_i b hb
          cases b with
          | true => exact go true p (fun S ρ H cv h => by rw [hb] at h; exact h.bool_inv) rfl (hy.1 rfl)
          | false => exact go false q (fun S ρ H cv h => by rw [hb] at h; exact h.bool_inv) rfl (hy.2 rfl)
        · rename_i hb; exact go true p (fun S ρ H cv h => by rw [hb] at h; exact h.tt_inv) rfl hy
        · rename_i hb; exact go false q (fun S ρ H cv h => by rw [hb] at h; exact h.ff_inv) rfl hy
        · exact hy.elim
      · rename_i t p v hst
        simp [isM, hst] at hm1
      · rename_i s y ts tx hst
        simp [isM, hst] at hm1
      · rename_i f xs ts hcl
        have hm3 : hint.ms (mkey f) = false := by simpa [isM, hcl] using hm1
        rw [hm3] at hy
        simp only [cond_false] at hy
        obtain ⟨hp, hy⟩ := hy
        have keys := evalH_keys (hint := hint) hT.spec hp
        obtain ⟨tr, e', h', n', ht, hk, hN⟩ := extractN2 hT l _ _ _ hm2 (fun r hr => by
          rcases look_ne_append hr with h1 | h1
          · exact (keys r h1).2
          · have := hn r h1; omega) hy
        refine ⟨⟨e1, (evalH P C hint o e1 h n).val, (evalH P C hint o e1 h n).new, (evalH P C hint o e1 h n).cnt, true⟩ :: tr, e', h', n', ⟨⟨⟨hE, hG⟩, keys, ?_⟩, hn, ht⟩, hk, hN.cons (fun hl => by show (evalH P C hint o e1 h n).new = []; rw [late2_eval hl])⟩
        simp only [if_true]
        exact fun hF h1 h2 => evalH_ok hT.spec hT.call h1 h2 hn hp
      · rename_i op t y z t2 hbo
        have hm3 : isNilc op z = false := by simpa [isM, hbo] using hm1
        rw [hm3] at hy
        simp only [cond_false] at hy
        obtain ⟨hp, hy⟩ := hy
        have keys := evalH_keys (hint := hint) hT.spec hp
        obtain ⟨tr, e', h', n', ht, hk, hN⟩ := extractN2 hT l _ _ _ hm2 (fun r hr => by
          rcases look_ne_append hr with h1 | h1
          · exact (keys r h1).2
          · have := hn r h1; omega) hy
        refine ⟨⟨e1, (evalH P C hint o e1 h n).val, (evalH P C hint o e1 h n).new, (evalH P C hint o e1 h n).cnt, true⟩ :: tr, e', h', n', ⟨⟨⟨hE, hG⟩, keys, ?_⟩, hn, ht⟩, hk, hN.cons (fun hl => by show (evalH P C hint o e1 h n).new = []; rw [late2_eval hl])⟩
        simp only [if_true]
        exact fun hF h1 h2 => evalH_ok hT.spec hT.call h1 h2 hn hp
      · obtain ⟨hp, hy⟩ := hy
        have keys := evalH_keys (hint := hint) hT.spec hp
        obtain ⟨tr, e', h', n', ht, hk, hN⟩ := extractN2 hT l _ _ _ hm2 (fun r hr => by
          rcases look_ne_append hr with h1 | h1
          · exact (keys r h1).2
          · have := hn r h1; omega) hy
        refine ⟨⟨e1, (evalH P C hint o e1 h n).val, (evalH P C hint o e1 h n).new, (evalH P C hint o e1 h n).cnt, true⟩ :: tr, e', h', n', ⟨⟨⟨hE, hG⟩, keys, ?_⟩, hn, ht⟩, hk, hN.cons (fun hl => by show (evalH P C hint o e1 h n).new = []; rw [late2_eval hl])⟩
        simp only [if_true]
        exact fun hF h1 h2 => evalH_ok hT.spec hT.call h1 h2 hn hp
variable {x : Cx}
theorem draw_late2 (hT : TabOK P C) (hx0 : x.n0 <= hint.n0) {all : List Oper} {c hd k : Nat} (hchk : lateOK2 hint all c hd k = true) (hdst : dstOK x.k all = true) {e : Env} {h : Heap} {n : Nat} {a : Act} {w : World}
    {Q : Exit -> Act -> World -> Prop} {K : Env -> Heap -> Nat -> Prop} (hK : ∀ e h n a w, K e h n -> Sat x e h n a w -> Q .normal a w)
    (hop : opsA P C hint all (all.take hd) e h n (opsL P C hint all ((all.take hd).drop c) k (all.drop hd) K)) (hs : Sat x e h n a w) :
    wpAny P .any all.toArray Q all.toArray.size (Array.replicate all.toArray.size false) a { w with drawn := w.drawn + 1 } := by
  have hchk0 := hchk
  simp only [lateOK2, Bool.and_eq_true, decide_eq_true_eq] at hchk
  obtain ⟨⟨⟨⟨⟨⟨⟨⟨⟨⟨⟨⟨hback, hssa⟩, hgd⟩, hM⟩, hc⟩, hhd⟩, hchain⟩, hneed⟩, hlate⟩, htail⟩, hsep⟩, hkl⟩, hneed2⟩ := hchk
  have hs' : Sat x e h n a { w with drawn := w.drawn + 1 } := by
    obtain ⟨S, ρ, s1, s2, s3, sf, s4, s5, s6⟩ := hs
    exact ⟨S, ρ, s1, s2, s3.drew _, sf, s4, s5.drew _, s6⟩
  have hk0 : ∀ r, h.look r ≠ none -> r < n := by obtain ⟨S, ρ, s1, s2, s3, sf, s4, s5, s6, s7, s8, s9⟩ := hs; exact s8
  have hxn : x.n0 <= n := by obtain ⟨S, ρ, s1, s2, s3, sf, s4, s5, s6, s7, s8, s9⟩ := hs; exact s9
  have hll : (all.take hd).length = hd := by simp; omega
  obtain ⟨tr, e', h', n', ht, hkt, hN⟩ := extractN2 (own := x.own) hT (tail := []) (all.take hd) e h n (fun o ho => by have := List.all_eq_true.1 hM o ho; simpa using this) hk0 (by rw [List.append_nil]; exact hop)
  have hkt : opsL P C hint all ((all.take hd).drop c) k (all.drop hd) K e' h' n' := hkt
  have F := Trace.facts (f := e.get) _ _ _ _ _ _ _ _ (fun t => Ent.refl _) hk0 ht
  have hall : ∀ (i : Nat) o, (all.take hd)[i]? = some o -> all[i]? = some o := fun i o ho => by
    rw [List.getElem?_take] at ho; split at ho
    · exact ho
    · cases ho
  have takeE : ∀ (j : Nat) o, j < hd -> all[j]? = some o -> (all.take hd)[j]? = some o := fun j o h1 ho => by rw [List.getElem?_take, if_pos h1]; exact ho
  have isLate : ∀ (j : Nat) o, c <= j -> j < hd -> all[j]? = some o -> o ∈ (all.take hd).drop c := fun j o h1 h2 ho => by
    refine List.mem_iff_getElem?.2 ⟨j - c, ?_⟩
    rw [List.getElem?_drop, List.getElem?_take, if_pos (by omega), show c + (j - c) = j by omega]; exact ho
  have hdst' : dstOK x.k (all.take hd) = true := List.all_eq_true.2 (fun o ho => List.all_eq_true.1 hdst o (List.mem_of_mem_take ho))
  -- what the head leaves, late operations yet to come
  have ends : ∀ {listed : Array Bool} {U : List Nat} {a : Act} {w : World} {S : Store} {ρ : Rho} {H : HF}, Left all listed U -> (∀ i ∈ U, c <= i) -> Good x (all.take hd) tr e h h' listed a w S ρ H -> Sat x (hideE (dstU all hd U) e') h' n' a w := by
    intro listed U a w S ρ H hL hl hg
    have lst : ∀ i, i < hd -> i ∉ U -> listed.getD i false = true := fun i hi hn => by
      cases hli : listed.getD i false with
      | true => rfl
      | false => exact absurd ((hL.mem i).2 ⟨by omega, hli⟩) hn
    have eH : H = h'.look := by
      funext r
      cases hr : h'.look r with
      | none =>
        cases hH : H r with
        | none => rfl
        | some k => have := hg.sub r k hH; rw [hr] at this; cases this
      | some k =>
        rcases F.whence r k hr with h1 | ⟨i, s, h1, h2⟩
        · exact hg.old r k h1
        · have hi : i < hd := by
            have := (List.getElem?_eq_some_iff.1 h1).1
            rw [F.len, hll] at this; exact this
          have hoi : all[i]? = some all[i] := by simp [show i < all.length by omega]
          by_cases hiU : i ∈ U
          · have := hN i _ s (takeE i _ hi hoi) h1 (List.all_eq_true.1 hlate _ (isLate i _ (hl i hiU) hi hoi))
            rw [this] at h2; simp [Heap.look] at h2
          · exact hg.new i s r k h1 (lst i hi hiU) h2
    refine ⟨S, ρ, hg.s1, hg.s2, by rw [<- eH]; exact hg.rel, by rw [<- eH]; exact hg.fix, fun t => ?_, hg.kept, hg.size, hg.defers, F.keys, Nat.le_trans hxn F.le⟩
    rw [<- eH, hideE_get]
    by_cases htU : t ∈ dstU all hd U
    · rw [if_pos htU]; exact .pure _ _ (.undef _)
    · rw [if_neg htU]
      refine F.fin t _ _ _ _ ?_
      by_cases hex : ∃ (i : Nat) (p : Oper), (all.take hd)[i]? = some p /\ p.dst = some t
      · obtain ⟨i, p, hp, hpd⟩ := hex
        have hi := (List.getElem?_eq_some_iff.1 hp).1
        have hit : i < tr.length := by rw [F.len]; exact hi
        have hst : tr[i]? = some tr[i] := by simp [hit]
        rw [cur_some _ tr e.get _ i t p tr[i] hi hp hst hpd (fun q o' hq hne ho' hdo => by
          have h1 := zipIdx_all (zipIdx_all hssa ho') hp
          simp only [hpd, Bool.and_eq_true, Bool.or_eq_true, beq_iff_eq, bne_iff_ne, ne_eq] at h1
          rcases h1.1.1 with h2 | h2
          · exact hne h2.symm
          · exact h2 hdo)]
        refine hg.done i p _ t hp hst (lst i (by omega) (fun hiU => htU (mem_dstU.2 ⟨i, hiU, by omega, ?_⟩))) hpd
        rw [gdst_of (hall i p hp)]; exact hpd
      · rw [cur_none _ tr e.get _ t (fun i p _ hp hpd => hex ⟨i, p, hp, hpd⟩)]
        exact hg.rest t (fun i p hp hpd => hex ⟨i, p, hp, hpd⟩)
  -- whatever order
  have main : ∀ (fuel : Nat) (U : List Nat) (listed : Array Bool) (a : Act) (w : World) (S : Store) (ρ : Rho) (H : HF), Left all listed U -> (∀ i, hd <= i -> i < all.length -> i ∈ U) -> U.length <= fuel ->
      (∀ j oj, all.toArray[j]? = some oj -> listed.getD j false = true -> ∀ ed ∈ oj.after, Region.binds .any ed = true -> listed.getD ed.on false = true) ->
      Good x (all.take hd) tr e h h' listed a w S ρ H -> wpAny P .any all.toArray Q fuel listed a w := by
    intro fuel
    induction fuel with
    | zero =>
      intro U listed a w S ρ H hL hUt hf hcl hg
      have hU0 : U = [] := List.length_eq_zero_iff.1 (by omega)
      exact absurd (hUt hd (Nat.le_refl _) hhd) (by rw [hU0]; simp)
    | succ fuel ih =>
      intro U listed a w S ρ H hL hUt hf hcl hg
      by_cases hrem : ∃ i ∈ U, i < c
      · -- some operation ahead of the late ones is left
        have hne : U ≠ [] := by obtain ⟨i, hi, _⟩ := hrem; intro e; subst e; cases hi
        obtain ⟨m, hm1, hm2⟩ := exists_least U hne
        have hmr := ready_least hback hL hm1 hm2
        refine ⟨fun h0 => (by rw [h0] at hmr; cases hmr), fun j hj => ?_⟩
        have hjU := ready_mem hL hj
        have hjhd : j < hd := by
          rcases Nat.lt_or_ge j hd with h | h
          · exact h
          · exfalso
            obtain ⟨hja, hjf⟩ := (hL.mem j).1 hjU
            rcases Nat.lt_or_ge hd j with h2 | h2
            · have g1 := List.all_eq_true.1 hchain j (List.mem_range.2 (by simpa using hja))
              simp only [Bool.or_eq_true, decide_eq_true_eq] at g1
              rcases g1 with g1 | g1
              · omega
              · obtain ⟨o', ho', ed, he, hb, hon⟩ := Region.waitsFor_spec g1
                obtain ⟨_, o2, ho2, hall2⟩ := mem_ready.1 hj
                rw [ho'] at ho2; cases ho2
                have := hall2 ed he hb
                rw [hon] at this
                have hm : j - 1 ∈ U := hUt (j - 1) (by omega) (by omega)
                have := ((hL.mem (j - 1)).1 hm).2
                simp_all
            · obtain rfl : j = hd := by omega
              obtain ⟨i, hi1, hi2⟩ := hrem
              obtain ⟨_, o2, ho2, hall2⟩ := mem_ready.1 hj
              have g1 := List.all_eq_true.1 hneed i (List.mem_range.2 hi2)
              have g2 : i ∈ needsL all j [j] := by simpa using g1
              rcases needsL_ok hcl j (fun o ho ed he hb => by
                have : all.toArray[j]? = some o := by simpa using ho
                rw [this] at ho2; cases ho2
                exact hall2 ed he hb) j [j] (fun i hi => .inl (by simpa using hi)) i g2 with h3 | h3
              · omega
              · have := ((hL.mem i).1 hi1).2
                simp_all
        obtain ⟨hL', hlen⟩ := hL.step hjU
        have hjs : j < listed.size := by rw [hL.size]; omega
        refine good_step hxn F hall hback hssa hgd hdst' hL.size hg hj (by rw [hll]; exact hjhd) (fun a' w' S' ρ' H' hg' => ?_)
        refine ih _ _ a' w' S' ρ' H' hL' (fun i hi1 hi2 => ?_) (by omega) (fun q oq hoq hlq ed hed hb => ?_) hg'
        · rw [hL.nodup.mem_erase_iff]; exact ⟨by omega, hUt i hi1 hi2⟩
        · rw [getD_set _ _ _ _ hjs] at hlq ⊢
          split
          · rfl
          · split at hlq
            · rename_i e1; subst e1
              obtain ⟨_, o2, ho2, hall2⟩ := mem_ready.1 hj
              rw [hoq] at ho2; cases ho2
              exact hall2 ed hed hb
            · exact hcl q oq hoq hlq ed hed hb
      · have hUc : ∀ j ∈ U, c <= j := fun j hj => by
          rcases Nat.lt_or_ge j c with h | h
          · exact absurd ⟨j, hj, h⟩ hrem
          · exact h
        exact late_ok2 hT hx0 hK hchk0 hdst (fuel + 1) hd e' h' n' listed U a w (Nat.le_refl _) (by omega) hL hUc (fun j h1 => ⟨fun hj => ⟨h1, ((hL.mem j).1 hj).1⟩, fun h2 => hUt j h1 h2.2⟩) hf hcl
          (fun _ => by rw [show hd + k - hd = k by omega]; exact hkt) (fun h => by omega) (ends hL hUc hg)
  obtain ⟨S, ρ, s1, s2, s3, sf, s4, s5, s6, s7, s8⟩ := hs'
  refine main all.toArray.size (List.range all.length) _ a _ S ρ h.look ⟨by simp, fun j => ?_, List.nodup_range⟩ (fun i _ hi => List.mem_range.2 hi) (by simp) (fun j oj _ hl => ?_) ?_
  · simp only [List.mem_range]
    constructor
    · intro hj; exact ⟨hj, getD_replicate_false _ _⟩
    · exact fun h => h.1
  · rw [getD_replicate_false] at hl; cases hl
  · refine ⟨s1, s2, s3, sf, fun r k hr => F.old r k hr, fun _ _ h => h, fun i s r k hs hl => (by rw [getD_replicate_false] at hl; cases hl), fun i s r hs _ hr => ?_, fun i o s d ho hs hl => (by rw [getD_replicate_false] at hl; cases hl), fun t _ => s4 t, s5, s6, s7⟩
    cases hh : h.look r with
    | none => rfl
    | some k =>
      obtain ⟨k', hk'⟩ := Option.ne_none_iff_exists'.1 hr
      have h1 := (F.new i s r k' hs hk').2
      have h2 := hk0 r (by rw [hh]; simp)
      omega
theorem draw_late2_perm (hT : TabOK P C) (hx0 : x.n0 <= hint.n0) (hm : P.follows .mixedOrders = true) {all all' : List Oper} {f : Nat -> Nat} (hp : PermOf all all' f) {c hd k : Nat} (hchk : lateOK2 hint all' c hd k = true) (hdst : dstOK x.k all' = true) {id : Nat} {e : Env} {h : Heap} {n : Nat} {a : Act} {w : World}
    {Q : Exit -> Act -> World -> Prop} {K : Env -> Heap -> Nat -> Prop} (hK : ∀ e h n a w, K e h n -> Sat x e h n a w -> Q .normal a w)
    (hop : opsA P C hint all' (all'.take hd) e h n (opsL P C hint all' ((all'.take hd).drop c) k (all'.drop hd) K)) (hs : Sat x e h n a w) :
    (Code.region id all.toArray true).wp P Q a w := by
  refine wp_region_any hm ?_
  have h1 := draw_late2 hT hx0 hchk hdst hK hop hs
  have e1 : all'.toArray.size = all.toArray.size := by simp [hp.len]
  rw [e1] at h1
  refine wpAny_perm hp _ _ _ _ _ ⟨by simp, by simp, fun i hi b => ?_⟩ h1
  simp only [List.size_toArray]
  rw [getD_rep (hp.lt i hi), getD_rep hi]
end
end Go.Vc
namespace Go.Vc
open Go.RowKit
section
variable {P : Program} {C : Table} {hint : Hint}
def opsF (P : Program) (C : Table) (hint : Hint) (all : List Oper) : List Bool -> List Oper -> List Oper -> (Env -> Heap -> Nat -> Prop) -> Env -> Heap -> Nat -> Prop
  | [], L, l, K, e, h, n => lateP2 P C hint e h L /\ opsA P C hint all l e h n K
  | b :: bs, L, l, K, e, h, n => lateP2 P C hint e h L /\ opsA P C hint all (l.take 1) e h n (opsF P C hint all bs (bif b then L ++ l.take 1 else L) (l.drop 1) K)
def flagsOf : List Nat -> List Bool
  | [] => []
  | a :: l => (a == 1) :: flagsOf l
def flB (hd : Nat) (fs : List Bool) (j : Nat) : Bool := decide (hd <= j) && fs.getD (j - hd) false
def pdB (hd : Nat) (fs : List Bool) (i j : Nat) : Bool := decide (j < hd) || (flB hd fs j && decide (j < i))
def dstP (all : List Oper) (p : Nat -> Bool) (U : List Nat) : List Nat := U.filterMap (fun j => if p j = true then gdst all j else none)
theorem mem_dstP {all : List Oper} {p : Nat -> Bool} {U : List Nat} {d : Nat} : d ∈ dstP all p U ↔ ∃ j ∈ U, p j = true /\ gdst all j = some d := by
  unfold dstP
  rw [List.mem_filterMap]
  constructor
  · rintro ⟨j, hj, h⟩
    by_cases hlt : p j = true
    · rw [if_pos hlt] at h; exact ⟨j, hj, hlt, h⟩
    · rw [if_neg hlt] at h; cases h
  · rintro ⟨j, hj, hlt, h⟩
    exact ⟨j, hj, by rw [if_pos hlt]; exact h⟩
def lateOK3 (hint : Hint) (all : List Oper) (c hd : Nat) (fs : List Bool) : Bool :=
  backB all && ssaB all && guardB (all.take hd) && (all.take hd).all (fun o => !isM hint o) && decide (c <= hd) && decide (hd + fs.length < all.length) && !flB hd fs hd &&
  ((List.range all.length).all fun p => decide (p <= hd) || (List.range p).all fun q => decide (q < hd) || (flB hd fs q || (needsL all p [p]).contains q)) &&
  ((List.range c).all fun j => (needsL all hd [hd]).contains j) &&
  ((List.range all.length).all fun j => match all[j]? with | some o => bif (decide (c <= j) && decide (j < hd)) || flB hd fs j then lateKind2 o else (decide (j < hd) || tailKind2 o) | none => true) &&
  ((List.range all.length).all fun j => bif (decide (c <= j) && decide (j < hd)) || flB hd fs j then (needsL all (hd + fs.length) [hd + fs.length]).contains j else true)
theorem late2_opsA {all rest : List Oper} {o : Oper} (hk : lateKind2 o = true) {e : Env} {h : Heap} {n : Nat} {K : Env -> Heap -> Nat -> Prop} (hop : opsA P C hint all (o :: rest) e h n K) :
    (evalH P C hint o e h 0).pre /\ opsA P C hint all rest (dset e o.dst (evalH P C hint o e h 0).val) h n K := by
  obtain ⟨dst, op, t, pos, af, gd⟩ := o
  simp only [lateKind2, Bool.and_eq_true] at hk
  obtain ⟨hg, hk⟩ := hk
  cases gd with
  | some g => cases hg
  | none =>
    split at hk
    case h_4 op2 t2 y z t3 =>
      have hm : isNilc op2 z = false := by simpa using hk
      unfold opsA at hop
      simp only [guardA, hm, cond_false] at hop
      exact hop
    all_goals first | (cases hk; done) | exact hop
variable {x : Cx}
theorem Sat.weakU {e e' : Env} {h : Heap} {n : Nat} {a : Act} {w : World} (hs : Sat x e h n a w) (he : ∀ t, e'.get t = .undef \/ e'.get t = e.get t) : Sat x e' h n a w := by
  obtain ⟨S, ρ, s1, s2, s3, sf, s4, r⟩ := hs
  refine ⟨S, ρ, s1, s2, s3, sf, fun t => ?_, r⟩
  rcases he t with h1 | h1
  · rw [h1]; exact .pure _ _ (.undef _)
  · rw [h1]; exact s4 t
structure At3 (P : Program) (C : Table) (hint : Hint) (x : Cx) (all : List Oper) (c hd : Nat) (fs : List Bool) (K : Env -> Heap -> Nat -> Prop) (U : List Nat) (a : Act) (w : World) (i : Nat) (e : Env) (h : Heap) (n : Nat) : Prop where
  ge : hd <= i
  le : i <= all.length
  tl : ∀ j, hd <= j -> flB hd fs j = false -> (j ∈ U ↔ i <= j /\ j < all.length)
  up : ∀ j, i <= j -> j < all.length -> j ∈ U
  run : i <= hd + fs.length -> ∃ L, (∀ j o, (c <= j /\ j < hd) \/ (flB hd fs j = true /\ j < i) -> all[j]? = some o -> o ∈ L) /\ opsF P C hint all (fs.drop (i - hd)) L (all.drop i) K e h n
  fin : hd + fs.length < i -> opsA P C hint all (all.drop i) e h n K /\ ∀ j ∈ U, i <= j
  sat : Sat x (hideE (dstP all (pdB hd fs i) U) e) h n a w
theorem flB_lt {hd j : Nat} {fs : List Bool} (h : flB hd fs j = true) : hd <= j /\ j < hd + fs.length /\ fs[j - hd]? = some true := by
  simp only [flB, Bool.and_eq_true, decide_eq_true_eq] at h
  have h2 := h.2
  rw [List.getD_eq_getElem?_getD] at h2
  cases hg : fs[j - hd]? with
  | none => rw [hg] at h2; cases h2
  | some b =>
    rw [hg] at h2
    have := (List.getElem?_eq_some_iff.1 hg).1
    exact ⟨h.1, by omega, by simpa using h2⟩
theorem drop_cons {α : Type} {l : List α} {i : Nat} {o : α} (h : l[i]? = some o) : l.drop i = o :: l.drop (i + 1) := by
  have h1 := (List.getElem?_eq_some_iff.1 h).1
  have h2 := (List.getElem?_eq_some_iff.1 h).2
  rw [<- h2]; exact List.drop_eq_getElem_cons h1
theorem adv3 {all : List Oper} {K : Env -> Heap -> Nat -> Prop} {c hd : Nat} {fs : List Bool} (hchk : lateOK3 hint all c hd fs = true) {U : List Nat} {a : Act} {w : World} {h : Heap} {n : Nat} :
    ∀ (m i : Nat) (e : Env), all.length - i <= m -> At3 P C hint x all c hd fs K U a w i e h n -> ∃ i' e', At3 P C hint x all c hd fs K U a w i' e' h n /\ flB hd fs i' = false := by
  simp only [lateOK3, Bool.and_eq_true, decide_eq_true_eq] at hchk
  obtain ⟨⟨⟨⟨⟨⟨⟨⟨⟨⟨hback, hssa⟩, hgd⟩, hM⟩, hc⟩, hlen⟩, hf0⟩, hchain⟩, hneed⟩, hkind⟩, hneed2⟩ := hchk
  intro m
  induction m with
  | zero =>
    intro i e hm hA
    refine ⟨i, e, hA, ?_⟩
    cases hf : flB hd fs i with
    | false => rfl
    | true => have := flB_lt hf; omega
  | succ m ih =>
    intro i e hm hA
    cases hf : flB hd fs i with
    | false => exact ⟨i, e, hA, hf⟩
    | true =>
      obtain ⟨f1, f2, f3⟩ := flB_lt hf
      have hia : i < all.length := by omega
      have ho : all[i]? = some all[i] := by simp [hia]
      generalize all[i] = o at ho
      have hk : lateKind2 o = true := by
        have g1 := List.all_eq_true.1 hkind i (List.mem_range.2 hia)
        rw [ho] at g1
        simpa only [hf, Bool.or_true, cond_true] using g1
      obtain ⟨L, hL, hrun⟩ := hA.run (by omega)
      rw [drop_cons f3, drop_cons ho] at hrun
      have hrun : lateP2 P C hint e h L /\ opsA P C hint all [o] e h n (opsF P C hint all (fs.drop (i - hd + 1)) (L ++ [o]) (all.drop (i + 1)) K) := hrun
      obtain ⟨hl, hop⟩ := hrun
      have h2 := late2_opsA hk hop
      have h2b : opsF P C hint all (fs.drop (i - hd + 1)) (L ++ [o]) (all.drop (i + 1)) K (dset e o.dst (evalH P C hint o e h 0).val) h n := h2.2
      refine ih (i + 1) (dset e o.dst (evalH P C hint o e h 0).val) (by omega) ⟨by omega, by omega, fun j h1 h3 => ?_, fun j h1 h3 => hA.up j (by omega) h3, fun _ => ⟨L ++ [o], fun j p hj hp => ?_, ?_⟩, fun h3 => by omega, ?_⟩
      · rw [hA.tl j h1 h3]
        have : j ≠ i := fun e => by rw [e, hf] at h3; cases h3
        omega
      · by_cases hji : j = i
        · subst hji
          rw [ho] at hp; cases hp
          simp
        · refine List.mem_append_left _ (hL j p ?_ hp)
          rcases hj with hj | hj
          · exact .inl hj
          · exact .inr ⟨hj.1, by omega⟩
      · rw [show i + 1 - hd = i - hd + 1 by omega]; exact h2b
      · refine hA.sat.weakU (fun t => ?_)
        rw [hideE_get, hideE_get]
        by_cases ht : t ∈ dstP all (pdB hd fs (i + 1)) U
        · rw [if_pos ht]; exact .inl rfl
        · rw [if_neg ht]
          right
          have ht2 : t ∉ dstP all (pdB hd fs i) U := fun hm => by
            obtain ⟨q, hq1, hq2, hq3⟩ := mem_dstP.1 hm
            refine ht (mem_dstP.2 ⟨q, hq1, ?_, hq3⟩)
            simp only [pdB, Bool.or_eq_true, Bool.and_eq_true, decide_eq_true_eq] at hq2 ⊢
            rcases hq2 with h5 | h5
            · exact .inl h5
            · exact .inr ⟨h5.1, by omega⟩
          rw [if_neg ht2, dset_get, if_neg (fun hd' => ?_)]
          refine ht (mem_dstP.2 ⟨i, hA.up i (Nat.le_refl _) hia, ?_, by rw [gdst_of ho]; exact hd'⟩)
          simp only [pdB, Bool.or_eq_true, Bool.and_eq_true, decide_eq_true_eq]
          exact .inr ⟨hf, by omega⟩
theorem late_ok3 (hT : TabOK P C) (hx0 : x.n0 <= hint.n0) {all : List Oper} {Q : Exit -> Act -> World -> Prop} {K : Env -> Heap -> Nat -> Prop} (hK : ∀ e h n a w, K e h n -> Sat x e h n a w -> Q .normal a w) {c hd : Nat} {fs : List Bool} (hchk : lateOK3 hint all c hd fs = true) (hdst : dstOK x.k all = true) :
    ∀ (fuel i : Nat) (e : Env) (h : Heap) (n : Nat) (listed : Array Bool) (U : List Nat) (a : Act) (w : World), Left all listed U -> (∀ j ∈ U, c <= j) -> U.length <= fuel ->
      (∀ j oj, all.toArray[j]? = some oj -> listed.getD j false = true -> ∀ ed ∈ oj.after, Region.binds .any ed = true -> listed.getD ed.on false = true) ->
      At3 P C hint x all c hd fs K U a w i e h n -> wpAny P .any all.toArray Q fuel listed a w := by
  have hchk0 := hchk
  simp only [lateOK3, Bool.and_eq_true, decide_eq_true_eq, Bool.not_eq_true'] at hchk
  obtain ⟨⟨⟨⟨⟨⟨⟨⟨⟨⟨hback, hssa⟩, hgd⟩, hM⟩, hc⟩, hlen⟩, hf0⟩, hchain⟩, hneed⟩, hkind⟩, hneed2⟩ := hchk
  have isLate : ∀ (j : Nat) o, (c <= j /\ j < hd) \/ flB hd fs j = true -> all[j]? = some o -> lateKind2 o = true := fun j o h1 ho => by
    have g1 := List.all_eq_true.1 hkind j (List.mem_range.2 (List.getElem?_eq_some_iff.1 ho).1)
    rw [ho] at g1
    have g2 : ((decide (c <= j) && decide (j < hd)) || flB hd fs j) = true := by
      rcases h1 with h1 | h1
      · simp [h1.1, h1.2]
      · rw [h1, Bool.or_true]
    simpa only [g2, cond_true] using g1
  have isTail : ∀ (j : Nat) o, hd <= j -> flB hd fs j = false -> all[j]? = some o -> tailKind2 o = true := fun j o h1 hf ho => by
    have g1 := List.all_eq_true.1 hkind j (List.mem_range.2 (List.getElem?_eq_some_iff.1 ho).1)
    rw [ho] at g1
    have g3 : ¬ j < hd := by omega
    simpa only [hf, g3, decide_false, Bool.and_false, Bool.or_false, cond_false, Bool.false_or] using g1
  have done : ∀ {i : Nat} {e : Env} {h : Heap} {n : Nat} {U : List Nat} {a : Act} {w : World}, U = [] -> At3 P C hint x all c hd fs K U a w i e h n -> Q .normal a w := by
    intro i e h n U a w h2 hA
    subst h2
    have hi : i = all.length := by
      have h1 := hA.le
      rcases Nat.lt_or_ge i all.length with h | h
      · exact absurd (hA.up i (Nat.le_refl _) h) (by simp)
      · omega
    have h5 := (hA.fin (by omega)).1
    rw [hi, List.drop_of_length_le (Nat.le_refl _)] at h5
    exact hK e h n a w h5 (hA.sat.congr (fun t => rfl))
  intro fuel
  induction fuel with
  | zero =>
    intro i e h n listed U a w hL hc' hf hcl hA
    have hU0 : U = [] := List.length_eq_zero_iff.1 (by omega)
    refine ⟨?_, done hU0 hA⟩
    subst hU0
    exact List.eq_nil_iff_forall_not_mem.2 (fun j hj => absurd (ready_mem hL hj) (by simp))
  | succ fuel ih =>
    intro i0 e0 h n listed U a w hL hc' hf hcl hA0
    obtain ⟨i, e, hA, hfi⟩ := adv3 hchk0 (all.length - i0) i0 e0 (Nat.le_refl _) hA0
    refine ⟨fun h0 => ?_, fun j hj => ?_⟩
    · have hU0 : U = [] := by
        by_cases hne : U = []
        · exact hne
        · obtain ⟨m, hm1, hm2⟩ := exists_least U hne
          have := ready_least hback hL hm1 hm2
          rw [h0] at this; cases this
      exact done hU0 hA
    · have hjU := ready_mem hL hj
      obtain ⟨hja, hjl⟩ := (hL.mem j).1 hjU
      have ho : all[j]? = some all[j] := by simp [hja]
      generalize all[j] = o at ho
      obtain ⟨hL', hlen'⟩ := hL.step hjU
      have hd1 : ∀ t, o.dst = some t -> t < x.k := dstOK_mem hdst (List.mem_of_getElem? ho)
      have rd : ∀ i, waits o i = true -> i ∉ U := fun i hw hi => by
        have := ready_listed hj (by simpa using ho) hw
        have := ((hL.mem i).1 hi).2
        simp_all
      have hjs : j < listed.size := by rw [hL.size]; exact hja
      have hcl' : ∀ q oq, all.toArray[q]? = some oq -> (listed.setIfInBounds j true).getD q false = true -> ∀ ed ∈ oq.after, Region.binds .any ed = true -> (listed.setIfInBounds j true).getD ed.on false = true := fun q oq hoq hlq ed hed hb => by
        rw [getD_set _ _ _ _ hjs] at hlq ⊢
        split
        · rfl
        · split at hlq
          · rename_i e1; subst e1
            obtain ⟨_, o2, ho2, hall2⟩ := mem_ready.1 hj
            rw [hoq] at ho2; cases ho2
            exact hall2 ed hed hb
          · exact hcl q oq hoq hlq ed hed hb
      have need : ∀ q, q ∈ U -> q ∈ needsL all j [j] -> q = j := fun q hq g2 => by
        rcases needsL_ok hcl j (fun o' ho' ed he hb => by
          obtain ⟨_, o2, ho2, hall2⟩ := mem_ready.1 hj
          have : all.toArray[j]? = some o' := by simpa using ho'
          rw [this] at ho2; cases ho2
          exact hall2 ed he hb) j [j] (fun i hi => .inl (by simpa using hi)) q g2 with h3 | h3
        · exact h3
        · have := ((hL.mem q).1 hq).2
          simp_all
      have ssa : ∀ q, q ∈ U -> q ≠ j -> ∀ d, gdst all q = some d -> d ∉ tmpsOf o /\ o.dst ≠ some d := fun q hq hqj d hqd => by
        have hqb := ((hL.mem q).1 hq).1
        have hqa : all[q]? = some all[q] := by simp [hqb]
        have g1 := zipIdx_all (zipIdx_all hssa ho) hqa
        rw [gdst_of hqa] at hqd
        simp only [hqd, Bool.and_eq_true, Bool.or_eq_true, beq_iff_eq, bne_iff_ne, ne_eq] at g1
        refine ⟨fun hm => ?_, ?_⟩
        · rcases g1.1.2 with g2 | g2
          · have : (tmpsOf o).contains d = true := by simpa using hm
            rw [this] at g2; cases g2
          · exact rd q g2 hq
        · rcases g1.1.1 with g2 | g2
          · exact absurd g2 hqj
          · exact g2
      have dsE : ∀ {i' : Nat}, (∀ q, q ∈ U -> q ≠ j -> pdB hd fs i' q = pdB hd fs i q) -> pdB hd fs i j = false -> ∀ {e2 : Env} (t : Nat), (hideE (dstP all (pdB hd fs i') (U.erase j)) e2).get t = (hideE (dstP all (pdB hd fs i) U) e2).get t := fun {i'} hpd hpj {e2} t => by
        rw [hideE_get, hideE_get]
        have : t ∈ dstP all (pdB hd fs i') (U.erase j) ↔ t ∈ dstP all (pdB hd fs i) U := by
          rw [mem_dstP, mem_dstP]
          constructor
          · rintro ⟨q, hq, r1, r2⟩
            rw [hL.nodup.mem_erase_iff] at hq
            exact ⟨q, hq.2, by rw [<- hpd q hq.2 hq.1]; exact r1, r2⟩
          · rintro ⟨q, hq, r1, r2⟩
            have hqj : q ≠ j := fun e => by rw [e, hpj] at r1; cases r1
            exact ⟨q, (hL.nodup.mem_erase_iff).2 ⟨hqj, hq⟩, by rw [hpd q hq hqj]; exact r1, r2⟩
        by_cases hm : t ∈ dstP all (pdB hd fs i) U
        · rw [if_pos (this.2 hm), if_pos hm]
        · rw [if_neg (fun h => hm (this.1 h)), if_neg hm]
      unfold wpOp
      simp only [List.getElem?_toArray, ho]
      cases hpd : pdB hd fs i j with
      | true =>
        -- one that was left
        have hpd' := hpd
        simp only [pdB, Bool.or_eq_true, Bool.and_eq_true, decide_eq_true_eq] at hpd'
        have hcj := hc' j hjU
        have hlj : (c <= j /\ j < hd) \/ (flB hd fs j = true /\ j < i) := by
          rcases hpd' with h1 | h1
          · exact .inl ⟨hcj, h1⟩
          · exact .inr h1
        have hji : j < i := by
          have := hA.ge
          rcases hlj with h1 | h1 <;> omega
        have hik : i <= hd + fs.length := by
          rcases Nat.lt_or_ge (hd + fs.length) i with h | h
          · have := (hA.fin h).2 j hjU; omega
          · exact h
        obtain ⟨L, hLm, hrun⟩ := hA.run hik
        have hlp : lateP2 P C hint e h L := by
          generalize fs.drop (i - hd) = q at hrun
          cases q with
          | nil => exact hrun.1
          | cons b q => exact hrun.1
        have hat := lateP2_at hlp o (hLm j o hlj ho)
        have hk := isLate j o (by rcases hlj with h1 | h1; exact .inl h1; exact .inr h1.1) ho
        have hg : o.guard = none := by simp only [lateKind2, Bool.and_eq_true, Option.isNone_iff_eq_none] at hk; exact hk.1
        rw [if_pos (by simp [Region.wanted, hg])]
        left
        have hself : ∀ d, gdst all j = some d -> d ∉ tmpsOf o := fun d hqd hm => by
          have g1 := zipIdx_all (zipIdx_all hssa ho) ho
          rw [gdst_of ho] at hqd
          simp only [hqd, Bool.and_eq_true, Bool.or_eq_true, beq_iff_eq, bne_iff_ne, ne_eq] at g1
          rcases g1.1.2 with g2 | g2
          · have : (tmpsOf o).contains d = true := by simpa using hm
            rw [this] at g2; cases g2
          · exact rd j g2 hjU
        have hread : ∀ t ∈ tmpsOf o, (hideE (dstP all (pdB hd fs i) U) e).get t = e.get t := fun t ht => by
          rw [hideE_get, if_neg (fun hm => ?_)]
          obtain ⟨q, hq1, hq2, hq3⟩ := mem_dstP.1 hm
          by_cases hqj : q = j
          · rw [hqj] at hq3; exact hself t hq3 ht
          · exact (ssa q hq1 hqj t hq3).1 ht
        have e1 : evalH P C hint o (hideE (dstP all (pdB hd fs i) U) e) h n = evalH P C hint o e h n := evalH_congr (fun y hy => opnd_congr (fun t ht => hread t (mem_tmpsOf (by rw [<- ht]; exact hy)))) h n
        have e2 := late2_eval (P := P) (C := C) (hint := hint) hk e h n
        refine opH_ok (P := P) (C := C) (hint := hint) hT (by rw [e1, e2]; exact hat.1) hA.sat hd1 (fun a' w' hs2 => ?_)
        rw [e1, e2] at hs2
        have hs3 : Sat x (dset (hideE (dstP all (pdB hd fs i) U) e) o.dst (evalH P C hint o e h 0).val) h n a' w' := hs2
        refine ih i e h n _ _ a' w' hL' (fun q hq => hc' q (List.mem_of_mem_erase hq)) (by omega) hcl' ⟨hA.ge, hA.le, fun q h1 h2 => ?_, fun q h1 h2 => ?_, fun h => hA.run h, fun h => ⟨(hA.fin h).1, fun q hq => (hA.fin h).2 q (List.mem_of_mem_erase hq)⟩, hs3.congr (fun t => ?_)⟩
        · rw [hL.nodup.mem_erase_iff, hA.tl q h1 h2]
          constructor
          · exact fun h => h.2
          · exact fun h => ⟨by omega, h⟩
        · exact (hL.nodup.mem_erase_iff).2 ⟨by omega, hA.up q h1 h2⟩
        · rw [hideE_get, dset_get, hideE_get]
          by_cases ht : o.dst = some t
          · rw [if_pos ht, if_neg (fun hm => ?_)]
            · exact hat.2 t ht
            · obtain ⟨q, hq1, hq2, hq3⟩ := mem_dstP.1 hm
              rw [hL.nodup.mem_erase_iff] at hq1
              exact (ssa q hq1.2 hq1.1 t hq3).2 ht
          · rw [if_neg ht]
            have : t ∈ dstP all (pdB hd fs i) (U.erase j) ↔ t ∈ dstP all (pdB hd fs i) U := by
              rw [mem_dstP, mem_dstP]
              constructor
              · rintro ⟨q, hq, r⟩; exact ⟨q, List.mem_of_mem_erase hq, r⟩
              · rintro ⟨q, hq, r⟩
                refine ⟨q, (hL.nodup.mem_erase_iff).2 ⟨fun e => ?_, hq⟩, r⟩
                subst e
                rw [gdst_of ho] at r
                exact ht r.2
            by_cases hm : t ∈ dstP all (pdB hd fs i) U
            · rw [if_pos (this.2 hm), if_pos hm]
            · rw [if_neg (fun h => hm (this.1 h)), if_neg hm]
      | false =>
        -- one of the tail
        have hpd' : ¬ (j < hd \/ (flB hd fs j = true /\ j < i)) := fun h => by
          have : pdB hd fs i j = true := by simp only [pdB, Bool.or_eq_true, Bool.and_eq_true, decide_eq_true_eq]; exact h
          rw [hpd] at this; cases this
        rw [not_or] at hpd'
        have hjge : hd <= j := by omega
        have hij0 : i <= j := by
          cases hfj : flB hd fs j with
          | false => exact ((hA.tl j hjge hfj).1 hjU).1
          | true =>
            rcases Nat.lt_or_ge j i with h | h
            · exact absurd ⟨hfj, h⟩ hpd'.2
            · exact h
        have hij : j = i := by
          by_cases hji : j = i
          · exact hji
          · exfalso
            have g1 := List.all_eq_true.1 hchain j (List.mem_range.2 hja)
            simp only [Bool.or_eq_true, decide_eq_true_eq] at g1
            have hge := hA.ge
            rcases g1 with g1 | g1
            · omega
            · have g2 := List.all_eq_true.1 g1 i (List.mem_range.2 (by omega))
              simp only [hfi, Bool.false_or, Bool.or_eq_true, decide_eq_true_eq] at g2
              rcases g2 with g2 | g2
              · omega
              · exact hji (need i (hA.up i (Nat.le_refl _) (by omega)) (by simpa using g2)).symm
        subst hij
        have hk := isTail j o hjge hfi ho
        have hg : o.guard = none := by simp only [tailKind2, Bool.and_eq_true, Option.isNone_iff_eq_none] at hk; exact hk.1
        rw [if_pos (by simp [Region.wanted, hg])]
        left
        have hdrop := drop_cons ho
        have hdsU : ∀ d ∈ dstP all (pdB hd fs j) U, d ∉ tmpsOf o /\ o.dst ≠ some d := fun d hdm => by
          obtain ⟨q, hq1, hq2, hq3⟩ := mem_dstP.1 hdm
          exact ssa q hq1 (fun e => by rw [e, hpd] at hq2; cases hq2) d hq3
        have pdS : ∀ q, q ∈ U -> q ≠ j -> pdB hd fs (j + 1) q = pdB hd fs j q := fun q _ hq => by
          simp only [pdB]
          congr 2
          exact decide_eq_decide.2 ⟨fun h => by omega, fun h => by omega⟩
        have tl' : ∀ q, hd <= q -> flB hd fs q = false -> (q ∈ U.erase j ↔ j + 1 <= q /\ q < all.length) := fun q h1 h2 => by
          rw [hL.nodup.mem_erase_iff, hA.tl q h1 h2]; omega
        have up' : ∀ q, j + 1 <= q -> q < all.length -> q ∈ U.erase j := fun q h1 h2 => (hL.nodup.mem_erase_iff).2 ⟨by omega, hA.up q (by omega) h2⟩
        rcases Nat.lt_trichotomy j (hd + fs.length) with hlt | heq | hgt
        · obtain ⟨L, hLm, hrun⟩ := hA.run (Nat.le_of_lt hlt)
          have hfs : fs[j - hd]? = some false := by
            have hjl : j - hd < fs.length := by omega
            rw [List.getElem?_eq_getElem hjl]
            have : fs.getD (j - hd) false = false := by
              simp only [flB, Bool.and_eq_false_iff, decide_eq_false_iff_not] at hfi
              rcases hfi with h1 | h1
              · exact absurd hjge h1
              · exact h1
            rw [List.getD_eq_getElem?_getD, List.getElem?_eq_getElem hjl] at this
            simpa using this
          rw [drop_cons hfs, hdrop] at hrun
          have hop : opsA P C hint all [o] e h n (opsF P C hint all (fs.drop (j - hd + 1)) L (all.drop (j + 1)) K) := hrun.2
          refine tail_step2 hT hx0 hk (rest := []) hop hdsU hA.sat hd1 (fun e2 h2' n2 a' w' hop2 hs2 => ?_)
          refine ih (j + 1) e2 h2' n2 _ _ a' w' hL' (fun q hq => hc' q (List.mem_of_mem_erase hq)) (by omega) hcl' ⟨by omega, by omega, tl', up', fun _ => ⟨L, fun q p hq hp => hLm q p ?_ hp, ?_⟩, fun h => by omega, hs2.congr (dsE pdS hpd)⟩
          · rcases hq with hq | hq
            · exact .inl hq
            · refine .inr ⟨hq.1, ?_⟩
              have : q ≠ j := fun e => by rw [e, hfi] at hq; cases hq.1
              omega
          · rw [show j + 1 - hd = j - hd + 1 by omega]; exact hop2
        · obtain ⟨L, hLm, hrun⟩ := hA.run (Nat.le_of_eq heq)
          rw [List.drop_of_length_le (show fs.length <= j - hd by omega)] at hrun
          have hop : opsA P C hint all (all.drop j) e h n K := hrun.2
          rw [hdrop] at hop
          have noLate : ∀ q ∈ U, j <= q := fun q hq => by
            rcases Nat.lt_or_ge q j with hlt | hge
            · exfalso
              have hqa := ((hL.mem q).1 hq).1
              have hcq := hc' q hq
              have hl : ((decide (c <= q) && decide (q < hd)) || flB hd fs q) = true := by
                rcases Nat.lt_or_ge q hd with h1 | h1
                · simp [hcq, h1]
                · cases hfq : flB hd fs q with
                  | true => simp
                  | false => have := (hA.tl q h1 hfq).1 hq; omega
              have g1 := List.all_eq_true.1 hneed2 q (List.mem_range.2 hqa)
              simp only [hl, cond_true] at g1
              rw [<- heq] at g1
              have := need q hq (by simpa using g1)
              omega
            · exact hge
          refine tail_step2 hT hx0 hk hop hdsU hA.sat hd1 (fun e2 h2' n2 a' w' hop2 hs2 => ?_)
          exact ih (j + 1) e2 h2' n2 _ _ a' w' hL' (fun q hq => hc' q (List.mem_of_mem_erase hq)) (by omega) hcl' ⟨by omega, by omega, tl', up', fun h => by omega, fun _ => ⟨hop2, fun q hq => by
            rw [hL.nodup.mem_erase_iff] at hq
            have := noLate q hq.2
            omega⟩, hs2.congr (dsE pdS hpd)⟩
        · obtain ⟨hop, hno⟩ := hA.fin hgt
          rw [hdrop] at hop
          refine tail_step2 hT hx0 hk hop hdsU hA.sat hd1 (fun e2 h2' n2 a' w' hop2 hs2 => ?_)
          exact ih (j + 1) e2 h2' n2 _ _ a' w' hL' (fun q hq => hc' q (List.mem_of_mem_erase hq)) (by omega) hcl' ⟨by omega, by omega, tl', up', fun h => by omega, fun _ => ⟨hop2, fun q hq => by
            rw [hL.nodup.mem_erase_iff] at hq
            have := hno q hq.2
            omega⟩, hs2.congr (dsE pdS hpd)⟩
end
section
variable {P : Program} {C : Table} {hint : Hint} {own : Nat -> Prop}
variable {x : Cx}
theorem ssa_take {l : List Oper} (h : ssaB l = true) (k : Nat) : ssaB (l.take k) = true := by
  unfold ssaB
  refine List.all_eq_true.2 (fun p hp => List.all_eq_true.2 (fun q hq => ?_))
  have at_ : ∀ p : Oper × Nat, p ∈ (l.take k).zipIdx -> l[p.2]? = some p.1 := fun p hp => by
    obtain ⟨j, hj⟩ := List.mem_iff_getElem?.1 hp
    rw [List.getElem?_zipIdx] at hj
    cases ht : (l.take k)[j]? with
    | none => rw [ht] at hj; cases hj
    | some o =>
      rw [ht] at hj
      have hj := Option.some.inj hj
      rw [<- hj]
      rw [List.getElem?_take] at ht
      split at ht
      · simpa using ht
      · cases ht
  obtain ⟨o, j⟩ := p
  obtain ⟨o2, j2⟩ := q
  exact zipIdx_all (zipIdx_all h (at_ _ hp)) (at_ _ hq)
theorem draw_late3 (hT : TabOK P C) (hx0 : x.n0 <= hint.n0) {all : List Oper} {c hd : Nat} {fs : List Bool} (hchk : lateOK3 hint all c hd fs = true) (hdst : dstOK x.k all = true) {e : Env} {h : Heap} {n : Nat} {a : Act} {w : World}
    {Q : Exit -> Act -> World -> Prop} {K : Env -> Heap -> Nat -> Prop} (hK : ∀ e h n a w, K e h n -> Sat x e h n a w -> Q .normal a w)
    (hop : opsA P C hint all (all.take hd) e h n (opsF P C hint all fs ((all.take hd).drop c) (all.drop hd) K)) (hs : Sat x e h n a w) :
    wpAny P .any all.toArray Q all.toArray.size (Array.replicate all.toArray.size false) a { w with drawn := w.drawn + 1 } := by
  have hchk0 := hchk
  simp only [lateOK3, Bool.and_eq_true, decide_eq_true_eq, Bool.not_eq_true'] at hchk
  obtain ⟨⟨⟨⟨⟨⟨⟨⟨⟨⟨hback, hssaA⟩, hgd⟩, hM⟩, hc⟩, hlen⟩, hf0⟩, hchain⟩, hneed⟩, hkind⟩, hneed2⟩ := hchk
  have hhd : hd < all.length := by omega
  have hssa : ssaB (all.take hd) = true := ssa_take hssaA hd
  have hs' : Sat x e h n a { w with drawn := w.drawn + 1 } := by
    obtain ⟨S, ρ, s1, s2, s3, sf, s4, s5, s6⟩ := hs
    exact ⟨S, ρ, s1, s2, s3.drew _, sf, s4, s5.drew _, s6⟩
  have hk0 : ∀ r, h.look r ≠ none -> r < n := by obtain ⟨S, ρ, s1, s2, s3, sf, s4, s5, s6, s7, s8, s9⟩ := hs; exact s8
  have hxn : x.n0 <= n := by obtain ⟨S, ρ, s1, s2, s3, sf, s4, s5, s6, s7, s8, s9⟩ := hs; exact s9
  have hll : (all.take hd).length = hd := by simp; omega
  obtain ⟨tr, e', h', n', ht, hkt, hN⟩ := extractN2 (own := x.own) hT (tail := []) (all.take hd) e h n (fun o ho => by have := List.all_eq_true.1 hM o ho; simpa using this) hk0 (by rw [List.append_nil]; exact hop)
  have hkt : opsF P C hint all fs ((all.take hd).drop c) (all.drop hd) K e' h' n' := hkt
  have F := Trace.facts (f := e.get) _ _ _ _ _ _ _ _ (fun t => Ent.refl _) hk0 ht
  have hall : ∀ (i : Nat) o, (all.take hd)[i]? = some o -> all[i]? = some o := fun i o ho => by
    rw [List.getElem?_take] at ho; split at ho
    · exact ho
    · cases ho
  have takeE : ∀ (j : Nat) o, j < hd -> all[j]? = some o -> (all.take hd)[j]? = some o := fun j o h1 ho => by rw [List.getElem?_take, if_pos h1]; exact ho
  have memLate : ∀ (j : Nat) o, c <= j -> j < hd -> all[j]? = some o -> o ∈ (all.take hd).drop c := fun j o h1 h2 ho => by
    refine List.mem_iff_getElem?.2 ⟨j - c, ?_⟩
    rw [List.getElem?_drop, List.getElem?_take, if_pos (by omega), show c + (j - c) = j by omega]; exact ho
  have isLate : ∀ (j : Nat) o, c <= j -> j < hd -> all[j]? = some o -> lateKind2 o = true := fun j o h1 h2 ho => by
    have g1 := List.all_eq_true.1 hkind j (List.mem_range.2 (List.getElem?_eq_some_iff.1 ho).1)
    rw [ho] at g1
    have g2 : ((decide (c <= j) && decide (j < hd)) || flB hd fs j) = true := by simp [h1, h2]
    simpa only [g2, cond_true] using g1
  have hdst' : dstOK x.k (all.take hd) = true := List.all_eq_true.2 (fun o ho => List.all_eq_true.1 hdst o (List.mem_of_mem_take ho))
  -- what the head leaves, late operations yet to come
  have ends : ∀ {listed : Array Bool} {U : List Nat} {a : Act} {w : World} {S : Store} {ρ : Rho} {H : HF}, Left all listed U -> (∀ i ∈ U, c <= i) -> Good x (all.take hd) tr e h h' listed a w S ρ H -> Sat x (hideE (dstU all hd U) e') h' n' a w := by
    intro listed U a w S ρ H hL hl hg
    have lst : ∀ i, i < hd -> i ∉ U -> listed.getD i false = true := fun i hi hn => by
      cases hli : listed.getD i false with
      | true => rfl
      | false => exact absurd ((hL.mem i).2 ⟨by omega, hli⟩) hn
    have eH : H = h'.look := by
      funext r
      cases hr : h'.look r with
      | none =>
        cases hH : H r with
        | none => rfl
        | some k => have := hg.sub r k hH; rw [hr] at this; cases this
      | some k =>
        rcases F.whence r k hr with h1 | ⟨i, s, h1, h2⟩
        · exact hg.old r k h1
        · have hi : i < hd := by
            have := (List.getElem?_eq_some_iff.1 h1).1
            rw [F.len, hll] at this; exact this
          have hoi : all[i]? = some all[i] := by simp [show i < all.length by omega]
          by_cases hiU : i ∈ U
          · have := hN i _ s (takeE i _ hi hoi) h1 (isLate i _ (hl i hiU) hi hoi)
            rw [this] at h2; simp [Heap.look] at h2
          · exact hg.new i s r k h1 (lst i hi hiU) h2
    refine ⟨S, ρ, hg.s1, hg.s2, by rw [<- eH]; exact hg.rel, by rw [<- eH]; exact hg.fix, fun t => ?_, hg.kept, hg.size, hg.defers, F.keys, Nat.le_trans hxn F.le⟩
    rw [<- eH, hideE_get]
    by_cases htU : t ∈ dstU all hd U
    · rw [if_pos htU]; exact .pure _ _ (.undef _)
    · rw [if_neg htU]
      refine F.fin t _ _ _ _ ?_
      by_cases hex : ∃ (i : Nat) (p : Oper), (all.take hd)[i]? = some p /\ p.dst = some t
      · obtain ⟨i, p, hp, hpd⟩ := hex
        have hi := (List.getElem?_eq_some_iff.1 hp).1
        have hit : i < tr.length := by rw [F.len]; exact hi
        have hst : tr[i]? = some tr[i] := by simp [hit]
        rw [cur_some _ tr e.get _ i t p tr[i] hi hp hst hpd (fun q o' hq hne ho' hdo => by
          have h1 := zipIdx_all (zipIdx_all hssa ho') hp
          simp only [hpd, Bool.and_eq_true, Bool.or_eq_true, beq_iff_eq, bne_iff_ne, ne_eq] at h1
          rcases h1.1.1 with h2 | h2
          · exact hne h2.symm
          · exact h2 hdo)]
        refine hg.done i p _ t hp hst (lst i (by omega) (fun hiU => htU (mem_dstU.2 ⟨i, hiU, by omega, ?_⟩))) hpd
        rw [gdst_of (hall i p hp)]; exact hpd
      · rw [cur_none _ tr e.get _ t (fun i p _ hp hpd => hex ⟨i, p, hp, hpd⟩)]
        exact hg.rest t (fun i p hp hpd => hex ⟨i, p, hp, hpd⟩)
  -- whatever order
  have main : ∀ (fuel : Nat) (U : List Nat) (listed : Array Bool) (a : Act) (w : World) (S : Store) (ρ : Rho) (H : HF), Left all listed U -> (∀ i, hd <= i -> i < all.length -> i ∈ U) -> U.length <= fuel ->
      (∀ j oj, all.toArray[j]? = some oj -> listed.getD j false = true -> ∀ ed ∈ oj.after, Region.binds .any ed = true -> listed.getD ed.on false = true) ->
      Good x (all.take hd) tr e h h' listed a w S ρ H -> wpAny P .any all.toArray Q fuel listed a w := by
    intro fuel
    induction fuel with
    | zero =>
      intro U listed a w S ρ H hL hUt hf hcl hg
      have hU0 : U = [] := List.length_eq_zero_iff.1 (by omega)
      exact absurd (hUt hd (Nat.le_refl _) hhd) (by rw [hU0]; simp)
    | succ fuel ih =>
      intro U listed a w S ρ H hL hUt hf hcl hg
      by_cases hrem : ∃ i ∈ U, i < c
      · -- some operation ahead of the late ones is left
        have hne : U ≠ [] := by obtain ⟨i, hi, _⟩ := hrem; intro e; subst e; cases hi
        obtain ⟨m, hm1, hm2⟩ := exists_least U hne
        have hmr := ready_least hback hL hm1 hm2
        refine ⟨fun h0 => (by rw [h0] at hmr; cases hmr), fun j hj => ?_⟩
        have hjU := ready_mem hL hj
        have hjhd : j < hd := by
          rcases Nat.lt_or_ge j hd with h | h
          · exact h
          · exfalso
            obtain ⟨hja, hjf⟩ := (hL.mem j).1 hjU
            rcases Nat.lt_or_ge hd j with h2 | h2
            · have g1 := List.all_eq_true.1 hchain j (List.mem_range.2 hja)
              simp only [Bool.or_eq_true, decide_eq_true_eq] at g1
              rcases g1 with g1 | g1
              · omega
              · have g2 := List.all_eq_true.1 g1 hd (List.mem_range.2 h2)
                simp only [hf0, Bool.false_or, Bool.or_eq_true, decide_eq_true_eq] at g2
                rcases g2 with g2 | g2
                · omega
                · obtain ⟨_, o2, ho2, hall2⟩ := mem_ready.1 hj
                  rcases needsL_ok hcl j (fun o ho ed he hb => by
                    have : all.toArray[j]? = some o := by simpa using ho
                    rw [this] at ho2; cases ho2
                    exact hall2 ed he hb) j [j] (fun i hi => .inl (by simpa using hi)) hd (by simpa using g2) with h3 | h3
                  · omega
                  · have hm : hd ∈ U := hUt hd (Nat.le_refl _) hhd
                    have := ((hL.mem hd).1 hm).2
                    simp_all
            · obtain rfl : j = hd := by omega
              obtain ⟨i, hi1, hi2⟩ := hrem
              obtain ⟨_, o2, ho2, hall2⟩ := mem_ready.1 hj
              have g1 := List.all_eq_true.1 hneed i (List.mem_range.2 hi2)
              have g2 : i ∈ needsL all j [j] := by simpa using g1
              rcases needsL_ok hcl j (fun o ho ed he hb => by
                have : all.toArray[j]? = some o := by simpa using ho
                rw [this] at ho2; cases ho2
                exact hall2 ed he hb) j [j] (fun i hi => .inl (by simpa using hi)) i g2 with h3 | h3
              · omega
              · have := ((hL.mem i).1 hi1).2
                simp_all
        obtain ⟨hL', hlen⟩ := hL.step hjU
        have hjs : j < listed.size := by rw [hL.size]; omega
        refine good_step hxn F hall hback hssa hgd hdst' hL.size hg hj (by rw [hll]; exact hjhd) (fun a' w' S' ρ' H' hg' => ?_)
        refine ih _ _ a' w' S' ρ' H' hL' (fun i hi1 hi2 => ?_) (by omega) (fun q oq hoq hlq ed hed hb => ?_) hg'
        · rw [hL.nodup.mem_erase_iff]; exact ⟨by omega, hUt i hi1 hi2⟩
        · rw [getD_set _ _ _ _ hjs] at hlq ⊢
          split
          · rfl
          · split at hlq
            · rename_i e1; subst e1
              obtain ⟨_, o2, ho2, hall2⟩ := mem_ready.1 hj
              rw [hoq] at ho2; cases ho2
              exact hall2 ed hed hb
            · exact hcl q oq hoq hlq ed hed hb
      · have hUc : ∀ j ∈ U, c <= j := fun j hj => by
          rcases Nat.lt_or_ge j c with h | h
          · exact absurd ⟨j, hj, h⟩ hrem
          · exact h
        have hend := ends hL hUc hg
        refine late_ok3 hT hx0 hK hchk0 hdst (fuel + 1) hd e' h' n' listed U a w hL hUc hf hcl ⟨Nat.le_refl _, by omega, fun j h1 _ => ⟨fun hj => ⟨h1, ((hL.mem j).1 hj).1⟩, fun h2 => hUt j h1 h2.2⟩, fun j h1 h2 => hUt j h1 h2, fun _ => ⟨_, fun j o hj ho => ?_, by rw [Nat.sub_self, List.drop_zero]; exact hkt⟩, fun h => by omega, hend.congr (fun t => ?_)⟩
        · rcases hj with hj | hj
          · exact memLate j o hj.1 hj.2 ho
          · have := flB_lt hj.1; omega
        · rw [hideE_get, hideE_get]
          have : t ∈ dstP all (pdB hd fs hd) U ↔ t ∈ dstU all hd U := by
            rw [mem_dstP, mem_dstU]
            constructor
            · rintro ⟨q, hq, r1, r2⟩
              refine ⟨q, hq, ?_, r2⟩
              simp only [pdB, Bool.or_eq_true, Bool.and_eq_true, decide_eq_true_eq] at r1
              rcases r1 with r1 | r1
              · exact r1
              · exact r1.2
            · rintro ⟨q, hq, r1, r2⟩
              refine ⟨q, hq, ?_, r2⟩
              simp only [pdB, Bool.or_eq_true, Bool.and_eq_true, decide_eq_true_eq]
              exact .inl r1
          by_cases hm : t ∈ dstU all hd U
          · rw [if_pos (this.2 hm), if_pos hm]
          · rw [if_neg (fun h => hm (this.1 h)), if_neg hm]
  obtain ⟨S, ρ, s1, s2, s3, sf, s4, s5, s6, s7, s8⟩ := hs'
  refine main all.toArray.size (List.range all.length) _ a _ S ρ h.look ⟨by simp, fun j => ?_, List.nodup_range⟩ (fun i _ hi => List.mem_range.2 hi) (by simp) (fun j oj _ hl => ?_) ?_
  · simp only [List.mem_range]
    constructor
    · intro hj; exact ⟨hj, getD_replicate_false _ _⟩
    · exact fun h => h.1
  · rw [getD_replicate_false] at hl; cases hl
  · refine ⟨s1, s2, s3, sf, fun r k hr => F.old r k hr, fun _ _ h => h, fun i s r k hs hl => (by rw [getD_replicate_false] at hl; cases hl), fun i s r hs _ hr => ?_, fun i o s d ho hs hl => (by rw [getD_replicate_false] at hl; cases hl), fun t _ => s4 t, s5, s6, s7⟩
    cases hh : h.look r with
    | none => rfl
    | some k =>
      obtain ⟨k', hk'⟩ := Option.ne_none_iff_exists'.1 hr
      have h1 := (F.new i s r k' hs hk').2
      have h2 := hk0 r (by rw [hh]; simp)
      omega
theorem draw_late3_perm (hT : TabOK P C) (hx0 : x.n0 <= hint.n0) (hm : P.follows .mixedOrders = true) {all all' : List Oper} {f : Nat -> Nat} (hp : PermOf all all' f) {c hd : Nat} {fs : List Bool} (hchk : lateOK3 hint all' c hd fs = true) (hdst : dstOK x.k all' = true) {id : Nat} {e : Env} {h : Heap} {n : Nat} {a : Act} {w : World}
    {Q : Exit -> Act -> World -> Prop} {K : Env -> Heap -> Nat -> Prop} (hK : ∀ e h n a w, K e h n -> Sat x e h n a w -> Q .normal a w)
    (hop : opsA P C hint all' (all'.take hd) e h n (opsF P C hint all' fs ((all'.take hd).drop c) (all'.drop hd) K)) (hs : Sat x e h n a w) :
    (Code.region id all.toArray true).wp P Q a w := by
  refine wp_region_any hm ?_
  have h1 := draw_late3 hT hx0 hchk hdst hK hop hs
  have e1 : all'.toArray.size = all.toArray.size := by simp [hp.len]
  rw [e1] at h1
  refine wpAny_perm hp _ _ _ _ _ ⟨by simp, by simp, fun i hi b => ?_⟩ h1
  simp only [List.size_toArray]
  rw [getD_rep (hp.lt i hi), getD_rep hi]
end
end Go.Vc
namespace Go.Vc
open Go.RowKit
section
variable {P : Program} {hint : Hint}
theorem wp_put {o : Oper} {a : Act} {w : World} {N : Act -> World -> Prop} {Q : Exit -> Act -> World -> Prop} (h : o.wp P a w (fun a' w' => (∃ v, a'.tmps = (a.put o.dst v).tmps) -> N a' w') Q) : o.wp P a w N Q := by
  unfold Oper.wp at *
  generalize (execOp a.eval o).run P w = r at *
  cases r with
  | ok n w' =>
    cases n with
    | value v => exact h ⟨v, rfl⟩
    | skip => exact h ⟨Go.undef, rfl⟩
    | defer d => exact h ⟨Go.undef, by cases o.dst <;> rfl⟩
    | enter f args => exact Calls.mono h (fun e w'' he => by cases e <;> first | exact he ⟨_, rfl⟩ | exact he)
    | row r args => exact Rows.mono h (fun v w'' he => he ⟨v, rfl⟩)
    | _ => exact h
  | halt x w' => cases x <;> exact h
def hint0 : Hint := ⟨fun _ => false, fun _ => [], 0, fun _ => false, fun _ => false, fun _ => [], fun _ => []⟩
theorem eval_put {a a' : Act} {d : Option Tmp} {v : Value} (h : a'.tmps = (a.put d v).tmps) {y : Operand} (hy : ∀ t, y = .tmp t -> d ≠ some t) : a'.eval y = a.eval y := by
  cases y with
  | tmp t =>
    show a'.tmps.getD t Go.undef = a.tmps.getD t Go.undef
    rw [h, put_getD (hy t rfl)]
  | _ => rfl
def rowE (ts : Tmp) (y : Operand) (ys : List Int) : Env := (ts, .sl 0) :: (match y with | .tmp t => [(t, .ints ys)] | _ => [])
theorem row_alone {x : Cx} {h : Heap} {a : Act} {w : World} {S : Store} {ρ : Rho} {r : Nat} {i : Int} {xss : List (List Int)} {ts : Tmp} {y : Operand} {ys : List Int}
    (hrel : Rel x.own S ρ h.look w) (hk : a.tmps.size = x.k) (hdf : a.defers = []) (hr : h.look r = some (.mat xss)) (hs : V S ρ h.look (.mr r i) (a.tmps.getD ts Go.undef)) (hy : V S ρ h.look (.ints ys) (a.eval y)) (hne : ∀ t, y = .tmp t -> t ≠ ts) :
    ∃ row e1, xss[i.toNat]? = some row /\ 0 <= i /\ Sat ⟨w, fun b => (ρ.rcap r i.toNat ≠ 0 /\ b = ρ.blk r (i.toNat + 1)) \/ w.heap.size <= b, x.k, S, 0, ρ, fun b hb => .inr hb⟩ e1 [(0, .arr (.ints row))] 1 a w /\
      e1.get ts = .sl 0 /\ (opnd e1 y = .ints ys \/ (∃ c, y = .const c) \/ (∃ f, y = .func f) \/ (∃ g, y = .global g)) := by
  obtain ⟨xss1, row, hb1, h0, hi, a0, hl, hcv, ha0⟩ := hs.mr_inv
  rw [hr] at hb1; cases hb1
  obtain ⟨c, _, _, _, hrows⟩ := hrel.blk r _ hr
  have hpure : Sees S (.ints ys) (a.eval y) := by
    cases hy with
    | pure _ _ h => exact h
  refine ⟨row, rowE ts y ys, hi, h0, ⟨S, ⟨fun _ _ => ρ.blk r (i.toNat + 1), fun _ => ρ.rcap r i.toNat, fun _ _ => 0⟩, fun _ _ h => h, fun b h1 h2 => absurd h1 h2, ⟨hrel.stab, hrel.amb, fun q k hq => ?_, fun q j hf => ?_, fun q j q' j' h1 h2 _ => ?_⟩, fun q hq => absurd hq (Nat.not_lt_zero _), fun t => ?_, .refl _ _, hk, hdf, fun q hq => ?_, Nat.zero_le _⟩, by simp [rowE, Env.get], ?_⟩
  · simp only [Heap.look] at hq
    split at hq
    · rename_i e'; subst e'; cases hq
      by_cases hc0 : ρ.rcap r i.toNat = 0
      · have hrow0 : row = [] := List.length_eq_zero_iff.1 (by omega)
        subst hrow0
        exact ⟨[], 1, #[], rfl, fun h => (h hc0).elim, by simp [hc0], by simp, ⟨fun x hx => by simp at hx, fun i x j y hx => by simp at hx⟩⟩
      · obtain ⟨dd, hd1, hd2, hd3⟩ := (hrows _ _ hi).2 hc0
        refine ⟨row.map .i, 1, dd, rfl, fun _ => hd1, by simp [hd2], by simpa using hl, ⟨fun y hy => ?_, fun q' y j z hy hz => ?_⟩⟩
        · obtain ⟨n', _, rfl⟩ := List.mem_map.1 hy; rfl
        · rw [List.getElem?_map] at hy
          obtain ⟨n', hn', rfl⟩ := Option.map_eq_some_iff.1 hy
          cases j with
          | zero => simp [AV.cells] at hz; subst hz; exact ⟨_, by simpa using hd3 _ _ hn', .int _ _⟩
          | succ j => simp [AV.cells] at hz
    · cases hq
  · unfold foot at hf
    simp only [Heap.look] at hf
    by_cases e' : (0 : Nat) = q
    · rw [if_pos e'] at hf
      exact ⟨.inl ⟨hf.2, rfl⟩, (hrel.owned r _ (foot_row hr hi hf.2)).2⟩
    · rw [if_neg e'] at hf; exact hf.elim
  · unfold foot at h1 h2
    simp only [Heap.look] at h1 h2
    by_cases e1 : (0 : Nat) = q
    · by_cases e2 : (0 : Nat) = q'
      · rw [if_pos e1] at h1; rw [if_pos e2] at h2
        exact ⟨by omega, by rw [h1.1, h2.1]⟩
      · rw [if_neg e2] at h2; exact h2.elim
    · rw [if_neg e1] at h1; exact h1.elim
  · simp only [rowE, Env.get]
    by_cases ht : ts = t
    · subst ht; rw [if_pos rfl, hcv]
      have := V.sl (S := S) (ρ := ⟨fun _ _ => ρ.blk r (i.toNat + 1), fun _ => ρ.rcap r i.toNat, fun _ _ => 0⟩) (H := Heap.look [(0, .arr (.ints row))]) 0 (.ints row) (row.map .i) 1 a0 (by simp [Heap.look]) rfl ha0
      simpa using this
    · rw [if_neg ht]
      cases y with
      | tmp t' =>
        simp only [Env.get]
        by_cases h2 : t' = t
        · subst h2; rw [if_pos rfl]; exact .pure _ _ hpure
        · rw [if_neg h2]; exact .pure _ _ (.undef _)
      | _ => exact .pure _ _ (.undef _)
  · simp only [Heap.look] at hq
    split at hq
    · omega
    · exact (hq rfl).elim
  · cases y with
    | tmp t =>
      refine .inl ?_
      show (rowE ts (.tmp t) ys).get t = _
      have h2 : ¬ ts = t := fun e => hne t rfl e.symm
      simp [rowE, Env.get, h2]
    | const c => exact .inr (.inl ⟨c, rfl⟩)
    | func f => exact .inr (.inr (.inl ⟨f, rfl⟩))
    | global g => exact .inr (.inr (.inr ⟨g, rfl⟩))
theorem fuse_ok {x : Cx} (hx0 : x.n0 <= hint.n0) {e : Env} {h : Heap} {n : Nat} {a : Act} {w : World} {o1 o2 o3 : Oper} {ts d1 d2 : Tmp} {y p k : Operand} {t1 tx t2 t3 : TypeId} (ho1 : o1.op = .call ⟨.builtin .append, ⟨[.tmp ts, y]⟩, ⟨[t1, tx]⟩⟩) (hd1 : o1.dst = some d1)
    (ho2 : o2.op = .indexAddr t2 p k) (hd2 : o2.dst = some d2) (ho3 : o3.op = .store t3 (.tmp d2) (.tmp d1)) (hd3 : o3.dst = none) (hs : Sat x e h n a w)
    (hne : d1 ≠ d2) (hy1 : ∀ t, y = .tmp t -> t ≠ ts) (hp1 : ∀ t, p = .tmp t -> d1 ≠ t) (hk1 : ∀ t, k = .tmp t -> d1 ≠ t) (hk1d : d1 < x.k) (hk2d : d2 < x.k)
    {r : Nat} {i : Int} {xss : List (List Int)} {ys : List Int} {kk : IntKind} (hs1 : e.get ts = .mr r i) (hr : h.look r = some (.mat xss)) (hy : opnd e y = .ints ys) (hp : opnd e p = .mt r) (hk : opnd e k = .int kk i)
    (hge : hint.n0 <= r) (hap : apP (ap P t1) 1 ((ix xss i).length + ys.length)) (hsl : isSl P tx) (hed : ed P t2 = some (none, 1)) (htd : td P t3 = .one)
    {next : Act -> World -> Prop} {Q : Exit -> Act -> World -> Prop}
    (hK : ∀ a' w', Sat x ((d2, .undef) :: (d1, .undef) :: trE (purN [] [r]) e) ((r, .mat (xss.set i.toNat (ix xss i ++ ys))) :: trH (purN [] [r]) [r] h) n a' w' -> next a' w') : o1.wp P a w (fun a1 w1 => o2.wp P a1 w1 (fun a2 w2 => o3.wp P a2 w2 next Q) Q) Q := by
  obtain ⟨S, ρ, s1, s2, hrel, hfx, hE, hkept, hkx, hdf, hn, hn0⟩ := hs
  have hvs := hE ts
  rw [hs1] at hvs
  have hvy := hE.opnd y
  rw [hy] at hvy
  have hvp := hE.opnd p
  rw [hp] at hvp
  have hvk := hE.opnd k
  rw [hk] at hvk
  obtain ⟨row, e1, hi, h0, hsat1, he1s, he1y⟩ := row_alone hrel hkx hdf hr hvs hvy hy1
  have hix : ix xss i = row := by have := ix_get (List.getElem?_eq_some_iff.1 hi).1; rw [hi] at this; exact (Option.some.inj this).symm
  rw [hix] at hap hK
  have hil : i.toNat < xss.length := (List.getElem?_eq_some_iff.1 hi).1
  have he1y : opnd e1 y = .ints ys := by
    rcases he1y with h | ⟨c, rfl⟩ | ⟨f, rfl⟩ | ⟨g, rfl⟩
    · exact h
    · exact hy
    · exact hy
    · exact hy
  have happ : appR hint0 P t1 tx (opnd e1 (.tmp ts)) (blkOf [(0, .arr (.ints row))] (opnd e1 (.tmp ts))) (opnd e1 y) e1 [(0, .arr (.ints row))] =
      ⟨0 <= 0 /\ apP (ap P t1) 1 ((row ++ ys).length) /\ isSl P tx, purE 0 e1, [(0, .arr (.ints (row ++ ys)))]⟩ := by
    have e0 : opnd e1 (.tmp ts) = .sl 0 := he1s
    rw [e0, he1y]; rfl
  refine wp_put (append_ok (hint := hint0) (Nat.le_refl _) ho1 hsat1 (by rw [happ]; exact ⟨Nat.le_refl _, by rw [List.length_append]; exact hap, hsl⟩) (fun t ht => by rw [hd1] at ht; cases ht; exact hk1d) (fun a1 w1 hs2 hput => ?_))
  rw [happ] at hs2
  obtain ⟨v1, hput⟩ := hput
  rw [hd1] at hs2 hput
  obtain ⟨S1, ρ1, u1, u2, urel, _, uE, ukept, usz, udf, _, _⟩ := hs2
  have hS1 : S.le S1 := u1
  -- what the append has given
  have hv1 := uE d1
  have hg1 : (dset (purE 0 e1) (some d1) (opnd e1 (.tmp ts))).get d1 = .sl 0 := by
    have e0 : opnd e1 (.tmp ts) = .sl 0 := he1s
    rw [e0]; simp [dset, Env.get]
  rw [hg1] at hv1
  obtain ⟨v2, xs2, m2, a2, hcv, hb2, hel, ha2⟩ := hv1.sl_inv
  have hlk : Heap.look [(0, Blk.arr (.ints (row ++ ys)))] 0 = some (.arr (.ints (row ++ ys))) := by simp [Heap.look]
  rw [hlk] at hb2; cases hb2
  simp only [AV.elems, Option.some.injEq, Prod.mk.injEq] at hel; obtain ⟨rfl, rfl⟩ := hel
  rw [List.length_map] at hcv
  obtain ⟨xs3, m3, cm, he3, hcm, hszm, hcapm, harr⟩ := urel.blk 0 _ hlk
  simp only [AV.elems, Option.some.injEq, Prod.mk.injEq] at he3; obtain ⟨rfl, rfl⟩ := he3
  simp only [List.length_map, Nat.mul_one] at hcapm hszm
  have hown1 : ρ1.cap 0 ≠ 0 -> (ρ.rcap r i.toNat ≠ 0 /\ ρ1.blk 0 0 = ρ.blk r (i.toNat + 1)) \/ w.heap.size <= ρ1.blk 0 0 := fun h0 => (urel.owned 0 0 (foot_arr hlk h0)).1
  -- the matrix as it stands
  obtain ⟨c, hc, hsz, hcap, hrows⟩ := hrel.blk r _ hr
  have hcap0 : ρ.cap r ≠ 0 := by omega
  have hf0 := foot_mat (ρ := ρ) hr hcap0
  obtain ⟨cl, hcw⟩ : ∃ el, w.heap[ρ.blk r 0]? = some (.cells c el (0, 0)) := hc hcap0
  have hb0 : ρ.blk r 0 < w.heap.size := (Array.getElem?_eq_some_iff.1 hcw).1
  have hnot : ∀ b, b < w.heap.size -> ¬ (ρ.rcap r i.toNat ≠ 0 /\ b = ρ.blk r (i.toNat + 1)) -> w1.heap[b]? = w.heap[b]? := fun b hb hn => ukept.block b hb (fun h => by
    rcases h with h | h
    · exact hn h
    · omega)
  have hb0n : ¬ (ρ.rcap r i.toNat ≠ 0 /\ ρ.blk r 0 = ρ.blk r (i.toNat + 1)) := fun h => by
    have := (hrel.sep r 0 r (i.toNat + 1) hf0 (foot_row hr hi h.1) h.2).2; omega
  have hc1 : OwnCells w1 (ρ.blk r 0) c := ⟨cl, by rw [hnot _ hb0 hb0n]; exact hcw⟩
  obtain ⟨cl1, hcw1⟩ := hc1
  -- the place in the matrix
  have hpv : a1.eval p = a.eval p := eval_put hput (fun t ht e => hp1 t ht (by simpa using e))
  have hkv : a1.eval k = a.eval k := eval_put hput (fun t ht e => hk1 t ht (by simpa using e))
  obtain ⟨xssp, ap1, hpe, hrp, hap1⟩ := hvp.mt_inv
  rw [hr] at hrp; cases hrp
  rw [hap1 hcap0] at hpe
  have hke := hvk.int_inv
  obtain ⟨eT, hu, hszE⟩ : ∃ eT, P.underlying t2 = some (.slice eT) /\ (sizeOf eT).run P w1 = .ok 1 w1 := by
    unfold ed at hed
    split at hed
    · rename_i e' hu
      cases hi' : P.info? e' with
      | none => rw [hi'] at hed; simp at hed
      | some i' => rw [hi'] at hed; simp at hed; exact ⟨e', hu, by simp [sizeOf, typeInfo, hi', hed]⟩
    · rename_i n' e' hu
      cases hi' : P.info? e' with
      | none => rw [hi'] at hed; simp at hed
      | some i' => rw [hi'] at hed; simp at hed
    · cases hed
  have hilI : i < xss.length := by omega
  have hrun2 : (execOp a1.eval o2).run P w1 = .ok (.value (.pointer (some ⟨ρ.blk r 0, i.toNat, none⟩))) w1 := by
    simp [execOp, ho2, hpv, hkv, hpe, hke, Instr.indexAt, run_underlying hu, asIntOf, h0, hilI, hszE, add_none]
  unfold Oper.wp
  rw [hrun2]
  show o3.upon P (a1.put o2.dst _) next Q _
  rw [hd2]
  -- the store
  have hsz1 : a1.tmps.size = x.k := usz
  have hE2 : (a1.put (some d2) (.pointer (some ⟨ρ.blk r 0, i.toNat, none⟩))).eval (.tmp d2) = .pointer (some ⟨ρ.blk r 0, i.toNat, none⟩) := put_getD_self (by rw [hsz1]; exact hk2d)
  have hE1 : (a1.put (some d2) (.pointer (some ⟨ρ.blk r 0, i.toNat, none⟩))).eval (.tmp d1) = a1.tmps.getD d1 Go.undef := put_getD (by intro e; cases e; exact hne rfl)
  generalize haa : a1.put (some d2) (.pointer (some ⟨ρ.blk r 0, i.toNat, none⟩)) = a2' at hE1 hE2
  generalize hcvv : a1.tmps.getD d1 Go.undef = hv at hE1 hcv
  have hrun3 := run_storeAt (P := P) (w := w1) ⟨cl1, hcw1⟩ (t := t3) (o := i.toNat) (cv := hv) (.inl ⟨htd, by rw [(run_isAgg_one (w := w1) htd).2, hcv]; rfl⟩) (by rw [hcv]; simp [Value.cells]; omega) (by rw [hcv]; simp [Value.cells, Value.oneCell'])
  generalize hcc : (c.toList.take i.toNat ++ hv.cells.toList ++ c.toList.drop (i.toNat + hv.cells.toList.length)).toArray = cc at hrun3
  have hccq : ∀ q, cc[q]? = if q = i.toNat then some hv else c[q]? := fun q => by
    have e1 : hv.cells.toList = [hv] := by rw [hcv]; rfl
    rw [<- hcc, e1, List.getElem?_toArray]
    simp only [List.length_singleton]
    rw [splice_one _ _ _ _ (by simp; omega)]
    simp
  have hccs : cc.size = c.size := by
    rw [<- hcc, hcv]; simp [Value.cells]; omega
  have hrunS : (execOp a2'.eval o3).run P w1 = .ok .skip (w1.setRow (ρ.blk r 0) cc) := by
    simp [execOp, ho3, hE1, hE2, hrun3]
  rw [hrunS]
  show next (a2'.put o3.dst Go.undef) _
  rw [hd3]
  show next a2' _
  apply hK
  -- the relation behind it
  have hother : ∀ b, b ≠ ρ.blk r 0 -> (w1.setRow (ρ.blk r 0) cc).heap[b]? = w1.heap[b]? := fun b hb => setRow_other w1 _ _ _ hb
  let ρ' : Rho := ⟨fun q j => if q = r /\ j = i.toNat + 1 then ρ1.blk 0 0 else ρ.blk q j, ρ.cap, fun q j => if q = r /\ j = i.toNat then ρ1.cap 0 else ρ.rcap q j⟩
  have hHr : Heap.look ((r, .mat (xss.set i.toNat (row ++ ys))) :: trH (purN [] [r]) [r] h) r = some (.mat (xss.set i.toNat (row ++ ys))) := by simp [Heap.look]
  have hHo : ∀ q, ¬ (q = r) -> Heap.look ((r, .mat (xss.set i.toNat (row ++ ys))) :: trH (purN [] [r]) [r] h) q = (h.look q).map (Blk.tr (purN [] [r])) := fun q hq => by
    simp only [Heap.look]; rw [if_neg (fun e => hq e.symm), trH_look]
    have : memN [r] q = false := by
      cases hmm : memN [r] q with
      | false => rfl
      | true => have := memN_mem.1 hmm; simp at this; exact (hq this).elim
    rw [this]; rfl
  generalize hH' : (r, Blk.mat (xss.set i.toNat (row ++ ys))) :: trH (purN [] [r]) [r] h = h' at hHr hHo
  have bq : ∀ q j, q ≠ r -> ρ'.blk q j = ρ.blk q j := fun q j hq => by simp [ρ', hq]
  have rq : ∀ q j, q ≠ r -> ρ'.rcap q j = ρ.rcap q j := fun q j hq => by simp [ρ', hq]
  have b0 : ρ'.blk r 0 = ρ.blk r 0 := by simp [ρ']
  have bi : ρ'.blk r (i.toNat + 1) = ρ1.blk 0 0 := by simp [ρ']
  have bo : ∀ j, j ≠ i.toNat -> ρ'.blk r (j + 1) = ρ.blk r (j + 1) := fun j hj => by simp [ρ', hj]
  have ri : ρ'.rcap r i.toNat = ρ1.cap 0 := by simp [ρ']
  have ro : ∀ j, j ≠ i.toNat -> ρ'.rcap r j = ρ.rcap r j := fun j hj => by simp [ρ', hj]
  have hfoot : ∀ j, foot ρ' (Heap.look h') r j -> (j = 0 /\ ρ'.blk r j = ρ.blk r 0) \/ (j = i.toNat + 1 /\ ρ1.cap 0 ≠ 0 /\ ρ'.blk r j = ρ1.blk 0 0) \/ (j ≠ i.toNat + 1 /\ j ≠ 0 /\ foot ρ h.look r j /\ ρ'.blk r j = ρ.blk r j) := fun j hf => by
    unfold foot at hf
    rw [hHr] at hf
    rcases hf with ⟨rfl, _⟩ | ⟨i', row', rfl, hi', hne'⟩
    · exact .inl ⟨rfl, b0⟩
    · by_cases e' : i' = i.toNat
      · subst e'; rw [ri] at hne'; exact .inr (.inl ⟨rfl, hne', bi⟩)
      · rw [ro i' e'] at hne'
        rw [getElem?_set_list _ _ _ _ hil, if_neg e'] at hi'
        exact .inr (.inr ⟨by omega, by omega, foot_row hr hi' hne', bo i' e'⟩)
  -- a block of another place is not the new row's
  have apart : ∀ q j, foot ρ h.look q j -> ¬ (q = r /\ j = i.toNat + 1) -> ρ1.cap 0 ≠ 0 -> ρ.blk q j ≠ ρ1.blk 0 0 := fun q j hf hn hc0 e => by
    rcases hown1 hc0 with ⟨h1, h2⟩ | h2
    · have := hrel.sep q j r (i.toNat + 1) hf (foot_row hr hi h1) (by rw [e, h2])
      exact hn this
    · have := hrel.foot_lt hf; omega
  have hb0c : ∀ _ : ρ1.cap 0 ≠ 0, ρ.blk r 0 ≠ ρ1.blk 0 0 := fun h => apart r 0 hf0 (fun h => by omega) h
  have old : ∀ b c', OwnCells w b c' -> b ≠ ρ.blk r 0 -> ¬ (ρ.rcap r i.toNat ≠ 0 /\ b = ρ.blk r (i.toNat + 1)) -> OwnCells (w1.setRow (ρ.blk r 0) cc) b c' := fun b c' ⟨el, hb⟩ h1 h2 =>
    ⟨el, by rw [hother _ h1, hnot _ (Array.getElem?_eq_some_iff.1 hb).1 h2]; exact hb⟩
  obtain ⟨g1, g2⟩ := Rel.turn (H' := (Heap.look h')) (ρ' := ρ') (w' := w1.setRow (ρ.blk r 0) cc) (φ := purN [] [r]) (D := fun q => q = r) (k' := .mat (xss.set i.toNat (row ++ ys))) hrel (r := r) rfl hHr hHo (fun q h1 h2 => (h2 h1).elim)
    (fun a1 cv1 hra hv1 => purN_ref hra hv1 (fun n1 n2 n3 => by
      by_cases hqr : a1.rbase = r
      · cases hv1 with
        | pure _ _ h => exact (ref_not_pure hra h).elim
        | vec => cases hra
        | agg => cases hra
        | tup => cases hra
        | fn => cases hra
        | sl q v xs m' a2 hr' he ha => simp only [AV.rbase] at hqr; subst hqr; rw [hr] at hr'; cases hr'
        | mt q xss' a2 hr' ha =>
          simp only [AV.rbase] at hqr; subst hqr; rw [hr] at hr'; cases hr'
          have := V.mt (S := S) (ρ := ρ') (H := (Heap.look h')) q _ a2 hHr (by rw [b0]; exact ha)
          simpa using this
        | mr q i' xss' row' cv' hr' h0' hi' h' => simp only [AV.rbase] at hqr n2; have := n2 i'; simp [hqr] at this
        | bx q off cs hr' ho' => simp only [AV.rbase] at hqr; subst hqr; rw [hr] at hr'; cases hr'
        | pa q i' v xs m' hr' he h0' hi' => simp only [AV.rbase] at hqr; subst hqr; rw [hr] at hr'; cases hr'
        | pm q i' j' xss' row' hr' h0' hi' hj0 hj => simp only [AV.rbase] at hqr n3; have := n3 i' j'; simp [hqr] at this
        | po q i' xss' hr' h0' hi' =>
          simp only [AV.rbase] at hqr; subst hqr; rw [hr] at hr'; cases hr'
          have := V.po (S := S) (ρ := ρ') (H := (Heap.look h')) q i' _ hHr h0' (by simpa using hi')
          rwa [b0] at this
      · refine hv1.ref_shape hra (fun k hk => ?_) (fun j => bq _ j hqr) rfl (fun j => rq _ j hqr)
        exact ⟨_, by rw [hHo _ hqr, hk]; rfl, same_tr (hrel.blk _ _ hk) _⟩))
    (fun q j hq => bq q j hq) (fun q _ => rfl) (fun q j hq => rq q j hq)
    (fun b c' hb hne' => old b c' hb (hne' r 0 rfl hf0) (fun h => hne' r _ rfl (foot_row hr hi h.1) h.2))
    (fun b c' hb => by
      obtain ⟨el, fr, hb'⟩ := urel.stab b c' (hS1 b c' hb)
      refine ⟨el, fr, ?_⟩
      rw [hother _ (fun e' => ?_)]; exact hb'
      have := (hrel.owned r 0 hf0).2; rw [<- e', hb] at this; cases this)
    (fun hV => by
      refine ⟨cc, fun _ => by rw [b0]; exact ⟨cl1, setRow_heap w1 _ _ _ _ _ hcw1⟩, by rw [hccs, hsz], by simpa using hcap, fun j row' hj => ⟨?_, fun hne' => ?_⟩⟩
      · rw [getElem?_set_list _ _ _ _ hil] at hj
        rw [hccq]
        split at hj
        · rename_i ej; subst ej; cases hj
          rw [if_pos rfl]
          exact ⟨_, rfl, a2, by rw [ri]; exact hcapm, by rw [hcv, ri], by rw [ri, bi]; exact ha2⟩
        · rename_i ej
          rw [if_neg ej]
          obtain ⟨u, hu, hrow⟩ := (hrows j row' hj).1
          exact ⟨u, hu, hrow.keep (bo j ej) (ro j ej)⟩
      · rw [getElem?_set_list _ _ _ _ hil] at hj
        split at hj
        · rename_i ej; subst ej; cases hj
          rw [ri] at hne'
          obtain ⟨elm, hcm'⟩ := hcm hne'
          refine ⟨cm, ?_, by rw [ri]; exact hszm, fun q n' hq => ?_⟩
          · rw [bi]
            exact ⟨elm, by rw [hother _ (fun e' => hb0c hne' e'.symm)]; exact hcm'⟩
          · obtain ⟨u, hu, hsu⟩ := harr.2 q (.int .i64 n') 0 (.int .i64 n') (by rw [List.getElem?_map, hq]; rfl) rfl
            cases hsu with
            | int => simpa using hu
            | lst _ _ _ _ _ he => simp [AV.elems] at he
        · rename_i ej
          rw [ro j ej] at hne' ⊢
          rw [bo j ej]
          obtain ⟨d, hd, hr2⟩ := (hrows j row' hj).2 hne'
          refine ⟨d, old _ _ hd (fun e' => ?_) (fun h => ?_), hr2⟩
          · have := (hrel.sep r (j + 1) r 0 (foot_row hr hj hne') hf0 e').2; omega
          · have := (hrel.sep r (j + 1) r (i.toNat + 1) (foot_row hr hj hne') (foot_row hr hi h.1) h.2).2; omega)
    (fun j hf => by
      rcases hfoot j hf with ⟨rfl, e'⟩ | ⟨rfl, hc0, e'⟩ | ⟨h1, h2, h3, e'⟩
      · rw [e']
        exact ⟨(hrel.owned r 0 hf0).1, (hrel.owned r 0 hf0).2, fun q j' hq hf' e2 => hq (hrel.sep q j' r 0 hf' hf0 e2).1⟩
      · rw [e']
        refine ⟨?_, ?_, fun q j' hq hf' => apart q j' hf' (fun h => hq h.1) hc0⟩
        · rcases hown1 hc0 with ⟨g1, g2⟩ | g2
          · rw [g2]; exact (hrel.owned r _ (foot_row hr hi g1)).1
          · exact x.hown _ (Nat.le_trans hkept.size g2)
        · rcases hown1 hc0 with ⟨g1, g2⟩ | g2
          · rw [g2]; exact (hrel.owned r _ (foot_row hr hi g1)).2
          · cases hSb : S (ρ1.blk 0 0) with
            | none => rfl
            | some c' => have := (hrel.stab _ _ hSb).lt; omega
      · rw [e']
        exact ⟨(hrel.owned r j h3).1, (hrel.owned r j h3).2, fun q j' hq hf' e2 => hq (hrel.sep q j' r j hf' h3 e2).1⟩)
    (fun j j' h1 h2 e' => by
      rcases hfoot j h1 with ⟨rfl, f1⟩ | ⟨rfl, hc0, f1⟩ | ⟨p1, p2, p3, f1⟩ <;> rcases hfoot j' h2 with ⟨rfl, f2⟩ | ⟨rfl, hc0', f2⟩ | ⟨q1, q2, q3, f2⟩ <;> (try rw [f1] at e') <;> (try rw [f2] at e')
      · exact (hb0c hc0' e').elim
      · exact (hrel.sep r 0 r j' hf0 q3 e').2
      · exact (hb0c hc0 e'.symm).elim
      · exact (apart r j' q3 (fun h => q1 h.2) hc0 e'.symm).elim
      · exact (hrel.sep r j r 0 p3 hf0 e').2
      · exact (apart r j p3 (fun h => p1 h.2) hc0' e').elim
      · exact (hrel.sep r j r j' p3 q3 e').2)
  have hh' : Heap.look h' = Heap.look h' := rfl
  refine ⟨S, ρ', s1, s2, g1, fun q h1 h2 => ?_, fun t => ?_, ?_, ?_, ?_, fun q hq => ?_, hn0⟩
  · have hqr : q ≠ r := by omega
    obtain ⟨f1, f2, f3⟩ := hfx q h1 (fun e0 => h2 (by rw [hHo q hqr, e0]; rfl))
    exact ⟨fun j => by rw [bq q j hqr, f1], f2, fun j => by rw [rq q j hqr, f3]⟩
  · simp only [Env.get]
    by_cases ht2 : d2 = t
    · rw [if_pos ht2]; exact .pure _ _ (.undef _)
    · rw [if_neg ht2]
      by_cases ht1 : d1 = t
      · rw [if_pos ht1]; exact .pure _ _ (.undef _)
      · rw [if_neg ht1, trE_get _ _ _ rfl]
        have : a2'.tmps.getD t Go.undef = a.tmps.getD t Go.undef := by
          rw [<- haa, put_getD (fun e => ht2 (by simpa using e)), hput, put_getD (fun e => ht1 (by simpa using e))]
        rw [this]
        exact g2 _ _ (hE t)
  · -- what is not own is as it was
    refine ⟨ukept.os.trans hkept.os, ukept.tape.trans hkept.tape, ukept.output.trans hkept.output, ?_, fun b hb ho => ?_, fun d => Nat.le_trans (hkept.drawn d) (ukept.drawn d)⟩
    · have e1 : (w1.setRow (ρ.blk r 0) cc).heap.size = w1.heap.size := by simp [World.setRow]
      rw [e1]; exact Nat.le_trans hkept.size ukept.size
    · rw [hother _ (fun e => ho (by rw [e]; exact (hrel.owned r 0 hf0).1)), hnot b (Nat.lt_of_lt_of_le hb hkept.size) (fun h => ho (by rw [h.2]; exact (hrel.owned r _ (foot_row hr hi h.1)).1))]
      exact hkept.block b hb ho
  · rw [<- haa, put_size]; exact hsz1
  · rw [<- haa, put_defers]; exact udf
  · by_cases e' : q = r
    · subst e'; exact hn q (by rw [hr]; simp)
    · rw [hHo q e'] at hq
      exact hn q (fun e0 => hq (by rw [e0]; rfl))
theorem wp_q {o : Oper} {a : Act} {w : World} {N : Act -> World -> Prop} {Q Q' : Exit -> Act -> World -> Prop} (hp : ∀ ch a w, Q' (.panic ch) a w -> Q (.panic ch) a w) (ho : LetsOut Q' -> LetsOut Q) (h : o.wp P a w N Q') : o.wp P a w N Q := by
  unfold Oper.wp at *
  generalize (execOp a.eval o).run P w = r at *
  cases r with
  | ok n w' =>
    cases n with
    | enter f args => exact Calls.mono h (fun e w'' he => by cases e <;> first | exact he | exact hp _ _ _ he | exact ho he)
    | _ => exact h
  | halt x w' => cases x <;> first | exact h | exact hp _ _ _ h
def thenQ (R : Act -> World -> Prop) (Q : Exit -> Act -> World -> Prop) : Exit -> Act -> World -> Prop := fun ex a w => match ex with | .normal => R a w | ex => Q ex a w
theorem wpList_append {ops : Array Oper} {Q : Exit -> Act -> World -> Prop} (l2 : List Oper) : ∀ (l1 : List Oper) (a : Act) (w : World), wpList P ops (thenQ (wpList P ops Q l2) Q) l1 a w -> wpList P ops Q (l1 ++ l2) a w
  | [], a, w, h => h
  | o :: l, a, w, h => by
    rw [List.cons_append]
    unfold wpList at h ⊢
    split
    · rename_i hw
      rw [if_pos hw] at h
      rcases h with h | h
      · exact .inl (wp_q (fun ch a w h => h) (fun h => h) (Oper.wp_mono (fun a w h => wpList_append l2 l a w h) h))
      · exact .inr h
    · rename_i hw
      rw [if_neg hw] at h
      exact wpList_append l2 l _ _ h
def fuseS (v : AV) (k : Option Blk) (y p i : AV) (A : Nat -> Int -> List (List Int) -> List Int -> Prop) : Prop :=
  match v, k, y, p, i with
  | .mr r i, some (.mat xss), .ints ys, .mt r', .int _ i' => (r' = r /\ i' = i) /\ A r i xss ys
  | _, _, _, _, _ => False
def fuseP (P : Program) (hint : Hint) (l : List Oper) (K : Env -> Heap -> Nat -> Prop) (e : Env) (h : Heap) (n : Nat) : Prop :=
  match l with
  | [⟨some d1, .call ⟨.builtin .append, ⟨[.tmp ts, y]⟩, ⟨[t1, tx]⟩⟩, _, _, _, none⟩, ⟨some d2, .indexAddr t2 p k, _, _, _, none⟩, ⟨none, .store t3 _ _, _, _, _, none⟩] =>
    fuseS (e.get ts) (blkOf h (e.get ts)) (opnd e y) (opnd e p) (opnd e k) (fun r i xss ys =>
      (hint.n0 <= r /\ apP (ap P t1) 1 ((ix xss i).length + ys.length) /\ isSl P tx /\ ed P t2 = some (none, 1) /\ td P t3 = .one) /\
        K ((d2, .undef) :: (d1, .undef) :: trE (purN [] [r]) e) ((r, .mat (xss.set i.toNat (ix xss i ++ ys))) :: trH (purN [] [r]) [r] h) n)
  | _ => False
def neTmp (y : Operand) (t : Tmp) : Bool := match y with | .tmp q => q != t | _ => true
theorem neTmp_ne {y : Operand} {t : Tmp} (h : neTmp y t = true) : ∀ q, y = .tmp q -> q ≠ t := fun q e => by subst e; simpa [neTmp] using h
def fuseOK (l : List Oper) : Bool :=
  match l with
  | [⟨some d1, .call ⟨.builtin .append, ⟨[.tmp ts, y]⟩, ⟨[_, _]⟩⟩, _, _, _, none⟩, ⟨some d2, .indexAddr _ p k, _, _, _, none⟩, ⟨none, .store _ (.tmp a) (.tmp b), _, _, _, none⟩] =>
    (a == d2 && b == d1) && (d1 != d2 && neTmp y ts) && (neTmp p d1 && neTmp k d1)
  | _ => false
theorem fuseP_ok {x : Cx} (hx0 : x.n0 <= hint.n0) {ops : Array Oper} {l : List Oper} (hc : fuseOK l = true) (hd : dstOK x.k l = true) {Q : Exit -> Act -> World -> Prop} {K : Env -> Heap -> Nat -> Prop} (hK : ∀ e h n a w, K e h n -> Sat x e h n a w -> Q .normal a w)
    {e : Env} {h : Heap} {n : Nat} {a : Act} {w : World} (hp : fuseP P hint l K e h n) (hs : Sat x e h n a w) : wpList P ops Q l a w := by
  unfold fuseOK at hc
  split at hc
  · rename_i d1 ts y t1 tx g1 g2 g3 d2 t2 p k g4 g5 g6 t3 aa bb g7 g8 g9
    simp only [Bool.and_eq_true, beq_iff_eq, bne_iff_ne, ne_eq] at hc
    obtain ⟨⟨⟨e1, e2⟩, e3, e4⟩, e5, e6⟩ := hc
    subst e1 e2
    simp only [fuseP] at hp
    unfold fuseS at hp
    split at hp <;> first | exact hp.elim | skip
    rename_i r i xss ys r' kk i' q1 q2 q3 q4 q5
    obtain ⟨⟨z1, z2⟩, ⟨f1, f2, f3, f4, f5⟩, hkk⟩ := hp
    subst z1 z2
    rw [q1] at q2
    have k1 : bb < x.k := dstOK_mem hd (o := ⟨some bb, .call ⟨.builtin .append, ⟨[.tmp ts, y]⟩, ⟨[t1, tx]⟩⟩, g1, g2, g3, none⟩) (by simp) bb rfl
    have k2 : aa < x.k := dstOK_mem hd (o := ⟨some aa, .indexAddr t2 p k, g4, g5, g6, none⟩) (by simp) aa rfl
    unfold wpList
    rw [if_pos (by simp [Region.wanted])]
    left
    refine Oper.wp_mono (fun a1 w1 h1 => ?_) (fuse_ok (P := P) hx0 (o1 := ⟨some bb, .call ⟨.builtin .append, ⟨[.tmp ts, y]⟩, ⟨[t1, tx]⟩⟩, g1, g2, g3, none⟩) (o2 := ⟨some aa, .indexAddr t2 p k, g4, g5, g6, none⟩)
      (o3 := ⟨none, .store t3 (.tmp aa) (.tmp bb), g7, g8, g9, none⟩) (next := fun a w => Q .normal a w) (Q := Q) rfl rfl rfl rfl rfl rfl hs e3 (neTmp_ne e4) (fun t ht e => neTmp_ne e5 t ht e.symm) (fun t ht e => neTmp_ne e6 t ht e.symm) k1 k2 q1 q2 q3 q4 q5 f1 f2 f3 f4 f5 (fun a' w' h => hK _ _ _ _ _ hkk h))
    unfold wpList
    rw [if_pos (by simp [Region.wanted])]
    left
    refine Oper.wp_mono (fun a2 w2 h2 => ?_) h1
    unfold wpList
    rw [if_pos (by simp [Region.wanted])]
    left
    exact h2
  · cases hc
end
end Go.Vc
namespace Go.Vc
open Go.RowKit
mutual
def Co : AV -> AV -> Prop
  | .agg cs, .agg ds => CoL cs ds
  | .tup cs, .tup ds => CoL cs ds
  | .nils, .ints xs => xs = []
  | .nils, .rows xs => xs = []
  | .nils, .strs xs => xs = []
  | .nils, .pairs xs => xs = []
  | .tt, .bool b => b = true
  | .ff, .bool b => b = false
  | u, v => u = v
def CoL : List AV -> List AV -> Prop
  | [], [] => True
  | a :: l, b :: m => Co a b /\ CoL l m
  | _, _ => False
end
theorem sees_nil {S : Store} {v : AV} {m : Nat} (he : v.elems = some ([], m)) (a : Option Addr) : Sees S v (.slice a 0 0) :=
  .lst v [] m a 0 he (Nat.le_refl _) 0 0 #[] (fun _ _ => Go.undef) (fun h => (h rfl).elim) (fun x hx => by cases hx) (fun i x j y hx => by simp at hx) (fun i x j y hx => by simp at hx)
theorem Co.ent : ∀ (u v : AV), Co u v -> Ent u v := by
  intro u
  refine AV.rec (motive_1 := fun u => ∀ v, Co u v -> Ent u v) (motive_2 := fun l => ∀ m, CoL l m -> l.length = m.length /\ ∀ (j : Nat) a b, l[j]? = some a -> m[j]? = some b -> Ent a b) ?_ ?_ ?_ ?_ ?_ ?_ ?_ ?_ ?_ ?_ ?_ ?_ ?_ ?_ ?_ ?_ ?_ ?_ ?_ ?_ ?_ ?_ ?_ ?_ ?_ ?_ ?_ ?_ ?_ ?_ ?_ u
  case refine_11 =>
    intro cs ih v h
    cases v <;> first | (rename_i ds; have hh : CoL cs ds := h; obtain ⟨hl, hp⟩ := ih ds hh; intro S ρ H cv hv; obtain ⟨vs, rfl, hs, hc⟩ := hv.agg_inv; refine .agg _ _ (by rw [hs, hl]) (fun j y u hy hu => ?_); have hj : j < cs.length := (by rw [hl]; exact (List.getElem?_eq_some_iff.1 hy).1); exact hp j cs[j] y (by simp [hj]) hy _ _ _ _ (hc j cs[j] u (by simp [hj]) hu)) | (simp [Co] at h)
  case refine_12 =>
    intro cs ih v h
    cases v <;> first | (rename_i ds; have hh : CoL cs ds := h; obtain ⟨hl, hp⟩ := ih ds hh; intro S ρ H cv hv; obtain ⟨vs, rfl, hs, hc⟩ := hv.tup_inv; refine .tup _ _ (by rw [hs, hl]) (fun j y u hy hu => ?_); have hj : j < cs.length := (by rw [hl]; exact (List.getElem?_eq_some_iff.1 hy).1); exact hp j cs[j] y (by simp [hj]) hy _ _ _ _ (hc j cs[j] u (by simp [hj]) hu)) | (simp [Co] at h)
  case refine_16 =>
    intro v h
    cases v <;> simp [Co] at h <;> first | (subst h; intro S ρ H cv hv; obtain ⟨a, rfl⟩ := hv.nils_inv; exact .pure _ _ (sees_nil rfl a)) | exact .refl _
  case refine_21 =>
    intro v h
    cases v <;> simp [Co] at h <;> first | (subst h; intro S ρ H cv hv; rw [hv.tt_inv]; exact v_bool _) | exact .refl _
  case refine_22 =>
    intro v h
    cases v <;> simp [Co] at h <;> first | (subst h; intro S ρ H cv hv; rw [hv.ff_inv]; exact v_bool _) | exact .refl _
  case refine_30 =>
    intro m h
    cases m with
    | nil => exact ⟨rfl, fun j a b h => by simp at h⟩
    | cons => simp [CoL] at h
  case refine_31 =>
    intro a l iha ihl m h
    cases m with
    | nil => simp [CoL] at h
    | cons b m =>
      obtain ⟨h1, h2⟩ : Co a b /\ CoL l m := by simpa [CoL] using h
      obtain ⟨hl, hp⟩ := ihl m h2
      refine ⟨by simp [hl], fun j x y hx hy => ?_⟩
      cases j with
      | zero => simp at hx hy; subst hx; subst hy; exact iha _ h1
      | succ j => simp at hx hy; exact hp j x y hx hy
  all_goals
    intros
    rename_i h
    have e := h
    simp only [Co] at e
    first | (subst e; exact .refl _) | (rw [<- e]; exact .refl _)
theorem CoL.spec {l m : List AV} (h : CoL l m) : l.length = m.length /\ ∀ (j : Nat) a b, l[j]? = some a -> m[j]? = some b -> Ent a b := by
  induction l generalizing m with
  | nil =>
    cases m with
    | nil => exact ⟨rfl, fun j a b h => by simp at h⟩
    | cons => simp [CoL] at h
  | cons a l ih =>
    cases m with
    | nil => simp [CoL] at h
    | cons b m =>
      obtain ⟨h1, h2⟩ : Co a b /\ CoL l m := by simpa [CoL] using h
      obtain ⟨hl, hp⟩ := ih h2
      refine ⟨by simp [hl], fun j x y hx hy => ?_⟩
      cases j with
      | zero => simp at hx hy; subst hx; subst hy; exact Co.ent _ _ h1
      | succ j => simp at hx hy; exact hp j x y hx hy
def CoB : Blk -> Blk -> Prop
  | .box cs, .box ds => CoL cs ds
  | .arr v, .arr u => v = u
  | .mat a, .mat b => a = b
  | _, _ => False
def CoO (k : Option Blk) (φ : AV -> AV) (k' : Blk) : Prop :=
  match k with
  | some k => CoB (k.tr φ) k'
  | none => False
def keeps (h' : Heap) (r : Nat) : Bool := (h'.look r).isSome
def WEnv (φ : AV -> AV) (e : Env) : Env -> Prop
  | [] => True
  | (t, v') :: e' => Co ((e.get t).tr φ) v' /\ WEnv φ e e'
def WHeap (φ : AV -> AV) (h : Heap) (n' : Nat) : Heap -> Prop
  | [] => True
  | (r, k') :: h' => (CoO (h.look r) φ k' /\ r < n') /\ WHeap φ h n' h'
def Weak (e : Env) (h : Heap) (e' : Env) (h' : Heap) (n' : Nat) : Prop := WEnv (frzA (keeps h') h.look) e e' /\ WHeap (frzA (keeps h') h.look) h n' h'
def WeakTo (n0 : Nat) (J : Env -> Heap -> Nat -> Prop) (e : Env) (h : Heap) (_n : Nat) : Prop := ∃ e' h' n', (n0 <= n' /\ Weak e h e' h' n') /\ J e' h' n'
end Go.Vc
namespace Go.Vc
open Go.RowKit
def mvN (q k r : Nat) : Nat := bif r == q then k else r
def mvA (q k : Nat) : AV -> AV
  | .sl r => .sl (mvN q k r)
  | .mt r => .mt (mvN q k r)
  | .mr r i => .mr (mvN q k r) i
  | .bx r o => .bx (mvN q k r) o
  | .pa r i => .pa (mvN q k r) i
  | .pm r i j => .pm (mvN q k r) i j
  | .po r i => .po (mvN q k r) i
  | v => v
def mvH (q k : Nat) : Heap -> Heap
  | [] => []
  | (r, b) :: h => (mvN q k r, b.tr (mvA q k)) :: mvH q k h
theorem mvN_q (q k : Nat) : mvN q k q = k := by simp [mvN]
theorem mvN_o {q k r : Nat} (h : r ≠ q) : mvN q k r = r := by
  have : (r == q) = false := by simpa using h
  unfold mvN; rw [this]; rfl
theorem mvH_look {q k : Nat} (hkq : k ≠ q) : ∀ {h : Heap}, h.look k = none -> ∀ r, (mvH q k h).look r = if r = k then (h.look q).map (Blk.tr (mvA q k)) else if r = q then none else (h.look r).map (Blk.tr (mvA q k))
  | [], _, r => by simp [mvH, Heap.look]
  | (i, b) :: h, hk, r => by
    have hik : i ≠ k := fun e => by subst e; simp [Heap.look] at hk
    have hk2 : Heap.look h k = none := by simpa [Heap.look, hik] using hk
    have ih := mvH_look hkq hk2 r
    simp only [mvH, Heap.look]
    by_cases hiq : i = q
    · subst hiq
      rw [mvN_q]
      by_cases hr : k = r
      · subst hr; simp
      · have hr' : ¬ r = k := fun e => hr e.symm
        rw [if_neg hr, ih, if_neg hr', if_neg hr']
        by_cases hrq : r = i
        · rw [if_pos hrq, if_pos hrq]
        · rw [if_neg hrq, if_neg hrq, if_neg (fun e => hrq e.symm)]
    · rw [mvN_o hiq]
      by_cases hr : i = r
      · subst hr
        rw [if_pos rfl, if_neg hik, if_neg hiq, if_pos rfl]; rfl
      · rw [if_neg hr, if_neg hr, if_neg hiq, ih]
section
variable {own : Nat -> Prop} {S S' : Store} {ρ ρ' : Rho} {H H' : HF} {w w' : World}
theorem BlkRel.moves {q p : Nat} {k : Blk} {φ : AV -> AV} (h : BlkRel S ρ H w q k) (hV : ∀ x cv, V S ρ H x cv -> V S ρ' H' (x.tr φ) cv)
    (hb : ∀ j, ρ'.blk p j = ρ.blk q j) (hc : ρ'.cap p = ρ.cap q) (hrc : ∀ i, ρ'.rcap p i = ρ.rcap q i) : BlkRel S ρ' H' w p (k.tr φ) := by
  cases k with
  | box cs =>
    obtain ⟨c, g1, g2, g3⟩ := h
    refine ⟨c, by rw [hb]; exact g1, by rw [AV.trL_eq]; simpa using g2, fun j y u hy hu => ?_⟩
    rw [AV.trL_eq, List.getElem?_map] at hy
    obtain ⟨y0, hy0, rfl⟩ := Option.map_eq_some_iff.1 hy
    exact hV _ _ (g3 j y0 u hy0 hu)
  | arr u =>
    obtain ⟨xs, m, c, g1, g2, g3, g4, g5, g6⟩ := h
    exact ⟨xs, m, c, g1, fun h0 => by rw [hc] at h0; rw [hb]; exact g2 h0, by rw [hc]; exact g3, by rw [hc]; exact g4, g5, g6⟩
  | mat xss =>
    obtain ⟨c, g1, g2, g3, g4⟩ := h
    refine ⟨c, fun h0 => by rw [hc] at h0; rw [hb]; exact g1 h0, by rw [hc]; exact g2, by rw [hc]; exact g3, fun i row hi => ⟨?_, fun hne => ?_⟩⟩
    · obtain ⟨u, hu, a, a1, a2, a3⟩ := (g4 i row hi).1
      exact ⟨u, hu, a, by rw [hrc]; exact a1, by rw [hrc]; exact a2, by rw [hrc, hb]; exact a3⟩
    · rw [hrc] at hne ⊢
      obtain ⟨d, hd, hr⟩ := (g4 i row hi).2 hne
      rw [hb]
      exact ⟨d, hd, hr⟩
theorem Sat.mv {x : Cx} {e : Env} {h : Heap} {n : Nat} {a : Act} {w : World} (hs : Sat x e h n a w) {q k : Nat} (hq0 : x.n0 <= q) (hk0 : x.n0 <= k) (hkn : k < n) (hkq : k ≠ q) {b : Blk} (hb : h.look q = some b) (hk : h.look k = none) :
    Sat x (trE (mvA q k) e) (mvH q k h) n a w := by
  obtain ⟨S, ρ, s1, s2, s3, sf, s4, s5, s6, s7, s8, s9⟩ := hs
  let ρ' : Rho := ⟨fun r j => if r = k then ρ.blk q j else ρ.blk r j, fun r => if r = k then ρ.cap q else ρ.cap r, fun r j => if r = k then ρ.rcap q j else ρ.rcap r j⟩
  have look := fun r => mvH_look hkq hk r
  generalize hh2 : Heap.look (mvH q k h) = H2 at look
  have key : ∀ r b', h.look r = some b' -> H2 (mvN q k r) = some (b'.tr (mvA q k)) /\ (∀ j, ρ'.blk (mvN q k r) j = ρ.blk r j) /\ ρ'.cap (mvN q k r) = ρ.cap r /\ ∀ j, ρ'.rcap (mvN q k r) j = ρ.rcap r j := fun r b' hr => by
    by_cases e1 : r = q
    · subst e1
      rw [mvN_q, look, if_pos rfl, hr]
      exact ⟨rfl, fun j => by simp [ρ'], by simp [ρ'], fun j => by simp [ρ']⟩
    · have e2 : r ≠ k := fun e => by subst e; rw [hk] at hr; cases hr
      rw [mvN_o e1, look, if_neg e2, if_neg e1, hr]
      exact ⟨rfl, fun j => by simp [ρ', e2], by simp [ρ', e2], fun j => by simp [ρ', e2]⟩
  have hφ : ∀ a1 cv1, AV.isRef a1 = true -> V S ρ h.look a1 cv1 -> V S ρ' H2 (mvA q k a1) cv1 := fun a1 cv1 hra hv => by
    cases hv with
    | pure _ _ h => exact (ref_not_pure hra h).elim
    | vec => cases hra
    | agg => cases hra
    | tup => cases hra
    | fn => cases hra
    | sl r v xs m a0 hr he ha =>
      obtain ⟨h1, h2, h3, _⟩ := key r _ hr
      have := V.sl (S := S) (ρ := ρ') (H := H2) (mvN q k r) v xs m a0 h1 he (by rw [h2, h3]; exact ha)
      rwa [h3] at this
    | mt r xss a0 hr ha =>
      obtain ⟨h1, h2, h3, _⟩ := key r _ hr
      have := V.mt (S := S) (ρ := ρ') (H := H2) (mvN q k r) xss a0 h1 (by rw [h2, h3]; exact ha)
      rwa [h3] at this
    | mr r i xss row cv hr h0 hi hh =>
      obtain ⟨h1, h2, h3, h4⟩ := key r _ hr
      obtain ⟨a0, g1, g2, g3⟩ := hh
      exact .mr _ i xss row _ h1 h0 hi ⟨a0, by rw [h4]; exact g1, by rw [h4]; exact g2, by rw [h4, h2]; exact g3⟩
    | bx r off cs hr ho =>
      obtain ⟨h1, h2, h3, h4⟩ := key r _ hr
      have := V.bx (S := S) (ρ := ρ') (H := H2) (mvN q k r) off _ h1 (by rw [AV.trL_eq]; simpa using ho)
      rwa [h2] at this
    | pa r i v xs m hr he h0 hi =>
      obtain ⟨h1, h2, h3, h4⟩ := key r _ hr
      have := V.pa (S := S) (ρ := ρ') (H := H2) (mvN q k r) i v xs m h1 he h0 hi
      rwa [h2] at this
    | pm r i j xss row hr h0 hi hj0 hj =>
      obtain ⟨h1, h2, h3, h4⟩ := key r _ hr
      have := V.pm (S := S) (ρ := ρ') (H := H2) (mvN q k r) i j xss row h1 h0 hi hj0 hj
      rwa [h2] at this
    | po r i xss hr h0 hi =>
      obtain ⟨h1, h2, h3, h4⟩ := key r _ hr
      have := V.po (S := S) (ρ := ρ') (H := H2) (mvN q k r) i xss h1 h0 hi
      rwa [h2] at this
  have hV : ∀ u cv, V S ρ h.look u cv -> V S ρ' H2 (u.tr (mvA q k)) cv := fun u cv hu => hu.tr (fun _ _ h => h) hφ
  have src : ∀ r b', H2 r = some b' -> ∃ i b0, h.look i = some b0 /\ b' = b0.tr (mvA q k) /\ r = mvN q k i /\ (∀ j, ρ'.blk r j = ρ.blk i j) /\ ρ'.cap r = ρ.cap i /\ ∀ j, ρ'.rcap r j = ρ.rcap i j := fun r b' hr => by
    have hr0 := hr
    rw [look] at hr
    by_cases e1 : r = k
    · rw [if_pos e1] at hr
      obtain ⟨b0, hb0, rfl⟩ := Option.map_eq_some_iff.1 hr
      obtain ⟨_, g2, g3, g4⟩ := key q b0 hb0
      rw [mvN_q, <- e1] at g2 g3 g4
      exact ⟨q, b0, hb0, rfl, by rw [mvN_q]; exact e1, g2, g3, g4⟩
    · rw [if_neg e1] at hr
      by_cases e2 : r = q
      · rw [if_pos e2] at hr; cases hr
      · rw [if_neg e2] at hr
        obtain ⟨b0, hb0, rfl⟩ := Option.map_eq_some_iff.1 hr
        obtain ⟨_, g2, g3, g4⟩ := key r b0 hb0
        rw [mvN_o e2] at g2 g3 g4
        exact ⟨r, b0, hb0, rfl, (mvN_o e2).symm, g2, g3, g4⟩
  have ft : ∀ r j, foot ρ' H2 r j -> ∃ i, foot ρ h.look i j /\ ρ'.blk r j = ρ.blk i j /\ r = mvN q k i /\ h.look i ≠ none := fun r j hf => by
    cases hr : H2 r with
    | none => unfold foot at hf; rw [hr] at hf; exact hf.elim
    | some b' =>
      obtain ⟨i, b0, g1, rfl, g3, g4, g5, g6⟩ := src r b' hr
      refine ⟨i, ?_, g4 j, g3, by rw [g1]; simp⟩
      unfold foot at hf ⊢
      rw [hr] at hf; rw [g1]
      cases b0 with
      | box cs => exact hf
      | arr v =>
        have hf : j = 0 /\ ρ'.cap r ≠ 0 := hf
        rw [g5] at hf; exact hf
      | mat xss =>
        have hf : (j = 0 /\ ρ'.cap r ≠ 0) \/ ∃ i row, j = i + 1 /\ xss[i]? = some row /\ ρ'.rcap r i ≠ 0 := hf
        rw [g5] at hf
        rcases hf with hf | ⟨i2, row, f1, f2, f3⟩
        · exact .inl hf
        · rw [g6] at f3; exact .inr ⟨i2, row, f1, f2, f3⟩
  have inj : ∀ i i', h.look i ≠ none -> h.look i' ≠ none -> mvN q k i = mvN q k i' -> i = i' := fun i i' h1 h2 e => by
    have n1 : i ≠ k := fun e => h1 (by rw [e]; exact hk)
    have n2 : i' ≠ k := fun e => h2 (by rw [e]; exact hk)
    by_cases e1 : i = q
    · by_cases e2 : i' = q
      · omega
      · rw [e1, mvN_q, mvN_o e2] at e; exact (n2 e.symm).elim
    · by_cases e2 : i' = q
      · rw [e2, mvN_q, mvN_o e1] at e; exact (n1 e).elim
      · rw [mvN_o e1, mvN_o e2] at e; exact e
  refine ⟨S, ρ', s1, s2, ⟨s3.stab, s3.amb, fun r b' hr => ?_, fun r j hf => ?_, fun r j r' j' f1 f2 e1 => ?_⟩, fun r hr hne => ?_, fun t => ?_, s5, s6, s7, fun r hr => ?_, s9⟩
  · rw [hh2] at hr ⊢
    obtain ⟨i, b0, g1, rfl, g3, g4, g5, g6⟩ := src r b' hr
    exact (s3.blk i b0 g1).moves hV g4 g5 g6
  · rw [hh2] at hf
    obtain ⟨i, g1, g2, _⟩ := ft r j hf
    rw [g2]; exact s3.owned _ _ g1
  · rw [hh2] at f1 f2
    obtain ⟨i, g1, g2, g3, _⟩ := ft r j f1
    obtain ⟨i', g1', g2', g3', _⟩ := ft r' j' f2
    obtain ⟨c1, c2⟩ := s3.sep _ _ _ _ g1 g1' (by rw [<- g2, <- g2']; exact e1)
    exact ⟨by rw [g3, g3', c1], c2⟩
  · rw [hh2] at hne
    have e1 : r ≠ k := by omega
    have e2 : r ≠ q := by omega
    obtain ⟨f1, f2, f3⟩ := sf r hr (fun e0 => hne (by rw [look, if_neg e1, if_neg e2, e0]; rfl))
    exact ⟨fun j => by simp [ρ', e1, f1], by simp [ρ', e1, f2], fun j => by simp [ρ', e1, f3]⟩
  · rw [hh2, trE_get _ _ _ rfl]; exact hV _ _ (s4 t)
  · rw [hh2] at hr
    by_cases e1 : r = k
    · omega
    · by_cases e2 : r = q
      · rw [e2, look, if_neg (fun e => hkq e.symm), if_pos rfl] at hr; exact (hr rfl).elim
      · rw [look, if_neg e1, if_neg e2] at hr
        exact s8 r (fun e0 => hr (by rw [e0]; rfl))
end
end Go.Vc
namespace Go.Vc
open Go.RowKit
inductive BW : Blk -> Blk -> Prop
  | box (cs ds : List AV) (hl : cs.length = ds.length) (h : ∀ (j : Nat) a b, cs[j]? = some a -> ds[j]? = some b -> Ent a b) : BW (.box cs) (.box ds)
  | same (k : Blk) : BW k k
section
variable {S : Store} {ρ : Rho} {H H2 : HF} {w : World} {own : Nat -> Prop}
theorem V.weak (h1 : ∀ r k, H r = some k -> ∃ k2, H2 r = some k2 /\ BW k k2) {v : AV} {cv : Value} (h : V S ρ H v cv) : V S ρ H2 v cv := by
  refine h.keep (fun _ _ h => h) (fun a cv hra hv => ?_)
  cases hv with
  | pure _ _ h => exact .pure _ _ h
  | vec => cases hra
  | agg => cases hra
  | tup => cases hra
  | fn => cases hra
  | sl q v xs m a hr he ha => obtain ⟨k2, hk, hb⟩ := h1 _ _ hr; cases hb with | same => exact .sl q v xs m a hk he ha
  | mt q xss a hr ha => obtain ⟨k2, hk, hb⟩ := h1 _ _ hr; cases hb with | same => exact .mt q xss a hk ha
  | mr q i xss row cv hr h0 hi h => obtain ⟨k2, hk, hb⟩ := h1 _ _ hr; cases hb with | same => exact .mr q i xss row cv hk h0 hi h
  | bx q off cs hr ho =>
    obtain ⟨k2, hk, hb⟩ := h1 _ _ hr
    cases hb with
    | same => exact .bx q off cs hk ho
    | box _ ds hl hh => exact .bx q off ds hk (by rw [<- hl]; exact ho)
  | pa q i v xs m hr he h0 hi => obtain ⟨k2, hk, hb⟩ := h1 _ _ hr; cases hb with | same => exact .pa q i v xs m hk he h0 hi
  | pm q i j xss row hr h0 hi hj0 hj => obtain ⟨k2, hk, hb⟩ := h1 _ _ hr; cases hb with | same => exact .pm q i j xss row hk h0 hi hj0 hj
  | po q i xss hr h0 hi => obtain ⟨k2, hk, hb⟩ := h1 _ _ hr; cases hb with | same => exact .po q i xss hk h0 hi
theorem Rel.weak (hrel : Rel own S ρ H w) (h1 : ∀ r k, H r = some k -> ∃ k2, H2 r = some k2 /\ BW k k2) (h2 : ∀ r k2, H2 r = some k2 -> ∃ k, H r = some k /\ BW k k2) : Rel own S ρ H2 w := by
  have ft : ∀ r j, foot ρ H2 r j -> foot ρ H r j := fun r j hf => by
    unfold foot at hf ⊢
    cases hr : H2 r with
    | none => rw [hr] at hf; exact hf.elim
    | some k2 =>
      obtain ⟨k, hk, hb⟩ := h2 r k2 hr
      rw [hr] at hf; rw [hk]
      cases hb with
      | same => exact hf
      | box => exact hf
  refine ⟨hrel.stab, hrel.amb, fun r k2 hr => ?_, fun r j hf => hrel.owned r j (ft r j hf), fun r j r' j' hf hf' e => hrel.sep _ _ _ _ (ft r j hf) (ft r' j' hf') e⟩
  obtain ⟨k, hk, hb⟩ := h2 r k2 hr
  have hbl := hrel.blk r k hk
  cases hb with
  | box cs ds hl hh =>
    obtain ⟨c, g1, g2, g3⟩ := hbl
    refine ⟨c, g1, by rw [g2, hl], fun j y v hy hv => ?_⟩
    have hj : j < cs.length := by rw [hl]; exact (List.getElem?_eq_some_iff.1 hy).1
    exact hh j cs[j] y (by simp [hj]) hy _ _ _ _ ((g3 j cs[j] v (by simp [hj]) hv).weak h1)
  | same =>
    cases k2 with
    | box cs => obtain ⟨c, g1, g2, g3⟩ := hbl; exact ⟨c, g1, g2, fun j y v hy hv => (g3 j y v hy hv).weak h1⟩
    | arr v => exact hbl
    | mat xss => exact hbl
end
theorem WHeap.spec {φ : AV -> AV} {h : Heap} {n' : Nat} : ∀ {h' : Heap}, WHeap φ h n' h' -> ∀ r k', h'.look r = some k' -> (∃ k, h.look r = some k /\ CoB (k.tr φ) k') /\ r < n'
  | [], _, r, k', hk => by cases hk
  | (q, k) :: h', hw, r, k', hk => by
    obtain ⟨⟨h1, h2⟩, h3⟩ := hw
    simp only [Heap.look] at hk
    split at hk
    · rename_i e; subst e; cases hk
      refine ⟨?_, h2⟩
      unfold CoO at h1
      split at h1
      · rename_i k0 hk0; exact ⟨k0, hk0, h1⟩
      · exact h1.elim
    · exact WHeap.spec h3 r k' hk
theorem CoB.bw {k k' : Blk} (h : CoB k k') : BW k k' := by
  cases k <;> cases k' <;> simp only [CoB] at h <;> first | exact h.elim | skip
  · obtain ⟨h1, h2⟩ := h.spec; exact .box _ _ h1 h2
  · subst h; exact .same _
  · subst h; exact .same _
theorem WEnv.spec {S : Store} {ρ : Rho} {H : HF} {φ : AV -> AV} {e : Env} (tmps : Nat -> Value) (hE : ∀ t, V S ρ H ((e.get t).tr φ) (tmps t)) : ∀ {e' : Env}, WEnv φ e e' -> ∀ t, V S ρ H (e'.get t) (tmps t)
  | [], _, t => .pure _ _ (.undef _)
  | (q, v') :: e', hw, t => by
    obtain ⟨h1, h2⟩ := hw
    simp only [Env.get]
    split
    · rename_i ht; subst ht; exact Co.ent _ _ h1 _ _ _ _ (hE q)
    · exact WEnv.spec tmps hE h2 t
theorem Sat.weak {x : Cx} {e : Env} {h : Heap} {n : Nat} {a : Act} {w : World} (hs : Sat x e h n a w) {e' : Env} {h' : Heap} {n' : Nat} (hn0 : x.n0 <= n') (hw : Weak e h e' h' n') : Sat x e' h' n' a w := by
  obtain ⟨S, ρ, s1, s2, s3, sf, s4, s5, s6, s7, s8, s9⟩ := hs
  obtain ⟨S', f1, f2, f3, f4⟩ := freeze s3 (keeps h')
  have hh := WHeap.spec hw.2
  have b1 : ∀ r k, frzH (keeps h') h.look r = some k -> ∃ k2, h'.look r = some k2 /\ BW k k2 := fun r k hr => by
    obtain ⟨hk, k0, hk0, rfl⟩ := frzH_some hr
    obtain ⟨k2, hk2⟩ := Option.isSome_iff_exists.1 hk
    obtain ⟨⟨k1, hk1, hc⟩, _⟩ := hh r k2 hk2
    rw [hk0] at hk1; cases hk1
    exact ⟨k2, hk2, hc.bw⟩
  have b2 : ∀ r k2, h'.look r = some k2 -> ∃ k, frzH (keeps h') h.look r = some k /\ BW k k2 := fun r k2 hr => by
    obtain ⟨⟨k1, hk1, hc⟩, _⟩ := hh r k2 hr
    exact ⟨_, by rw [frzH_keep (by simp [keeps, hr]), hk1]; rfl, hc.bw⟩
  refine ⟨S', ρ, fun b c hb => f1 b c (s1 b c hb), fun b h1 h2 => ?_, f3.weak b1 b2, sf.look (fun r hr => ?_), fun t => ?_, s5, s6, s7, fun r hr => ?_, hn0⟩
  · by_cases hS : S b = none
    · exact f2 b hS h2
    · exact s2 b h1 hS
  · obtain ⟨k2, hk2⟩ := Option.ne_none_iff_exists'.1 hr
    obtain ⟨⟨k1, hk1, _⟩, _⟩ := hh r k2 hk2
    rw [hk1]; simp
  · exact WEnv.spec (fun t => a.tmps.getD t Go.undef) (fun t => (f4 _ _ (s4 t)).weak b1) hw.1 t
  · obtain ⟨k2, hk2⟩ := Option.ne_none_iff_exists'.1 hr
    exact (hh r k2 hk2).2
abbrev AQ := Exit -> Env -> Heap -> Nat -> Prop
def thenA (K : Env -> Heap -> Nat -> Prop) (Q : AQ) : AQ
  | .normal, e, h, n => K e h n
  | ex, e, h, n => Q ex e h n
def blockA (id : Nat) (Q : AQ) : AQ
  | .exit i, e, h, n => if i = id then Q .normal e h n else Q (.exit i) e h n
  | ex, e, h, n => Q ex e h n
def condA (v : AV) (A B : Prop) : Prop :=
  match v with
  | .bool b => partB b A B
  | .tt => A
  | .ff => B
  | _ => False
def loopA (n0 : Nat) (B : AQ -> Env -> Heap -> Nat -> Prop) (Q : AQ) (e : Env) (h : Heap) (n : Nat) : Prop :=
  ∃ (I : Nat -> Env -> Heap -> Nat -> Prop) (m0 : Nat), WeakTo n0 (I m0) e h n /\ ∀ m e h n, I m e h n -> B (thenA (WeakTo n0 fun e h n => ∃ m', m' < m /\ I m' e h n) Q) e h n
def frzL : List AV -> List Nat -> List Nat
  | [], k => k
  | .sl r :: l, k => r :: frzL l k
  | .mt r :: l, k => r :: frzL l k
  | _ :: l, k => frzL l k
def frzR : List Nat -> Env -> List Nat
  | [], _ => []
  | d :: l, e => match e.get d with
    | .sl r => r :: frzR l e
    | .mt r => r :: frzR l e
    | .agg cs => frzL cs (frzR l e)
    | _ => frzR l e
def keepR : List Nat -> Nat -> Bool
  | [], _ => true
  | q :: l, r => bif q == r then false else keepR l r
def frzE (φ : AV -> AV) : Env -> Env
  | [] => []
  | (t, v) :: e => (t, v.tr φ) :: frzE φ e
def frzP (keep : Nat -> Bool) (φ : AV -> AV) : Heap -> Heap
  | [] => []
  | (q, k) :: h => bif keep q then (q, k.tr φ) :: frzP keep φ h else frzP keep φ h
def emptyB : Blk -> Bool
  | .arr (.ints []) | .arr (.rows []) | .arr (.strs []) | .arr (.bools []) | .arr (.pairs []) | .arr (.bytes []) | .mat [] => true
  | _ => false
def upS (v : AV) (A : Prop) : Prop := match v with | .nils => A | _ => False
def upfS (v : AV) (k : Option Blk) (off : Nat) (A : Nat -> List AV -> Nat -> Prop) : Prop :=
  match v, k with
  | .bx q o, some (.box cs) => upS (cs.getD (o + off) .undef) (A q cs (o + off))
  | _, _ => False
def rowS (v : AV) (k : Option Blk) (A : Nat -> List Int -> Prop) : Prop :=
  match v, k with
  | .mr q i, some (.mat xss) => A q (ix xss i)
  | _, _ => False
def renS (v : AV) (k : Option Blk) (A : Nat -> AV -> Prop) : Prop :=
  match v, k with
  | .sl q, some (.arr v) => A q v
  | _, _ => False
def renBS (v : AV) (k : Option Blk) (A : Nat -> Nat -> List AV -> Prop) : Prop :=
  match v, k with
  | .bx q o, some (.box cs) => A q o cs
  | _, _ => False
def cutE : List Nat -> Env -> Env
  | [], _ => []
  | t :: l, e => (t, e.get t) :: cutE l e
def stopA (A : Env -> Heap -> Nat -> Prop) (e : Env) (h : Heap) (n : Nat) : Prop := A e h n
def belowP (k : Nat) : Heap -> Prop
  | [] => True
  | (q, _) :: h => q < k /\ belowP k h
theorem belowP_look {k : Nat} : ∀ {h : Heap}, belowP k h -> ∀ r, h.look r ≠ none -> r < k
  | [], _, r, hr => (hr rfl).elim
  | (q, b) :: h, hu, r, hr => by
    simp only [Heap.look] at hr
    split at hr
    · rename_i e; subst e; exact hu.1
    · exact belowP_look hu.2 r hr
def regA (n0 : Nat) : List GOp -> (Env -> Heap -> Nat -> Prop) -> Env -> Heap -> Nat -> Prop
  | [], A, e, h, n => A e h n
  | .fz l :: r, A, e, h, n => regA n0 r A (frzE (frzA (keepR (frzR l e)) h.look) e) (frzP (keepR (frzR l e)) (frzA (keepR (frzR l e)) h.look) h) n
  | .up d k :: r, A, e, h, n => emptyB k = true /\ upS (e.get d) (regA n0 r A ((d, k.ref n) :: e) ((n, k) :: h) (n + 1))
  | .upf d off k :: r, A, e, h, n => emptyB k = true /\ upfS (e.get d) (blkOf h (e.get d)) off (fun q cs j => regA n0 r A e ((n, k) :: hset h q (.box (cs.set j (k.ref n)))) (n + 1))
  | .row d :: r, A, e, h, n => rowS (e.get d) (blkOf h (e.get d)) (fun q row => regA n0 r A ((d, .sl n) :: trE (purN [q] []) e) ((n, .arr (.ints row)) :: trH (purN [q] []) [q] h) (n + 1))
  | .post :: r, A, e, h, n => regA n0 r A e h n
  | .cut l :: r, A, e, h, n => stopA (regA n0 r A) (cutE l e) h n
  | .skip :: r, A, e, h, n => regA n0 r A e h (n + 1)
  | .drop l k :: r, A, e, h, n => (n0 <= k /\ belowP k (frzP (keepR l) (frzA (keepR l) h.look) h)) /\ regA n0 r A (frzE (frzA (keepR l) h.look) e) (frzP (keepR l) (frzA (keepR l) h.look) h) k
  | .ren d k :: r, A, e, h, n => renS (e.get d) (blkOf h (e.get d)) (fun q v => (n0 <= q /\ n0 <= k /\ k < n /\ (k == q) = false) /\ regA n0 r A ((d, .sl k) :: trE (purN [q, k] []) e) ((k, .arr v) :: trH (purN [q, k] []) [q, k] h) n)
  | .renb d k :: r, A, e, h, n => renBS (e.get d) (blkOf h (e.get d)) (fun q o cs => (n0 <= q /\ n0 <= k /\ k < n /\ (k == q) = false) /\ regA n0 r A ((d, .bx k o) :: trE (purN [q, k] []) e) ((k, (Blk.box cs).tr (purN [q, k] [])) :: trH (purN [q, k] []) [q, k] h) n)
  | .frb d :: r, A, e, h, n => renBS (e.get d) (blkOf h (e.get d)) (fun q o cs => cs.all AV.pure1 = true /\ regA n0 r A ((d, .iptr (cs.drop o)) :: frzE (frzA (keepR [q]) h.look) e) (frzP (keepR [q]) (frzA (keepR [q]) h.look) h) n)
  | .mv q k :: r, A, e, h, n => ((n0 <= q /\ n0 <= k /\ k < n /\ (k == q) = false) /\ (h.look q).isSome = true /\ (h.look k).isNone = true) /\ regA n0 r A (trE (mvA q k) e) (mvH q k h) n
def preG : List GOp -> List GOp
  | [] => []
  | .post :: _ => []
  | .fz l :: r => .fz l :: preG r
  | .up d k :: r => .up d k :: preG r
  | .upf d o k :: r => .upf d o k :: preG r
  | .row d :: r => .row d :: preG r
  | .cut l :: r => .cut l :: preG r
  | .skip :: r => .skip :: preG r
  | .drop l k :: r => .drop l k :: preG r
  | .ren d k :: r => .ren d k :: preG r
  | .renb d k :: r => .renb d k :: preG r
  | .frb d :: r => .frb d :: preG r
  | .mv q k :: r => .mv q k :: preG r
def postG : List GOp -> List GOp
  | [] => []
  | .post :: r => r
  | .fz _ :: r => postG r
  | .up _ _ :: r => postG r
  | .upf _ _ _ :: r => postG r
  | .row _ :: r => postG r
  | .cut _ :: r => postG r
  | .skip :: r => postG r
  | .drop _ _ :: r => postG r
  | .ren _ _ :: r => postG r
  | .renb _ _ :: r => postG r
  | .frb _ :: r => postG r
  | .mv _ _ :: r => postG r
theorem frzE_get (φ : AV -> AV) (e : Env) (t : Tmp) : (frzE φ e).get t = (e.get t).tr φ := by
  induction e with
  | nil => rfl
  | cons x e ih =>
    obtain ⟨q, v⟩ := x
    simp only [frzE, Env.get]
    split
    · rfl
    · exact ih
theorem frzP_look (keep : Nat -> Bool) (φ : AV -> AV) (h : Heap) (q : Nat) : (frzP keep φ h).look q = bif keep q then (h.look q).map (Blk.tr φ) else none := by
  induction h with
  | nil => simp [frzP, Heap.look]
  | cons x h ih =>
    obtain ⟨k, v⟩ := x
    simp only [frzP, Heap.look]
    cases hk : keep k with
    | true =>
      simp only [cond_true, Heap.look]
      split
      · rename_i e; subst e; simp [hk]
      · exact ih
    | false =>
      simp only [cond_false]
      split
      · rename_i e; subst e; rw [ih, hk]; rfl
      · exact ih
theorem Sat.frz {x : Cx} {e : Env} {h : Heap} {n : Nat} {a : Act} {w : World} (hs : Sat x e h n a w) (keep : Nat -> Bool) : Sat x (frzE (frzA keep h.look) e) (frzP keep (frzA keep h.look) h) n a w := by
  obtain ⟨S, ρ, s1, s2, s3, sf, s4, s5, s6, s7, s8, s9⟩ := hs
  obtain ⟨S', f1, f2, f3, f4⟩ := freeze s3 keep
  have eh : (frzP keep (frzA keep h.look) h).look = frzH keep h.look := by funext q; rw [frzP_look]; rfl
  refine ⟨S', ρ, fun b c hb => f1 b c (s1 b c hb), fun b h1 h2 => ?_, by rw [eh]; exact f3, sf.look (fun r hr e0 => hr (by rw [frzP_look, e0]; cases keep r <;> rfl)), fun t => by rw [eh, frzE_get]; exact f4 _ _ (s4 t), s5, s6, s7, fun r hr => s8 r (fun e0 => hr (by rw [frzP_look, e0]; cases keep r <;> rfl)), s9⟩
  by_cases hS : S b = none
  · exact f2 b hS h2
  · exact s2 b h1 hS
theorem rel_empty {own : Nat -> Prop} {S : Store} {ρ : Rho} {H : HF} {w : World} (hrel : Rel own S ρ H w) {n : Nat} {k : Blk} (hn : H n = none) (hk : emptyB k = true) :
    Rel own S (ρ.set n 0 0) (addH [(n, k)] H) w /\ RhoKeep ρ (ρ.set n 0 0) H (addH [(n, k)] H) /\ ∀ a, V S (ρ.set n 0 0) (addH [(n, k)] H) (k.ref n) (.slice a 0 0) := by
  have hkeep := keep_add (ρ := ρ) (k := k) hn 0 0
  have hcap : (ρ.set n 0 0).cap n = 0 := by simp [Rho.set]
  have hbl : BlkRel S (ρ.set n 0 0) (addH [(n, k)] H) w n k := by
    unfold emptyB at hk
    split at hk <;> first | cases hk | skip
    · exact ⟨[], 1, #[], rfl, fun h0 => (h0 hcap).elim, by rw [hcap]; simp, by simp, ⟨fun x hx => (by cases hx), fun i x j y hx => by simp at hx⟩⟩
    · exact ⟨[], 1, #[], rfl, fun h0 => (h0 hcap).elim, by rw [hcap]; simp, by simp, ⟨fun x hx => (by cases hx), fun i x j y hx => by simp at hx⟩⟩
    · exact ⟨[], 1, #[], rfl, fun h0 => (h0 hcap).elim, by rw [hcap]; simp, by simp, ⟨fun x hx => (by cases hx), fun i x j y hx => by simp at hx⟩⟩
    · exact ⟨[], 1, #[], rfl, fun h0 => (h0 hcap).elim, by rw [hcap]; simp, by simp, ⟨fun x hx => (by cases hx), fun i x j y hx => by simp at hx⟩⟩
    · exact ⟨[], 2, #[], rfl, fun h0 => (h0 hcap).elim, by rw [hcap]; simp, by simp, ⟨fun x hx => (by cases hx), fun i x j y hx => by simp at hx⟩⟩
    · exact ⟨[], 1, #[], rfl, fun h0 => (h0 hcap).elim, by rw [hcap]; simp, by simp, ⟨fun x hx => (by cases hx), fun i x j y hx => by simp at hx⟩⟩
    · exact ⟨#[], fun h0 => (h0 hcap).elim, by rw [hcap]; simp, by simp, fun i row hi => by simp at hi⟩
  have nof : ∀ j, ¬ foot (ρ.set n 0 0) (addH [(n, k)] H) n j := fun j hf => by
    unfold foot at hf
    rw [addH_self] at hf
    unfold emptyB at hk
    split at hk <;> first | cases hk | skip
    all_goals first | exact hf.2 hcap | skip
    rcases hf with hf | ⟨i, row, _, hi, _⟩
    · exact hf.2 hcap
    · simp at hi
  have fo : ∀ q j, foot (ρ.set n 0 0) (addH [(n, k)] H) q j -> q ≠ n /\ foot ρ H q j := fun q j hf => by
    by_cases e' : q = n
    · subst e'; exact (nof j hf).elim
    · refine ⟨e', ?_⟩
      unfold foot at hf ⊢; rw [addH_other _ _ e'] at hf; simpa [Rho.set, e'] using hf
  refine ⟨⟨hrel.stab, hrel.amb, fun q k' hq => ?_, fun q j hf => ?_, fun q j q' j' h1 h2 e' => ?_⟩, hkeep, fun a => ?_⟩
  · by_cases e' : q = n
    · subst e'; rw [addH_self] at hq; cases hq; exact hbl
    · rw [addH_other _ _ e'] at hq
      exact (hrel.blk q k' hq).ext (fun _ _ h => h) hkeep hq (fun _ _ h => h)
  · obtain ⟨n1, f1⟩ := fo q j hf
    have := hrel.owned q j f1
    simpa [Rho.set, n1] using this
  · obtain ⟨n1, f1⟩ := fo q j h1
    obtain ⟨n2, f2⟩ := fo q' j' h2
    exact hrel.sep q j q' j' f1 f2 (by simpa [Rho.set, n1, n2] using e')
  · have sl0 : ∀ v m, v.elems = some ([], m) -> k = .arr v -> V S (ρ.set n 0 0) (addH [(n, k)] H) (k.ref n) (.slice a 0 0) := fun v m he hkv => by
      subst hkv
      have := V.sl (S := S) (ρ := ρ.set n 0 0) n v [] m a (addH_self n _ H) he (fun h0 => (h0 hcap).elim)
      rw [hcap] at this; exact this
    unfold emptyB at hk
    split at hk <;> first | cases hk | skip
    · exact sl0 _ _ rfl rfl
    · exact sl0 _ _ rfl rfl
    · exact sl0 _ _ rfl rfl
    · exact sl0 _ _ rfl rfl
    · exact sl0 _ _ rfl rfl
    · exact sl0 _ _ rfl rfl
    · have := V.mt (S := S) (ρ := ρ.set n 0 0) n [] a (addH_self n (.mat []) H) (fun h0 => (h0 hcap).elim)
      rw [hcap] at this; exact this
theorem cutE_get {S : Store} {ρ : Rho} {H : HF} {e : Env} {t : Nat} {cv : Value} (h : V S ρ H (e.get t) cv) : ∀ l : List Nat, V S ρ H ((cutE l e).get t) cv
  | [] => .pure _ _ (.undef _)
  | q :: l => by
    simp only [cutE, Env.get]
    split
    · rename_i e'; subst e'; exact h
    · exact cutE_get h l
theorem regA_ok {n0 : Nat} {x : Cx} {A : Env -> Heap -> Nat -> Prop} {a : Act} {w : World} (hx : x.n0 <= n0) : ∀ {fz : List GOp} {e : Env} {h : Heap} {n : Nat}, regA n0 fz A e h n -> Sat x e h n a w -> ∃ e' h' n', A e' h' n' /\ Sat x e' h' n' a w
  | [], e, h, n, hr, hs => ⟨e, h, n, hr, hs⟩
  | .fz l :: r, e, h, n, hr, hs => regA_ok hx (fz := r) hr (hs.frz _)
  | .post :: r, e, h, n, hr, hs => regA_ok hx (fz := r) hr hs
  | .drop l k :: r, e, h, n, hr, hs => by
    obtain ⟨⟨h1, h2⟩, hr⟩ := hr
    refine regA_ok hx (fz := r) hr ?_
    obtain ⟨S, ρ, s1, s2, s3, sf, s4, s5, s6, s7, s8, s9⟩ := hs.frz (keepR l)
    exact ⟨S, ρ, s1, s2, s3, sf, s4, s5, s6, s7, belowP_look h2, Nat.le_trans hx h1⟩
  | .skip :: r, e, h, n, hr, hs => by
    refine regA_ok hx (fz := r) hr ?_
    obtain ⟨S, ρ, s1, s2, s3, sf, s4, s5, s6, s7, s8, s9⟩ := hs
    exact ⟨S, ρ, s1, s2, s3, sf, s4, s5, s6, s7, fun r hr => Nat.lt_succ_of_lt (s8 r hr), Nat.le_succ_of_le s9⟩
  | .cut l :: r, e, h, n, hr, hs => by
    refine regA_ok hx (fz := r) hr ?_
    obtain ⟨S, ρ, s1, s2, s3, sf, s4, s5, s6, s7, s8, s9⟩ := hs
    exact ⟨S, ρ, s1, s2, s3, sf, fun t => cutE_get (s4 t) l, s5, s6, s7, s8, s9⟩
  | .up d k :: r, e, h, n, hr, hs => by
    obtain ⟨hk, hr⟩ := hr
    unfold upS at hr
    split at hr <;> first | exact hr.elim | skip
    rename_i hd
    refine regA_ok hx (fz := r) hr ?_
    obtain ⟨S, ρ, s1, s2, s3, sf, s4, s5, s6, s7, s8, s9⟩ := hs
    have hn : h.look n = none := by
      cases hh : h.look n with
      | none => rfl
      | some k' => have := s8 n (by rw [hh]; simp); omega
    obtain ⟨g1, g2, g3⟩ := rel_empty (k := k) s3 hn hk
    rw [addH_look] at g1 g2 g3
    have hv := s4 d
    rw [hd] at hv
    obtain ⟨a0, ha0⟩ := hv.nils_inv
    refine ⟨S, ρ.set n 0 0, s1, s2, g1, sf.keep g2 (fun r hr hr' => ?_), (s4.ext (fun _ _ h => h) g2).refine (by rw [ha0]; exact g3 a0), s5, s6, s7, fun r hr => ?_, by omega⟩
    · have : r ≠ n := by omega
      have e1 : Heap.look ((n, k) :: h) r = h.look r := by simp only [Heap.look]; rw [if_neg (fun e => this e.symm)]
      rw [e1] at hr'; exact hr'
    · by_cases e' : r = n
      · omega
      · have e1 : Heap.look ((n, k) :: h) r = h.look r := by simp only [Heap.look]; rw [if_neg (fun e => e' e.symm)]
        rw [e1] at hr
        have := s8 r hr; omega
  | .upf d off k :: r, e, h, n, hr, hs => by
    obtain ⟨hk, hr⟩ := hr
    unfold upfS at hr
    split at hr <;> first | exact hr.elim | skip
    rename_i q o cs hd hb
    unfold upS at hr
    split at hr <;> first | exact hr.elim | skip
    rename_i hnil
    refine regA_ok hx (fz := r) hr ?_
    rw [hd] at hb
    have hb : h.look q = some (.box cs) := hb
    have hj : cs[o + off]? = some .nils := by
      rw [List.getD_eq_getElem?_getD] at hnil
      cases hc : cs[o + off]? with
      | none => rw [hc] at hnil; cases hnil
      | some v => rw [hc] at hnil; simp at hnil; rw [hnil]
    obtain ⟨S, ρ, s1, s2, s3, sf, s4, s5, s6, s7, s8, s9⟩ := hs
    have hqn : q < n := s8 q (by rw [hb]; simp)
    have hn : h.look n = none := by
      cases hh : h.look n with
      | none => rfl
      | some k' => have := s8 n (by rw [hh]; simp); omega
    obtain ⟨g1, g2, g3⟩ := rel_empty (k := k) s3 hn hk
    generalize hh2 : Heap.look ((n, k) :: hset h q (.box (cs.set (o + off) (k.ref n)))) = H2
    have h2q : H2 q = some (.box (cs.set (o + off) (k.ref n))) := by
      rw [<- hh2]; simp only [Heap.look]; rw [if_neg (by omega), hset_self hb]
    have h2o : ∀ r, r ≠ q -> H2 r = addH [(n, k)] h.look r := fun r hr => by
      rw [<- hh2, addH_look]
      simp only [Heap.look, List.cons_append, List.nil_append]
      rw [hset_other hr]
    have hbq : addH [(n, k)] h.look q = some (.box cs) := by rw [addH_other _ _ (by omega)]; exact hb
    have hsh : SameShape (.box cs) (.box (cs.set (o + off) (k.ref n))) := .box _ _ (by simp)
    have sh : ∀ v cv, V S (ρ.set n 0 0) (addH [(n, k)] h.look) v cv -> V S (ρ.set n 0 0) H2 v cv := fun v cv hv => hv.shape hbq h2q h2o hsh
    have g1' : Rel x.own S (ρ.set n 0 0) H2 w := by
      refine ⟨g1.stab, g1.amb, fun r1 kr hrr => ?_, fun r j hf => g1.owned r j (foot_shape hbq h2q h2o hsh hf), fun r j r' j' h1 h2 e' => g1.sep _ _ _ _ (foot_shape hbq h2q h2o hsh h1) (foot_shape hbq h2q h2o hsh h2) e'⟩
      by_cases e' : r1 = q
      · subst e'; rw [h2q] at hrr; cases hrr
        obtain ⟨c, c1, c2, c3⟩ := g1.blk r1 _ hbq
        refine ⟨c, c1, by simpa using c2, fun j y v hy hv => ?_⟩
        have hlt : o + off < cs.length := (List.getElem?_eq_some_iff.1 hj).1
        rw [getElem?_set_list _ _ _ _ hlt] at hy
        split at hy
        · rename_i ej; subst ej; cases hy
          have := c3 _ _ v hj hv
          obtain ⟨a0, ha0⟩ := this.nils_inv
          rw [ha0]; exact sh _ _ (g3 a0)
        · exact sh _ _ (c3 j y v hy hv)
      · rw [h2o r1 e'] at hrr
        have hbl := g1.blk r1 kr hrr
        cases kr with
        | box cs' => obtain ⟨c, c1, c2, c3⟩ := hbl; exact ⟨c, c1, c2, fun j y v hy hv => sh _ _ (c3 j y v hy hv)⟩
        | arr v => exact hbl
        | mat xss => exact hbl
    refine ⟨S, ρ.set n 0 0, s1, s2, by rw [hh2]; exact g1', ?_, fun t => by rw [hh2]; exact sh _ _ ((s4 t).ext (fun _ _ h => h) g2), s5, s6, s7, fun r hr => ?_, by omega⟩
    · rw [hh2]
      have sf2 : RhoFix x.n0 x.ρ0 (ρ.set n 0 0) (addH [(n, k)] h.look) := sf.keep g2 (fun r hr hr' => by rw [addH_other _ _ (by omega)] at hr'; exact hr')
      refine sf2.look (fun r hr => ?_)
      by_cases e2 : r = q
      · subst e2; rw [hbq]; simp
      · rw [h2o r e2] at hr; exact hr
    · rw [hh2] at hr
      by_cases e' : r = n
      · omega
      · by_cases e2 : r = q
        · omega
        · rw [h2o r e2, addH_other _ _ e'] at hr
          have := s8 r hr; omega
  | .row d :: r, e, h, n, hr, hs => by
    unfold regA rowS at hr
    split at hr <;> first | exact hr.elim | skip
    rename_i q i xss hd hb
    refine regA_ok hx (fz := r) hr ?_
    rw [hd] at hb
    have hb : h.look q = some (.mat xss) := hb
    obtain ⟨S, ρ, s1, s2, s3, sf, s4, s5, s6, s7, s8, s9⟩ := hs
    have hqn : q < n := s8 q (by rw [hb]; simp)
    have hn : h.look n = none := by
      cases hh : h.look n with
      | none => rfl
      | some k' => have := s8 n (by rw [hh]; simp); omega
    have hv := s4 d
    rw [hd] at hv
    obtain ⟨xss1, row, hb1, h0, hi, a0, hl, hcv, ha0⟩ := hv.mr_inv
    rw [hb] at hb1; cases hb1
    have hix : ix xss i = row := by have := ix_get (List.getElem?_eq_some_iff.1 hi).1; rw [hi] at this; exact (Option.some.inj this).symm
    rw [hix]
    obtain ⟨c, _, _, _, hrows⟩ := s3.blk q _ hb
    generalize hh2 : Heap.look ((n, .arr (.ints row)) :: trH (purN [q] []) [q] h) = H2
    have h2n : H2 n = some (.arr (.ints row)) := by rw [<- hh2]; simp [Heap.look]
    have h2o : ∀ r, ¬ (r = n \/ r = q) -> H2 r = (h.look r).map (Blk.tr (purN [q] [])) := fun r hr => by
      rw [not_or] at hr
      rw [<- hh2]; simp only [Heap.look]; rw [if_neg (fun e => hr.1 e.symm), trH_look]
      have : memN [q] r = false := by
        cases hmm : memN [q] r with
        | false => rfl
        | true => have := memN_mem.1 hmm; simp at this; exact (hr.2 this).elim
      rw [this]; rfl
    have h2q : ∀ r, (r = n \/ r = q) -> r ≠ n -> H2 r = none := fun r hr hne => by
      rcases hr with rfl | rfl
      · exact (hne rfl).elim
      · rw [<- hh2]; simp only [Heap.look]; rw [if_neg (by omega), trH_look]
        have : memN [r] r = true := memN_mem.2 (by simp)
        rw [this]; rfl
    let ρ' : Rho := ⟨fun r j => if r = n then ρ.blk q (i.toNat + 1) else ρ.blk r j, fun r => if r = n then ρ.rcap q i.toNat else ρ.cap r, fun r j => if r = n then 0 else ρ.rcap r j⟩
    have nof : ∀ j, ¬ foot ρ h.look n j := fun j hf => by unfold foot at hf; rw [hn] at hf; exact hf
    have fn : ∀ j, foot ρ' H2 n j -> j = 0 /\ ρ.rcap q i.toNat ≠ 0 := fun j hf => by
      unfold foot at hf; rw [h2n] at hf
      exact ⟨hf.1, by have := hf.2; simpa [ρ'] using this⟩
    obtain ⟨g1, g2⟩ := Rel.turn (H' := H2) (ρ' := ρ') (w' := w) (φ := purN [q] []) (D := fun z => z = n \/ z = q) (k' := .arr (.ints row)) s3 (r := n) (.inl rfl) h2n h2o h2q
      (fun a1 cv1 hra hv1 => purN_ref hra hv1 (fun n1 _ _ => by
        have hq1 : a1.rbase ≠ q := fun e => n1 (by simp [e])
        obtain ⟨k, hk⟩ := hv1.rbase hra
        have hn1 : a1.rbase ≠ n := fun e => by rw [e, hn] at hk; cases hk
        refine hv1.ref_shape hra (fun k hk => ?_) (fun j => by simp [ρ', hn1]) (by simp [ρ', hn1]) (fun j => by simp [ρ', hn1])
        exact ⟨_, by rw [h2o _ (by rw [not_or]; exact ⟨hn1, hq1⟩), hk]; rfl, same_tr (s3.blk _ _ hk) _⟩))
      (fun r j hr => by rw [not_or] at hr; simp [ρ', hr.1]) (fun r hr => by rw [not_or] at hr; simp [ρ', hr.1]) (fun r j hr => by rw [not_or] at hr; simp [ρ', hr.1])
      (fun b c hb _ => hb) s3.stab
      (fun _ => by
        obtain ⟨_, hd'⟩ := hrows _ _ hi
        by_cases hc0 : ρ.rcap q i.toNat = 0
        · have hrow0 : row = [] := List.length_eq_zero_iff.1 (by omega)
          subst hrow0
          exact ⟨[], 1, #[], rfl, fun h => (h (by simp [ρ', hc0])).elim, by simp [ρ', hc0], by simp, ⟨fun x hx => by simp at hx, fun i x j y hx => by simp at hx⟩⟩
        · obtain ⟨dd, hd1, hd2, hd3⟩ := hd' hc0
          refine ⟨row.map .i, 1, dd, rfl, fun _ => by simp only [ρ', if_true]; exact hd1, by simp [ρ', hd2], by simpa [ρ'] using hl, ⟨fun y hy => ?_, fun q' y j z hy hz => ?_⟩⟩
          · obtain ⟨n', _, rfl⟩ := List.mem_map.1 hy; rfl
          · rw [List.getElem?_map] at hy
            obtain ⟨n', hn', rfl⟩ := Option.map_eq_some_iff.1 hy
            cases j with
            | zero => simp [AV.cells] at hz; subst hz; exact ⟨_, by simpa using hd3 _ _ hn', .int _ _⟩
            | succ j => simp [AV.cells] at hz)
      (fun j hf => by
        obtain ⟨rfl, hc0⟩ := fn j hf
        obtain ⟨o1, o2⟩ := s3.owned q _ (foot_row hb hi hc0)
        simp only [ρ', if_true]
        exact ⟨o1, o2, fun r j hr hf' e' => hr (.inr (s3.sep _ _ _ _ hf' (foot_row hb hi hc0) e').1)⟩)
      (fun j j' h1 h2 _ => by rw [(fn j h1).1, (fn j' h2).1])
    refine ⟨S, ρ', s1, s2, by rw [hh2]; exact g1, fun r hr hr' => ?_, EnvRel.refine (fun t => by rw [trE_get _ _ _ rfl, hh2]; exact g2 _ _ (s4 t)) ?_, s5, s6, s7, fun r hr => ?_, by omega⟩
    · rw [hh2] at hr'
      have hrn : r ≠ n := by omega
      have hrq : r ≠ q := fun e => by rw [h2q r (.inr e) hrn] at hr'; exact hr' rfl
      obtain ⟨f1, f2, f3⟩ := sf r hr (fun e0 => hr' (by rw [h2o r (by rw [not_or]; exact ⟨hrn, hrq⟩), e0]; rfl))
      exact ⟨fun j => by simp [ρ', hrn, f1], by simp [ρ', hrn, f2], fun j => by simp [ρ', hrn, f3]⟩
    · rw [hh2, hcv]
      have := V.sl (S := S) (ρ := ρ') (H := H2) n (.ints row) (row.map .i) 1 a0 h2n rfl (by simpa [ρ'] using ha0)
      simpa [ρ'] using this
    · rw [hh2] at hr
      by_cases e' : r = n
      · omega
      · by_cases e2 : r = q
        · omega
        · rw [h2o r (by rw [not_or]; exact ⟨e', e2⟩)] at hr
          have := s8 r (fun e0 => hr (by rw [e0]; rfl)); omega
  | .ren d k :: r, e, h, n, hr, hs => by
    unfold regA renS at hr
    split at hr <;> first | exact hr.elim | skip
    rename_i q v hd hb
    obtain ⟨⟨hq0, hk0, hkn, hkq⟩, hr⟩ := hr
    have hkq : k ≠ q := by simpa using hkq
    refine regA_ok hx (fz := r) hr ?_
    rw [hd] at hb
    have hb : h.look q = some (.arr v) := hb
    obtain ⟨S, ρ, s1, s2, s3, sf, s4, s5, s6, s7, s8, s9⟩ := hs
    have hv := s4 d
    rw [hd] at hv
    obtain ⟨v1, xs, m, a0, hcv, hb1, he, ha0⟩ := hv.sl_inv
    rw [hb] at hb1; cases hb1
    generalize hh2 : Heap.look ((k, .arr v) :: trH (purN [q, k] []) [q, k] h) = H2
    have h2n : H2 k = some (.arr v) := by rw [<- hh2]; simp [Heap.look]
    have h2o : ∀ r, ¬ (r = k \/ r = q) -> H2 r = (h.look r).map (Blk.tr (purN [q, k] [])) := fun r hr => by
      rw [not_or] at hr
      rw [<- hh2]; simp only [Heap.look]; rw [if_neg (fun e => hr.1 e.symm), trH_look]
      have : memN [q, k] r = false := by
        cases hmm : memN [q, k] r with
        | false => rfl
        | true =>
          have := memN_mem.1 hmm
          simp at this
          rcases this with h | h
          · exact (hr.2 h).elim
          · exact (hr.1 h).elim
      rw [this]; rfl
    have h2q : ∀ r, (r = k \/ r = q) -> r ≠ k -> H2 r = none := fun r hr hne => by
      rcases hr with h1 | h1
      · exact (hne h1).elim
      · rw [h1, <- hh2]; simp only [Heap.look]; rw [if_neg hkq, trH_look]
        have : memN [q, k] q = true := memN_mem.2 (by simp)
        rw [this]; rfl
    let ρ' : Rho := ⟨fun r j => if r = k then ρ.blk q j else ρ.blk r j, fun r => if r = k then ρ.cap q else ρ.cap r, fun r j => if r = k then ρ.rcap q j else ρ.rcap r j⟩
    have fn : ∀ j, foot ρ' H2 k j -> j = 0 /\ ρ.cap q ≠ 0 := fun j hf => by
      unfold foot at hf; rw [h2n] at hf
      exact ⟨hf.1, by have := hf.2; simpa [ρ'] using this⟩
    obtain ⟨xs2, m2, c, he2, hc, hsz, hcap, harr⟩ := s3.blk q _ hb
    rw [he] at he2; simp only [Option.some.injEq, Prod.mk.injEq] at he2; obtain ⟨rfl, rfl⟩ := he2
    obtain ⟨g1, g2⟩ := Rel.turn (H' := H2) (ρ' := ρ') (w' := w) (φ := purN [q, k] []) (D := fun z => z = k \/ z = q) (k' := .arr v) s3 (r := k) (.inl rfl) h2n h2o h2q
      (fun a1 cv1 hra hv1 => purN_ref hra hv1 (fun n1 _ _ => by
        have hq1 : a1.rbase ≠ q := fun e => n1 (by simp [e])
        have hn1 : a1.rbase ≠ k := fun e => n1 (by simp [e])
        refine hv1.ref_shape hra (fun k' hk => ?_) (fun j => by simp [ρ', hn1]) (by simp [ρ', hn1]) (fun j => by simp [ρ', hn1])
        exact ⟨_, by rw [h2o _ (by rw [not_or]; exact ⟨hn1, hq1⟩), hk]; rfl, same_tr (s3.blk _ _ hk) _⟩))
      (fun r j hr => by rw [not_or] at hr; simp [ρ', hr.1]) (fun r hr => by rw [not_or] at hr; simp [ρ', hr.1]) (fun r j hr => by rw [not_or] at hr; simp [ρ', hr.1])
      (fun b c hb _ => hb) s3.stab
      (fun _ => ⟨xs, m, c, he, fun h => by simp only [ρ', if_true] at h ⊢; exact hc h, by simpa [ρ'] using hsz, by simpa [ρ'] using hcap, harr⟩)
      (fun j hf => by
        obtain ⟨rfl, hc0⟩ := fn j hf
        obtain ⟨o1, o2⟩ := s3.owned q _ (foot_arr hb hc0)
        simp only [ρ', if_true]
        exact ⟨o1, o2, fun r j hr hf' e' => hr (.inr (s3.sep _ _ _ _ hf' (foot_arr hb hc0) e').1)⟩)
      (fun j j' h1 h2 _ => by rw [(fn j h1).1, (fn j' h2).1])
    refine ⟨S, ρ', s1, s2, by rw [hh2]; exact g1, fun r hr hr' => ?_, EnvRel.refine (fun t => by rw [trE_get _ _ _ rfl, hh2]; exact g2 _ _ (s4 t)) ?_, s5, s6, s7, fun r hr => ?_, s9⟩
    · rw [hh2] at hr'
      have hrn : r ≠ k := by omega
      have hrq : r ≠ q := fun e => by rw [h2q r (.inr e) hrn] at hr'; exact hr' rfl
      obtain ⟨f1, f2, f3⟩ := sf r hr (fun e0 => hr' (by rw [h2o r (by rw [not_or]; exact ⟨hrn, hrq⟩), e0]; rfl))
      exact ⟨fun j => by simp [ρ', hrn, f1], by simp [ρ', hrn, f2], fun j => by simp [ρ', hrn, f3]⟩
    · rw [hh2, hcv]
      have := V.sl (S := S) (ρ := ρ') (H := H2) k v xs m a0 h2n he (by simpa [ρ'] using ha0)
      simpa [ρ'] using this
    · rw [hh2] at hr
      by_cases e' : r = k
      · omega
      · by_cases e2 : r = q
        · rw [h2q r (.inr e2) e'] at hr; exact (hr rfl).elim
        · rw [h2o r (by rw [not_or]; exact ⟨e', e2⟩)] at hr
          exact s8 r (fun e0 => hr (by rw [e0]; rfl))
  | .mv q k :: r, e, h, n, hr, hs => by
    unfold regA at hr
    obtain ⟨⟨⟨hq0, hk0, hkn, hkq⟩, hb, hk⟩, hr⟩ := hr
    obtain ⟨b, hb⟩ := Option.isSome_iff_exists.1 hb
    exact regA_ok hx (fz := r) hr (hs.mv (by omega) (by omega) hkn (by simpa using hkq) hb (by simpa using hk))
  | .frb d :: r, e, h, n, hr, hs => by
    unfold regA renBS at hr
    split at hr <;> first | exact hr.elim | skip
    rename_i q oo cs hd hb
    obtain ⟨hcs, hr⟩ := hr
    refine regA_ok hx (fz := r) hr ?_
    rw [hd] at hb
    have hb : h.look q = some (.box cs) := hb
    obtain ⟨S, ρ, s1, s2, s3, sf, s4, s5, s6, s7, s8, s9⟩ := hs
    have hv := s4 d
    rw [hd] at hv
    obtain ⟨cs1, hcv, hb1, hoff⟩ := hv.bx_inv
    rw [hb] at hb1; cases hb1
    obtain ⟨S', f1, f2, f3, f4, f5⟩ := freeze2 s3 (keepR [q])
    have eh : (frzP (keepR [q]) (frzA (keepR [q]) h.look) h).look = frzH (keepR [q]) h.look := by funext q'; rw [frzP_look]; rfl
    obtain ⟨c, hc, hsz, hcell⟩ := s3.blk q _ hb
    have hfoot : foot ρ h.look q 0 := by unfold foot; rw [hb]
    have hSq : S' (ρ.blk q 0) = some c := f5 q 0 c (by simp [keepR]) hfoot hc
    have key : ∀ j x, (cs.drop oo)[j]? = some x -> c[oo + j]? = some (c.getD (oo + j) Go.undef) /\ Sees S' x (c.getD (oo + j) Go.undef) := fun j x hx => by
      rw [List.getElem?_drop] at hx
      have hlt : oo + j < c.size := by rw [hsz]; exact (List.getElem?_eq_some_iff.1 hx).1
      have hu : c[oo + j]? = some (c.getD (oo + j) Go.undef) := by rw [Array.getD_eq_getD_getElem?, Array.getElem?_eq_getElem hlt]; rfl
      exact ⟨hu, ((hcell _ _ _ hx hu).sees1 (List.all_eq_true.1 hcs x (List.mem_of_getElem? hx))).mono f1⟩
    have hsee : Sees S' (.iptr (cs.drop oo)) (.pointer (some ⟨ρ.blk q 0, oo, none⟩)) := .iptr _ (ρ.blk q 0) oo c (fun j => c.getD (oo + j) Go.undef) hSq (fun j x hx => (key j x hx).1) (fun j x hx => (key j x hx).2)
    have hE : EnvRel S' ρ (frzH (keepR [q]) h.look) (frzE (frzA (keepR [q]) h.look) e) a := fun t => by rw [frzE_get]; exact f4 _ _ (s4 t)
    refine ⟨S', ρ, fun b c hb => f1 b c (s1 b c hb), fun b h1 h2 => ?_, by rw [eh]; exact f3, sf.look (fun r hr e0 => hr (by rw [frzP_look, e0]; cases keepR [q] r <;> rfl)), by rw [eh]; exact hE.refine (by rw [hcv]; exact .pure _ _ hsee), s5, s6, s7, fun r hr => s8 r (fun e0 => hr (by rw [frzP_look, e0]; cases keepR [q] r <;> rfl)), s9⟩
    by_cases hS : S b = none
    · exact f2 b hS h2
    · exact s2 b h1 hS
  | .renb d k :: r, e, h, n, hr, hs => by
    unfold regA renBS at hr
    split at hr <;> first | exact hr.elim | skip
    rename_i q oo cs hd hb
    obtain ⟨⟨hq0, hk0, hkn, hkq⟩, hr⟩ := hr
    have hkq : k ≠ q := by simpa using hkq
    refine regA_ok hx (fz := r) hr ?_
    rw [hd] at hb
    have hb : h.look q = some (.box cs) := hb
    obtain ⟨S, ρ, s1, s2, s3, sf, s4, s5, s6, s7, s8, s9⟩ := hs
    have hv := s4 d
    rw [hd] at hv
    obtain ⟨cs1, hcv, hb1, hoff⟩ := hv.bx_inv
    rw [hb] at hb1; cases hb1
    generalize hh2 : Heap.look ((k, (Blk.box cs).tr (purN [q, k] [])) :: trH (purN [q, k] []) [q, k] h) = H2
    have h2n : H2 k = some ((Blk.box cs).tr (purN [q, k] [])) := by rw [<- hh2]; simp [Heap.look]
    have h2o : ∀ r, ¬ (r = k \/ r = q) -> H2 r = (h.look r).map (Blk.tr (purN [q, k] [])) := fun r hr => by
      rw [not_or] at hr
      rw [<- hh2]; simp only [Heap.look]; rw [if_neg (fun e => hr.1 e.symm), trH_look]
      have : memN [q, k] r = false := by
        cases hmm : memN [q, k] r with
        | false => rfl
        | true =>
          have := memN_mem.1 hmm
          simp at this
          rcases this with h | h
          · exact (hr.2 h).elim
          · exact (hr.1 h).elim
      rw [this]; rfl
    have h2q : ∀ r, (r = k \/ r = q) -> r ≠ k -> H2 r = none := fun r hr hne => by
      rcases hr with h1 | h1
      · exact (hne h1).elim
      · rw [h1, <- hh2]; simp only [Heap.look]; rw [if_neg hkq, trH_look]
        have : memN [q, k] q = true := memN_mem.2 (by simp)
        rw [this]; rfl
    let ρ' : Rho := ⟨fun r j => if r = k then ρ.blk q j else ρ.blk r j, fun r => if r = k then ρ.cap q else ρ.cap r, fun r j => if r = k then ρ.rcap q j else ρ.rcap r j⟩
    have fn : ∀ j, foot ρ' H2 k j -> j = 0 := fun j hf => by
      unfold foot at hf; rw [h2n] at hf; exact hf
    obtain ⟨c, hc, hsz, hcs⟩ := s3.blk q _ hb
    obtain ⟨g1, g2⟩ := Rel.turn (H' := H2) (ρ' := ρ') (w' := w) (φ := purN [q, k] []) (D := fun z => z = k \/ z = q) (k' := (Blk.box cs).tr (purN [q, k] [])) s3 (r := k) (.inl rfl) h2n h2o h2q
      (fun a1 cv1 hra hv1 => purN_ref hra hv1 (fun n1 _ _ => by
        have hq1 : a1.rbase ≠ q := fun e => n1 (by simp [e])
        have hn1 : a1.rbase ≠ k := fun e => n1 (by simp [e])
        refine hv1.ref_shape hra (fun k' hk => ?_) (fun j => by simp [ρ', hn1]) (by simp [ρ', hn1]) (fun j => by simp [ρ', hn1])
        exact ⟨_, by rw [h2o _ (by rw [not_or]; exact ⟨hn1, hq1⟩), hk]; rfl, same_tr (s3.blk _ _ hk) _⟩))
      (fun r j hr => by rw [not_or] at hr; simp [ρ', hr.1]) (fun r hr => by rw [not_or] at hr; simp [ρ', hr.1]) (fun r j hr => by rw [not_or] at hr; simp [ρ', hr.1])
      (fun b c hb _ => hb) s3.stab
      (fun hV => by
        refine ⟨c, by simp only [ρ', if_true]; exact hc, ?_, fun j x v hx hv => ?_⟩
        · rw [hsz, AV.trL_eq, List.length_map]
        · rw [AV.trL_eq, List.getElem?_map] at hx
          obtain ⟨y, hy, rfl⟩ := Option.map_eq_some_iff.1 hx
          exact hV _ _ (hcs j y v hy hv))
      (fun j hf => by
        obtain rfl := fn j hf
        obtain ⟨o1, o2⟩ := s3.owned q _ (foot_box hb)
        simp only [ρ', if_true]
        exact ⟨o1, o2, fun r j hr hf' e' => hr (.inr (s3.sep _ _ _ _ hf' (foot_box hb) e').1)⟩)
      (fun j j' h1 h2 _ => by rw [fn j h1, fn j' h2])
    refine ⟨S, ρ', s1, s2, by rw [hh2]; exact g1, fun r hr hr' => ?_, EnvRel.refine (fun t => by rw [trE_get _ _ _ rfl, hh2]; exact g2 _ _ (s4 t)) ?_, s5, s6, s7, fun r hr => ?_, s9⟩
    · rw [hh2] at hr'
      have hrn : r ≠ k := by omega
      have hrq : r ≠ q := fun e => by rw [h2q r (.inr e) hrn] at hr'; exact hr' rfl
      obtain ⟨f1, f2, f3⟩ := sf r hr (fun e0 => hr' (by rw [h2o r (by rw [not_or]; exact ⟨hrn, hrq⟩), e0]; rfl))
      exact ⟨fun j => by simp [ρ', hrn, f1], by simp [ρ', hrn, f2], fun j => by simp [ρ', hrn, f3]⟩
    · rw [hh2, hcv]
      have := V.bx (S := S) (ρ := ρ') (H := H2) k oo (AV.trL (purN [q, k] []) cs) h2n (by rw [AV.trL_eq, List.length_map]; exact hoff)
      simpa [ρ'] using this
    · rw [hh2] at hr
      by_cases e' : r = k
      · omega
      · by_cases e2 : r = q
        · rw [h2q r (.inr e2) e'] at hr; exact (hr rfl).elim
        · rw [h2o r (by rw [not_or]; exact ⟨e', e2⟩)] at hr
          exact s8 r (fun e0 => hr (by rw [e0]; rfl))
def opsR (P : Program) (C : Table) (hint : Hint) (lt : List Nat) (l : List Oper) (e : Env) (h : Heap) (n : Nat) (K : Env -> Heap -> Nat -> Prop) : Prop :=
  match lt with
  | [] => opsA P C hint l l e h n K
  | [c] => opsA P C hint l (l.take c) e h n (fuseP P hint (l.drop c) K)
  | [c, d, k] => opsA P C hint l (l.take d) e h n (opsL P C hint l ((l.take d).drop c) k (l.drop d) K)
  | c :: d :: f1 :: f2 :: r => opsA P C hint l (l.take d) e h n (opsF P C hint l (flagsOf (f1 :: f2 :: r)) ((l.take d).drop c) (l.drop d) K)
  | c :: r => opsA P C hint l (l.take (r.headD 0)) e h n (fun e h n => lateP P C hint e ((l.take (r.headD 0)).drop c) /\ opsA P C hint l (l.drop (r.headD 0)) e h n K)
def isU : List GOp -> Bool
  | .mv 0 0 :: _ => true
  | _ => false
def UserP (P : Program) (hint : Hint) (c : Code) (ops : List Oper) (Q : AQ) (e : Env) (h : Heap) (n : Nat) : Prop :=
  ∀ (x : Cx) (a : Act) (w : World), x.n0 <= hint.n0 -> dstOK x.k ops = true -> Sat x e h n a w -> c.wp P (fun ex a w => ∃ e h n, Q ex e h n /\ Sat x e h n a w) a w
def codeA (P : Program) (C : Table) (hint : Hint) : Code -> AQ -> Env -> Heap -> Nat -> Prop
  | .skip, Q, e, h, n => Q .normal e h n
  | .region i ops d, Q, e, h, n => if isU (hint.fz i) = true then UserP P hint (.region i ops d) ops.toList Q e h n else regA hint.n0 (preG (hint.fz i)) (fun e h n => opsR P C hint (hint.lt i) (permO (hint.ord i) ops.toList) e h n (fun e h n => regA hint.n0 (postG (hint.fz i)) (Q .normal) e h n)) e h n
  | .seq a b, Q, e, h, n => codeA P C hint a (thenA (codeA P C hint b Q) Q) e h n
  | .cond c a b, Q, e, h, n => condA (opnd e c) (codeA P C hint a Q e h n) (codeA P C hint b Q e h n)
  | .block id b, Q, e, h, n => codeA P C hint b (blockA id Q) e h n
  | .loop b, Q, e, h, n => loopA hint.n0 (codeA P C hint b) Q e h n
  | .exit i, Q, e, h, n => Q (.exit i) e h n
  | .ret, Q, e, h, n => Q .ret e h n
  | _, _, _, _, _ => False
def headGo (hint : Hint) : List Nat -> List Oper -> Nat
  | _, [] => 0
  | seen, o :: l => bif isM hint o || (match o.dst with | some d => seen.contains d | none => false) then 0 else headGo hint ((match o.dst with | some d => [d] | none => []) ++ tmpsOf o ++ seen) l + 1
def headLen (hint : Hint) (l : List Oper) : Nat := headGo hint [] l
def ordOK (hint : Hint) (d : Bool) (lt p : List Nat) (l : List Oper) : Bool :=
  match lt with
  | [c] => !d && p.isEmpty && fuseOK (l.drop c)
  | [c, q, k] => d && (p.isEmpty || permOK p l) && lateOK2 hint (permO p l) c q k
  | c :: q :: f1 :: f2 :: r => d && (p.isEmpty || permOK p l) && lateOK3 hint (permO p l) c q (flagsOf (f1 :: f2 :: r))
  | c :: r => d && (p.isEmpty || permOK p l) && lateOK hint (permO p l) c (r.headD 0)
  | [] => bif p.isEmpty then (!d || drawOK hint l (headLen hint l)) else d && permOK p l && drawOK hint (permO p l) (headLen hint (permO p l))
def codeOK (hint : Hint) (k : Nat) : Code -> Bool
  | .region i ops d => bif isU (hint.fz i) then dstOK k ops.toList else dstOK k (permO (hint.ord i) ops.toList) && ordOK hint d (hint.lt i) (hint.ord i) ops.toList
  | .seq a b => codeOK hint k a && codeOK hint k b
  | .cond _ a b => codeOK hint k a && codeOK hint k b
  | .block _ b => codeOK hint k b
  | .loop b => codeOK hint k b
  | _ => true
section
variable {P : Program} {C : Table} {hint : Hint} {x : Cx}
def liftQ (x : Cx) (Q : AQ) : Exit -> Act -> World -> Prop := fun ex a w => ∃ e h n, Q ex e h n /\ Sat x e h n a w
theorem code_ok (hT : TabOK P C) (hx0 : x.n0 <= hint.n0) (hm : P.follows .mixedOrders = true) : ∀ (c : Code) (Q : AQ) (e : Env) (h : Heap) (n : Nat) (a : Act) (w : World), codeOK hint x.k c = true -> codeA P C hint c Q e h n -> Sat x e h n a w ->
    c.wp P (liftQ x Q) a w
  | .skip, Q, e, h, n, a, w, _, hc, hs => wp_skip ⟨e, h, n, hc, hs⟩
  | .region id ⟨ops⟩ d, Q, e0, h0, n0, a, w, hk, hc0, hs0 => by
    unfold codeOK at hk
    unfold codeA at hc0
    cases hu : isU (hint.fz id) with
    | true =>
      rw [hu] at hk hc0
      exact hc0 x a w hx0 hk hs0
    | false =>
    rw [hu] at hk hc0
    simp only [cond_false, Bool.and_eq_true] at hk
    simp only [Bool.false_eq_true, if_false] at hc0
    have hK : ∀ e h n a w, regA hint.n0 (postG (hint.fz id)) (Q .normal) e h n -> Sat x e h n a w -> liftQ x Q .normal a w := fun e h n a w h1 h2 => by
      obtain ⟨e', h', n', h3, h4⟩ := regA_ok hx0 h1 h2
      exact ⟨e', h', n', h3, h4⟩
    have hc1 : regA hint.n0 (preG (hint.fz id)) (fun e h n => opsR P C hint (hint.lt id) (permO (hint.ord id) ops) e h n (fun e h n => regA hint.n0 (postG (hint.fz id)) (Q .normal) e h n)) e0 h0 n0 := hc0
    obtain ⟨e, h, n, hc, hs⟩ := regA_ok hx0 hc1 hs0
    obtain ⟨hk1, hk2⟩ := hk
    unfold ordOK at hk2
    cases hlt : hint.lt id with
    | cons c r =>
      rw [hlt] at hk2 hc
      cases r with
      | nil =>
        simp only [Bool.and_eq_true, Bool.not_eq_true'] at hk2
        obtain ⟨⟨hd1, hperm⟩, hchk⟩ := hk2
        subst hd1
        have ho : hint.ord id = [] := by simpa using hperm
        rw [ho] at hk1 hc
        have hc : opsA P C hint ops (ops.take c) e h n (fuseP P hint (ops.drop c) (fun e h n => regA hint.n0 (postG (hint.fz id)) (Q .normal) e h n)) := hc
        have hk1 : dstOK x.k ops = true := hk1
        have hk2 : dstOK x.k (ops.take c) = true := List.all_eq_true.2 (fun o ho => List.all_eq_true.1 hk1 o (List.mem_of_mem_take ho))
        have hk3 : dstOK x.k (ops.drop c) = true := List.all_eq_true.2 (fun o ho => List.all_eq_true.1 hk1 o (List.mem_of_mem_drop ho))
        refine wp_region ?_
        have := wpOps_eq_wpList (P := P) (Q := liftQ x Q) (ops := ops.toArray) ops 0 (by simp)
        rw [show (List.range ops.toArray.size) = List.range' 0 ops.length by simp [List.range_eq_range']]
        rw [this]
        have key : wpList P ops.toArray (liftQ x Q) (ops.take c ++ ops.drop c) a w := wpList_append _ _ _ _ (opsA_seq hT hx0 (Q := thenQ (wpList P ops.toArray (liftQ x Q) (ops.drop c)) (liftQ x Q)) (fun e h n a w h1 h2 => fuseP_ok hx0 hchk hk3 hK h1 h2) (ops.take c) e h n a w hk2 hc hs)
        rwa [List.take_append_drop] at key
      | cons d0 r0 =>
      have three : r0 = [] \/ (∃ k, r0 = [k]) \/ ∃ k k2 r2, r0 = k :: k2 :: r2 := by
        match r0 with
        | [] => exact .inl rfl
        | [k] => exact .inr (.inl ⟨k, rfl⟩)
        | k :: k2 :: r2 => exact .inr (.inr ⟨k, k2, r2, rfl⟩)
      rcases three with rfl | ⟨k, rfl⟩ | ⟨k, k2, r2, rfl⟩
      · simp only [Bool.and_eq_true, Bool.or_eq_true] at hk2
        obtain ⟨⟨hd1, hperm⟩, hchk⟩ := hk2
        subst hd1
        cases hord : hint.ord id with
        | cons p0 p =>
          rw [hord] at hk1 hchk hperm hc
          have hperm : permOK (p0 :: p) ops = true := by simpa using hperm
          exact draw_late_perm (c := c) (hd := d0) hT hx0 hm (permOK_of hperm (by simp)) hchk hk1 hK hc hs
        | nil =>
          rw [hord] at hk1 hchk hc
          exact wp_region_any hm (draw_late (c := c) (hd := d0) hT hx0 hchk hk1 hK hc hs)
      · simp only [Bool.and_eq_true, Bool.or_eq_true] at hk2
        obtain ⟨⟨hd1, hperm⟩, hchk⟩ := hk2
        subst hd1
        cases hord : hint.ord id with
        | cons p0 p =>
          rw [hord] at hk1 hchk hperm hc
          have hperm : permOK (p0 :: p) ops = true := by simpa using hperm
          exact draw_late2_perm (c := c) (hd := d0) (k := k) hT hx0 hm (permOK_of hperm (by simp)) hchk hk1 hK hc hs
        | nil =>
          rw [hord] at hk1 hchk hc
          exact wp_region_any hm (draw_late2 (c := c) (hd := d0) (k := k) hT hx0 hchk hk1 hK hc hs)
      · simp only [Bool.and_eq_true, Bool.or_eq_true] at hk2
        obtain ⟨⟨hd1, hperm⟩, hchk⟩ := hk2
        subst hd1
        cases hord : hint.ord id with
        | cons p0 p =>
          rw [hord] at hk1 hchk hperm hc
          have hperm : permOK (p0 :: p) ops = true := by simpa using hperm
          exact draw_late3_perm (c := c) (hd := d0) (fs := flagsOf (k :: k2 :: r2)) hT hx0 hm (permOK_of hperm (by simp)) hchk hk1 hK hc hs
        | nil =>
          rw [hord] at hk1 hchk hc
          exact wp_region_any hm (draw_late3 (c := c) (hd := d0) (fs := flagsOf (k :: k2 :: r2)) hT hx0 hchk hk1 hK hc hs)
    | nil =>
    rw [hlt] at hk2 hc
    have hc : opsA P C hint (permO (hint.ord id) ops) (permO (hint.ord id) ops) e h n (fun e h n => regA hint.n0 (postG (hint.fz id)) (Q .normal) e h n) := hc
    cases hord : hint.ord id with
    | cons p0 p =>
      rw [hord] at hk1 hk2 hc
      simp only [List.isEmpty_cons, cond_false, Bool.and_eq_true] at hk2
      obtain ⟨⟨hd1, hperm⟩, hchk⟩ := hk2
      subst hd1
      exact draw_perm hT hx0 hm (permOK_of hperm (by simp)) hchk hk1 hK hc hs
    | nil =>
    rw [hord] at hk1 hk2 hc
    simp only [List.isEmpty_nil, cond_true] at hk2
    cases d with
    | true =>
      have hk3 : drawOK hint ops (headLen hint ops) = true := by simpa using hk2
      exact draw_ok hT hx0 hm hk3 hk1 hK hc hs
    | false =>
      refine wp_region ?_
      have := wpOps_eq_wpList (P := P) (Q := liftQ x Q) (ops := ops.toArray) ops 0 (by simp)
      rw [show (List.range ops.toArray.size) = List.range' 0 ops.length by simp [List.range_eq_range']]
      rw [this]
      exact opsA_seq hT hx0 hK ops e h n a w hk1 hc hs
  | .seq c d, Q, e, h, n, a, w, hk, hc, hs => by
    simp only [codeOK, Bool.and_eq_true] at hk
    refine wp_seq (wp_mono (code_ok hT hx0 hm c _ e h n a w hk.1 hc hs) ?_)
    rintro ex a' w' ⟨e', h', n', hq, hs'⟩
    cases ex with
    | normal => exact code_ok hT hx0 hm d Q e' h' n' a' w' hk.2 hq hs'
    | exit i => exact ⟨e', h', n', hq, hs'⟩
    | goto l => exact ⟨e', h', n', hq, hs'⟩
    | ret => exact ⟨e', h', n', hq, hs'⟩
    | panic ch => exact ⟨e', h', n', hq, hs'⟩
    | outgrown => exact ⟨e', h', n', hq, hs'⟩
  | .cond c t f, Q, e, h, n, a, w, hk, hc, hs => by
    simp only [codeOK, Bool.and_eq_true] at hk
    have hc : condA (opnd e c) (codeA P C hint t Q e h n) (codeA P C hint f Q e h n) := hc
    have hv : ∃ S ρ, V S ρ h.look (opnd e c) (a.eval c) := by obtain ⟨S, ρ, _, _, _, _, hE, _⟩ := hs; exact ⟨S, ρ, hE.opnd c⟩
    obtain ⟨S, ρ, hv⟩ := hv
    unfold condA at hc
    split at hc
    · rename_i b hb
      rw [hb] at hv
      exact wp_cond_split hv.bool_inv (fun hb => code_ok hT hx0 hm t Q e h n a w hk.1 (hc.1 hb) hs) (fun hb => code_ok hT hx0 hm f Q e h n a w hk.2 (hc.2 hb) hs)
    · rename_i hb; rw [hb] at hv; exact wp_cond_true hv.tt_inv (code_ok hT hx0 hm t Q e h n a w hk.1 hc hs)
    · rename_i hb; rw [hb] at hv; exact wp_cond_false hv.ff_inv (code_ok hT hx0 hm f Q e h n a w hk.2 hc hs)
    · exact hc.elim
  | .block id b, Q, e, h, n, a, w, hk, hc, hs => by
    refine wp_block (wp_mono (code_ok hT hx0 hm b _ e h n a w hk hc hs) ?_)
    rintro ex a' w' ⟨e', h', n', hq, hs'⟩
    cases ex with
    | exit i =>
      simp only [blockA] at hq
      simp only [Exit.inBlock]
      split
      · rename_i hi; rw [if_pos hi] at hq; exact ⟨e', h', n', hq, hs'⟩
      · rename_i hi; rw [if_neg hi] at hq; exact ⟨e', h', n', hq, hs'⟩
    | normal => exact ⟨e', h', n', hq, hs'⟩
    | goto l => exact ⟨e', h', n', hq, hs'⟩
    | ret => exact ⟨e', h', n', hq, hs'⟩
    | panic ch => exact ⟨e', h', n', hq, hs'⟩
    | outgrown => exact ⟨e', h', n', hq, hs'⟩
  | .loop b, Q, e, h, n, a, w, hk, hc, hs => by
    obtain ⟨I, m0, ⟨e0, h0, n0, ⟨hwn, hw⟩, hI⟩, hround⟩ : loopA hint.n0 (codeA P C hint b) Q e h n := hc
    refine wp_loop_ghost (fun m a w => ∃ e h n, I m e h n /\ Sat x e h n a w) m0 ⟨e0, h0, n0, hI, hs.weak (by omega) hw⟩ ?_
    rintro m a w ⟨e1, h1, n1, hI1, hs1⟩
    refine wp_mono (code_ok hT hx0 hm b _ e1 h1 n1 a w hk (hround m e1 h1 n1 hI1) hs1) ?_
    rintro ex a' w' ⟨e', h', n', hq, hs'⟩
    cases ex with
    | normal =>
      obtain ⟨e2, h2, n2, ⟨hwn2, hw2⟩, m', hm', hI2⟩ := hq
      exact ⟨m', hm', e2, h2, n2, hI2, hs'.weak (by omega) hw2⟩
    | exit i => exact ⟨e', h', n', hq, hs'⟩
    | goto l => exact ⟨e', h', n', hq, hs'⟩
    | ret => exact ⟨e', h', n', hq, hs'⟩
    | panic ch => exact ⟨e', h', n', hq, hs'⟩
    | outgrown => exact ⟨e', h', n', hq, hs'⟩
  | .exit i, Q, e, h, n, a, w, _, hc, hs => wp_exit ⟨e, h, n, hc, hs⟩
  | .ret, Q, e, h, n, a, w, _, hc, hs => wp_ret ⟨e, h, n, hc, hs⟩
  | .rangeFunc .., _, _, _, _, _, _, _, hc, _ => hc.elim
  | .scope _, _, _, _, _, _, _, _, hc, _ => hc.elim
  | .label _, _, _, _, _, _, _, _, hc, _ => hc.elim
  | .goto _, _, _, _, _, _, _, _, hc, _ => hc.elim
  | .refuse _, _, _, _, _, _, _, _, hc, _ => hc.elim
end
end Go.Vc
