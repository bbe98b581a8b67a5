/- An abstract run of the model's code, with proofs that it is sound: whatever order a region draws, whatever capacity an append draws. Conditions: none. Part three. -/
import Derived.Test.YtibomnplkclkmaaVcB
import Derived.Deep.LoopGhost
import Derived.Carry
import Derived.ChangeSlices
import Derived.Deep.Matrix
import Derived.Lib.SmallJoins
set_option linter.unusedSimpArgs false
set_option linter.unusedVariables false
namespace Go.Vc
open Go.RowKit

/-! ### Operations of a head that may come up behind the first write -/
/-- What an operation gives hangs on its operands' values alone. -/
def lateKind (hint : Hint) (o : Oper) : Bool := o.guard.isNone && (match o.op with
  | .move _ | .assign _ | .extract _ _ => true
  | .slice _ _ _ _ none => true
  | .binOp op _ _ y _ => !isNilc op y
  | .buildSlice _ _ ⟨_⟩ => !hint (o.dst.getD 0) && !hint.mat (o.dst.getD 0)
  | _ => false)
/-- Operations of the tail of a region with late ones. -/
def tailKind (o : Oper) : Bool := o.guard.isNone && (match o.op with
  | .store _ _ _ => true
  | .call ⟨.builtin .append, ⟨[_, _]⟩, ⟨[_, _]⟩⟩ => true
  | .move _ | .assign _ | .extract _ _ => true
  | _ => false)

section
variable {P : Program} {C : Table} {hint : Hint}
theorem late_eval {o : Oper} (hk : lateKind hint o = true) (e : Env) (h : Heap) (n : Nat) : evalH P C hint o e h n = ⟨(evalH P C hint o e [] 0).pre, (evalH P C hint o e [] 0).val, [], 0⟩ := by
  obtain ⟨dst, op, t, pos, af, gd⟩ := o
  simp only [lateKind, Bool.and_eq_true] at hk
  obtain ⟨_, hk⟩ := hk
  split at hk
  · rename_i _ x; rfl
  · rename_i _ x; rfl
  · rename_i _ x k; rfl
  · rfl
  · rfl
  · rename_i _ t2 len ps
    simp only [Bool.and_eq_true, Bool.not_eq_true'] at hk
    simp only [evalH, hk.1, hk.2, selR, cond_false]
    cases hp : (ps.map fun p => opnd e p.2).all AV.pureB with
    | true =>
      simp only [cond_true, buildR, newL, cond_false]
      split <;> rfl
    | false => rfl
  · cases hk
theorem opnd_congr {e e' : Env} {y : Operand} (h : ∀ t, y = .tmp t → e.get t = e'.get t) : opnd e y = opnd e' y := by
  cases y with
  | tmp t => exact h t rfl
  | _ => rfl
theorem mem_tmpsOf {o : Oper} {t : Tmp} (h : Operand.tmp t ∈ o.op.operands) : t ∈ tmpsOf o := by
  simp only [tmpsOf, List.mem_filterMap]
  exact ⟨.tmp t, by simpa using h, rfl⟩
theorem late_congr {o : Oper} (hk : lateKind hint o = true) {e e' : Env} (he : ∀ t ∈ tmpsOf o, e.get t = e'.get t) : evalH P C hint o e [] 0 = evalH P C hint o e' [] 0 := by
  have key : ∀ y, y ∈ o.op.operands → opnd e y = opnd e' y := fun y hy => opnd_congr (fun t ht => he t (mem_tmpsOf (by rw [← ht]; exact hy)))
  obtain ⟨dst, op, t, pos, af, gd⟩ := o
  simp only [lateKind, Bool.and_eq_true] at hk
  obtain ⟨_, hk⟩ := hk
  split at hk
  · rename_i _ x
    simp only [evalH, key x (by simp [Op.operands])]
  · rename_i _ x
    simp only [evalH, key x (by simp [Op.operands])]
  · rename_i _ x k
    simp only [evalH, key x (by simp [Op.operands])]
  · rename_i _ t2 x lo hi
    have h1 : lo.map (opnd e) = lo.map (opnd e') := by
      cases lo with
      | none => rfl
      | some y => simp only [Option.map_some]; rw [key y (by simp [Op.operands])]
    have h2 : hi.map (opnd e) = hi.map (opnd e') := by
      cases hi with
      | none => rfl
      | some y => simp only [Option.map_some]; rw [key y (by simp [Op.operands])]
    simp only [evalH, key x (by simp [Op.operands]), h1, h2]
  · rename_i _ bop t2 x y t3
    simp only [evalH, key x (by simp [Op.operands]), key y (by simp [Op.operands])]
  · rename_i _ t2 len ps
    have h1 : (ps.map fun p => opnd e p.2) = ps.map fun p => opnd e' p.2 := List.map_congr_left (fun p hp => key p.2 (by
      obtain ⟨a, b⟩ := p
      simp only [Op.operands]
      first
        | (simp; exact ⟨a, hp⟩)
        | (simp [Array.mem_map]; exact ⟨a, hp⟩)))
    simp only [evalH, h1]
  · cases hk

/-- A late operation, as it stands at the end of the head. -/
def LateAt (P : Program) (C : Table) (hint : Hint) (e : Env) (o : Oper) : Prop :=
  (evalH P C hint o e [] 0).pre ∧ (∀ d, o.dst = some d → e.get d = (evalH P C hint o e [] 0).val ∧ (e.get d).pureB = true) ∧ ∀ t ∈ tmpsOf o, (e.get t).pureB = true
theorem LateAt.congr {o : Oper} (hk : lateKind hint o = true) {e e' : Env} (h : LateAt P C hint e o) (he : ∀ t ∈ tmpsOf o, e'.get t = e.get t) (hd : ∀ d, o.dst = some d → e'.get d = e.get d) : LateAt P C hint e' o := by
  have e1 := late_congr (P := P) (C := C) hk (e := e') (e' := e) he
  refine ⟨by rw [e1]; exact h.1, fun d h1 => ?_, fun t ht => by rw [he t ht]; exact h.2.2 t ht⟩
  rw [hd d h1, e1]; exact h.2.1 d h1

def hideE (ds : List Nat) (e : Env) : Env := ds.map (fun d => (d, AV.undef)) ++ e
theorem hideE_get (ds : List Nat) (e : Env) (t : Nat) : (hideE ds e).get t = if t ∈ ds then .undef else e.get t := by
  induction ds with
  | nil => simp [hideE]
  | cons d ds ih =>
    show Env.get ((d, AV.undef) :: hideE ds e) t = _
    rw [Env.get]
    by_cases h : d = t
    · subst h; simp
    · rw [if_neg h, ih]
      have : ¬ t = d := fun e => h e.symm
      simp [List.mem_cons, this]
theorem purE_eq (r : Nat) (e : Env) : purE r e = trE (purA r) e := by
  induction e with
  | nil => rfl
  | cons a e ih => obtain ⟨t, v⟩ := a; simp only [purE, trE, ih]

/-- What a write does to the names: nothing, or it turns each value alone. -/
def EnvLike (f : Env → ResM) : Prop := ∃ (p : Prop) (φ : AV → AV) (h : Heap), φ .undef = .undef ∧ ∀ e, (f e).pre = p ∧ (f e).heap = h ∧ (p → ∀ t, (f e).env.get t = (e.get t).tr φ)
theorem envLike_id {p : Prop} {h : Heap} : EnvLike (fun e => ⟨p, e, h⟩) := ⟨p, id, h, rfl, fun e => ⟨rfl, rfl, fun _ t => (AV.tr_id _).symm⟩⟩
theorem envLike_tr {p : Prop} {φ : AV → AV} {h : Heap} (h0 : φ .undef = .undef) : EnvLike (fun e => ⟨p, trE φ e, h⟩) := ⟨p, φ, h, h0, fun e => ⟨rfl, rfl, fun _ t => trE_get φ e t h0⟩⟩
theorem envLike_no : EnvLike (fun _ => noM) := ⟨False, id, [], rfl, fun e => ⟨rfl, rfl, fun h => h.elim⟩⟩
theorem rowR_like (d : TD) (r : Nat) (i : Int) (xss : List (List Int)) (n : Nat) (k : Option Blk) (h : Heap) : EnvLike (fun e => rowR hint d r i xss n k e h) := by
  unfold rowR
  split
  · exact envLike_tr rfl
  · exact envLike_no
theorem storeR_like (d : TD) (k : Option Blk) (p x : AV) (h : Heap) : EnvLike (fun e => storeR hint d k p x e h) := by
  unfold storeR
  split
  · exact envLike_id
  · split
    · exact envLike_id
    · exact envLike_no
  · split
    · exact envLike_id
    · exact envLike_no
  · split
    · exact rowR_like ..
    · exact envLike_no
  · exact envLike_no
theorem appR_like (ts tx : TypeId) (s : AV) (k : Option Blk) (y : AV) (h : Heap) : EnvLike (fun e => appR hint P ts tx s k y e h) := by
  unfold appR
  split
  · split
    · simp only [purE_eq]; exact envLike_tr rfl
    · exact envLike_no
  · exact envLike_no
theorem appM_like (ts tx : TypeId) (s : AV) (k : Option Blk) (y : AV) (h : Heap) : EnvLike (fun e => appM hint P ts tx s k y e h) := by
  unfold appM
  split
  · split
    · exact envLike_tr rfl
    · exact envLike_no
  · split
    · exact envLike_tr rfl
    · exact envLike_no
  · exact envLike_no

variable {x : Cx}
theorem Sat.congr {e e' : Env} {h : Heap} {n : Nat} {a : Act} {w : World} (hs : Sat x e h n a w) (he : ∀ t, e'.get t = e.get t) : Sat x e' h n a w := by
  obtain ⟨S, ρ, h1, h2, h3, hf, h4, h5⟩ := hs
  exact ⟨S, ρ, h1, h2, h3, hf, fun t => by rw [he]; exact h4 t, h5⟩
theorem dset_get {e : Env} {d : Option Tmp} {v : AV} {t : Tmp} : (dset e d v).get t = if d = some t then v else e.get t := by
  cases d with
  | none => simp [dset]
  | some d =>
    simp only [dset, Env.get]
    by_cases h : d = t
    · subst h; simp
    · rw [if_neg h, if_neg (by simpa using h)]
theorem hide_dset {ds : List Nat} {e e1 e2 : Env} {d : Option Tmp} {v : AV} {φ : AV → AV} (h0 : φ .undef = .undef) (hd : ∀ t ∈ ds, d ≠ some t) (h1 : ∀ t, e1.get t = ((hideE ds e).get t).tr φ) (h2 : ∀ t, e2.get t = (e.get t).tr φ) (t : Tmp) :
    (hideE ds (dset e2 d v)).get t = (dset e1 d v).get t := by
  rw [hideE_get, dset_get, dset_get, h1, h2, hideE_get]
  by_cases ht : t ∈ ds
  · rw [if_pos ht, if_neg (hd t ht), if_pos ht]; show AV.undef = AV.tr φ .undef; rfl
  · rw [if_neg ht, if_neg ht]

/-- One operation of the tail, some temporaries not yet known. -/
theorem tail_step (hT : TabOK P C) (hx0 : x.n0 ≤ hint.n0) {all : List Oper} {o : Oper} (hk : tailKind o = true) {rest : List Oper} {e : Env} {h : Heap} {n : Nat} {K : Env → Heap → Nat → Prop} (hop : opsA P C hint all (o :: rest) e h n K) {ds : List Nat}
    (hds : ∀ d ∈ ds, d ∉ tmpsOf o ∧ o.dst ≠ some d) {a : Act} {w : World} (hs : Sat x (hideE ds e) h n a w) (hd : ∀ t, o.dst = some t → t < x.k) {next : Act → World → Prop} {Q : Exit → Act → World → Prop}
    (hK : ∀ e2 h2 n2 a' w', opsA P C hint all rest e2 h2 n2 K → (∃ φ : AV → AV, φ .undef = .undef ∧ ∀ t, o.dst ≠ some t → e2.get t = (e.get t).tr φ) → Sat x (hideE ds e2) h2 n2 a' w' → next a' w') : o.wp P a w next Q := by
  have key : ∀ y, y ∈ o.op.operands → opnd (hideE ds e) y = opnd e y := fun y hy => opnd_congr (fun t ht => by
    rw [hideE_get, if_neg (fun hm => (hds t hm).1 (mem_tmpsOf (by rw [← ht]; exact hy)))])
  have hdd : ∀ t ∈ ds, o.dst ≠ some t := fun t ht => (hds t ht).2
  have putS : ∀ {v : AV} {h2 : Heap} {n2 : Nat} {a' : Act} {w' : World}, Sat x (dset (hideE ds e) o.dst v) h2 n2 a' w' → Sat x (hideE ds (dset e o.dst v)) h2 n2 a' w' := by
    intro v h2 n2 a' w' hs2
    exact Sat.congr hs2 (fun t => hide_dset (φ := id) rfl hdd (fun t => (AV.tr_id _).symm) (fun t => (AV.tr_id _).symm) t)
  have putE : ∀ {v : AV}, ∃ φ : AV → AV, φ .undef = .undef ∧ ∀ t, o.dst ≠ some t → (dset e o.dst v).get t = (e.get t).tr φ := fun {v} => ⟨id, rfl, fun t ht => by rw [dset_get, if_neg ht, AV.tr_id]⟩
  have put2 : ∀ {e1 e2 : Env} {φ : AV → AV}, φ .undef = .undef → (∀ t, e1.get t = ((hideE ds e).get t).tr φ) → (∀ t, e2.get t = (e.get t).tr φ) → ∀ {v : AV} {h2 : Heap} {n2 : Nat} {a' : Act} {w' : World}, Sat x (dset e1 o.dst v) h2 n2 a' w' → Sat x (hideE ds (dset e2 o.dst v)) h2 n2 a' w' := by
    intro e1 e2 φ h0 h1 h2 v hh2 n2 a' w' hs2
    exact Sat.congr hs2 (fun t => hide_dset h0 hdd h1 h2 t)
  have put3 : ∀ {e2 : Env} {φ : AV → AV}, φ .undef = .undef → (∀ t, e2.get t = (e.get t).tr φ) → ∀ {v : AV}, ∃ φ : AV → AV, φ .undef = .undef ∧ ∀ t, o.dst ≠ some t → (dset e2 o.dst v).get t = (e.get t).tr φ := by
    intro e2 φ h0 h2 v
    exact ⟨φ, h0, fun t ht => by rw [dset_get, if_neg ht, h2]⟩
  obtain ⟨dst, op, ty, pos, af, gd⟩ := o
  simp only [tailKind, Bool.and_eq_true, Option.isNone_iff_eq_none] at hk
  obtain ⟨hgd, hk⟩ := hk
  subst hgd
  split at hk
  · rename_i _ t p v
    have k1 := key p (by simp [Op.operands])
    have k2 := key v (by simp [Op.operands])
    have hop : (storeR hint (td P t) (blkOf h (opnd e p)) (opnd e p) (opnd e v) e h).pre ∧
            opsA P C hint all rest (dset (storeR hint (td P t) (blkOf h (opnd e p)) (opnd e p) (opnd e v) e h).env dst .skipd) (storeR hint (td P t) (blkOf h (opnd e p)) (opnd e p) (opnd e v) e h).heap n K := hop
    obtain ⟨pp, φ, hh, h0, hl⟩ := storeR_like (hint := hint) (td P t) (blkOf h (opnd e p)) (opnd e p) (opnd e v) h
    obtain ⟨g1, g2, g3⟩ := hl e
    obtain ⟨f1, f2, f3⟩ := hl (hideE ds e)
    have hpp : pp := by rw [← g1]; exact hop.1
    have hpre : (storeR hint (td P t) (blkOf h (opnd (hideE ds e) p)) (opnd (hideE ds e) p) (opnd (hideE ds e) v) (hideE ds e) h).pre := by rw [k1, k2, f1]; exact hpp
    have fin : ∀ a' w', Sat x (dset (storeR hint (td P t) (blkOf h (opnd (hideE ds e) p)) (opnd (hideE ds e) p) (opnd (hideE ds e) v) (hideE ds e) h).env dst .skipd) (storeR hint (td P t) (blkOf h (opnd (hideE ds e) p)) (opnd (hideE ds e) p) (opnd (hideE ds e) v) (hideE ds e) h).heap n a' w' → next a' w' := fun a' w' hs2 => by
      rw [k1, k2, f2] at hs2
      rw [g2] at hop
      exact hK _ _ _ a' w' hop.2 (put3 h0 (g3 hpp)) (put2 h0 (f3 hpp) (g3 hpp) hs2)
    by_cases hpo : ∃ r i, opnd (hideE ds e) p = .po r i
    · obtain ⟨r, i, hpo⟩ := hpo
      exact row_ok (P := P) (o := ⟨dst, .store t p v, ty, pos, af, none⟩) hx0 rfl hs hpo hpre hd fin
    · exact store_ok (P := P) (o := ⟨dst, .store t p v, ty, pos, af, none⟩) rfl hs hpre hd (fun r i h => hpo ⟨r, i, h⟩) fin
  · rename_i _ s y ts tx
    have k1 := key s (by simp [Op.operands, Call.operands])
    have k2 := key y (by simp [Op.operands, Call.operands])
    have hop : appS (opnd e s)
            ((appR hint P ts tx (opnd e s) (blkOf h (opnd e s)) (opnd e y) e h).pre ∧
              opsA P C hint all rest (dset (appR hint P ts tx (opnd e s) (blkOf h (opnd e s)) (opnd e y) e h).env dst (opnd e s)) (appR hint P ts tx (opnd e s) (blkOf h (opnd e s)) (opnd e y) e h).heap n K)
            ((appM hint P ts tx (opnd e s) (blkOf h (opnd e s)) (opnd e y) e h).pre ∧
              opsA P C hint all rest (dset (appM hint P ts tx (opnd e s) (blkOf h (opnd e s)) (opnd e y) e h).env dst (opnd e s)) (appM hint P ts tx (opnd e s) (blkOf h (opnd e s)) (opnd e y) e h).heap n K)
            ((evalH P C hint ⟨dst, .call ⟨.builtin .append, ⟨[s, y]⟩, ⟨[ts, tx]⟩⟩, ty, pos, af, none⟩ e h n).pre ∧ opsA P C hint all rest (dset e dst (evalH P C hint ⟨dst, .call ⟨.builtin .append, ⟨[s, y]⟩, ⟨[ts, tx]⟩⟩, ty, pos, af, none⟩ e h n).val) ((evalH P C hint ⟨dst, .call ⟨.builtin .append, ⟨[s, y]⟩, ⟨[ts, tx]⟩⟩, ty, pos, af, none⟩ e h n).new ++ h) (n + (evalH P C hint ⟨dst, .call ⟨.builtin .append, ⟨[s, y]⟩, ⟨[ts, tx]⟩⟩, ty, pos, af, none⟩ e h n).cnt) K) := hop
    unfold appS at hop
    split at hop
    · obtain ⟨pp, φ, hh, h0, hl⟩ := appR_like (hint := hint) (P := P) ts tx (opnd e s) (blkOf h (opnd e s)) (opnd e y) h
      obtain ⟨g1, g2, g3⟩ := hl e
      obtain ⟨f1, f2, f3⟩ := hl (hideE ds e)
      have hpp : pp := by rw [← g1]; exact hop.1
      refine append_ok (P := P) (o := ⟨dst, .call ⟨.builtin .append, ⟨[s, y]⟩, ⟨[ts, tx]⟩⟩, ty, pos, af, none⟩) hx0 rfl hs (by rw [k1, k2, f1]; exact hpp) hd (fun a' w' hs2 => ?_)
      rw [k1, k2, f2] at hs2
      rw [g2] at hop
      exact hK _ _ _ a' w' hop.2 (put3 h0 (g3 hpp)) (put2 h0 (f3 hpp) (g3 hpp) hs2)
    · obtain ⟨pp, φ, hh, h0, hl⟩ := appM_like (hint := hint) (P := P) ts tx (opnd e s) (blkOf h (opnd e s)) (opnd e y) h
      obtain ⟨g1, g2, g3⟩ := hl e
      obtain ⟨f1, f2, f3⟩ := hl (hideE ds e)
      have hpp : pp := by rw [← g1]; exact hop.1
      refine appM_ok (P := P) (o := ⟨dst, .call ⟨.builtin .append, ⟨[s, y]⟩, ⟨[ts, tx]⟩⟩, ty, pos, af, none⟩) hx0 rfl hs (by rw [k1, k2, f1]; exact hpp) hd (fun a' w' hs2 => ?_)
      rw [k1, k2, f2] at hs2
      rw [g2] at hop
      exact hK _ _ _ a' w' hop.2 (put3 h0 (g3 hpp)) (put2 h0 (f3 hpp) (g3 hpp) hs2)
    · have e1 : evalH P C hint ⟨dst, .call ⟨.builtin .append, ⟨[s, y]⟩, ⟨[ts, tx]⟩⟩, ty, pos, af, none⟩ (hideE ds e) h n = evalH P C hint ⟨dst, .call ⟨.builtin .append, ⟨[s, y]⟩, ⟨[ts, tx]⟩⟩, ty, pos, af, none⟩ e h n := by simp only [evalH, k1, k2]
      exact opH_ok (P := P) (C := C) (hint := hint) hT (by rw [e1]; exact hop.1) hs hd (fun a' w' hs2 => hK _ _ _ a' w' hop.2 putE (putS (by rw [e1] at hs2; exact hs2)))
  · rename_i _ y
    have k1 := key y (by simp [Op.operands])
    have hop : (evalH P C hint ⟨dst, .move y, ty, pos, af, none⟩ e h n).pre ∧ opsA P C hint all rest (dset e dst (evalH P C hint ⟨dst, .move y, ty, pos, af, none⟩ e h n).val) ((evalH P C hint ⟨dst, .move y, ty, pos, af, none⟩ e h n).new ++ h) (n + (evalH P C hint ⟨dst, .move y, ty, pos, af, none⟩ e h n).cnt) K := hop
    have e1 : evalH P C hint ⟨dst, .move y, ty, pos, af, none⟩ (hideE ds e) h n = evalH P C hint ⟨dst, .move y, ty, pos, af, none⟩ e h n := by simp only [evalH, k1]
    exact opH_ok (P := P) (C := C) (hint := hint) hT (by rw [e1]; exact hop.1) hs hd (fun a' w' hs2 => hK _ _ _ a' w' hop.2 putE (putS (by rw [e1] at hs2; exact hs2)))
  · rename_i _ y
    have k1 := key y (by simp [Op.operands])
    have hop : (evalH P C hint ⟨dst, .assign y, ty, pos, af, none⟩ e h n).pre ∧ opsA P C hint all rest (dset e dst (evalH P C hint ⟨dst, .assign y, ty, pos, af, none⟩ e h n).val) ((evalH P C hint ⟨dst, .assign y, ty, pos, af, none⟩ e h n).new ++ h) (n + (evalH P C hint ⟨dst, .assign y, ty, pos, af, none⟩ e h n).cnt) K := hop
    have e1 : evalH P C hint ⟨dst, .assign y, ty, pos, af, none⟩ (hideE ds e) h n = evalH P C hint ⟨dst, .assign y, ty, pos, af, none⟩ e h n := by simp only [evalH, k1]
    exact opH_ok (P := P) (C := C) (hint := hint) hT (by rw [e1]; exact hop.1) hs hd (fun a' w' hs2 => hK _ _ _ a' w' hop.2 putE (putS (by rw [e1] at hs2; exact hs2)))
  · rename_i _ y k
    have k1 := key y (by simp [Op.operands])
    have hop : (evalH P C hint ⟨dst, .extract y k, ty, pos, af, none⟩ e h n).pre ∧ opsA P C hint all rest (dset e dst (evalH P C hint ⟨dst, .extract y k, ty, pos, af, none⟩ e h n).val) ((evalH P C hint ⟨dst, .extract y k, ty, pos, af, none⟩ e h n).new ++ h) (n + (evalH P C hint ⟨dst, .extract y k, ty, pos, af, none⟩ e h n).cnt) K := hop
    have e1 : evalH P C hint ⟨dst, .extract y k, ty, pos, af, none⟩ (hideE ds e) h n = evalH P C hint ⟨dst, .extract y k, ty, pos, af, none⟩ e h n := by simp only [evalH, k1]
    exact opH_ok (P := P) (C := C) (hint := hint) hT (by rw [e1]; exact hop.1) hs hd (fun a' w' hs2 => hK _ _ _ a' w' hop.2 putE (putS (by rw [e1] at hs2; exact hs2)))
  · cases hk
end
end Go.Vc
namespace Go.Vc
open Go.RowKit

/-- What operation hd waits for, itself or through others. -/
def needsL (all : List Oper) : Nat → List Nat → List Nat
  | 0, S => S
  | j + 1, S => needsL all j (if S.any (fun i => match all[i]? with | some o => waits o j | none => false) then j :: S else S)
def sepB (o p : Oper) : Bool := match p.dst with
  | some d => !(tmpsOf o).contains d && o.dst != some d && (match o.dst with | some q => !(tmpsOf p).contains q | none => true)
  | none => match o.dst with | some q => !(tmpsOf p).contains q | none => true
/-- A region whose head operations from place c on may come up behind its first write. -/
def lateOK (hint : Hint) (all : List Oper) (c hd : Nat) : Bool :=
  backB all && ssaB (all.take hd) && guardB (all.take hd) && (all.take hd).all (fun o => !isM hint o) && decide (c ≤ hd) && decide (hd < all.length) && Region.chainB .any all.toArray hd &&
  ((List.range c).all fun j => (needsL all hd [hd]).contains j) && ((all.take hd).drop c).all (lateKind hint) && (all.drop hd).all tailKind &&
  ((List.range all.length).all fun i => decide (i < hd) || (List.range hd).all fun j => decide (j < c) || (match all[i]?, all[j]? with | some o, some p => waits o j || sepB o p | _, _ => true))

theorem needsL_ok {all : List Oper} {listed : Array Bool} (hcl : ∀ j oj, all.toArray[j]? = some oj → listed.getD j false = true → ∀ ed ∈ oj.after, Region.binds .any ed = true → listed.getD ed.on false = true) (hd : Nat)
    (hready : ∀ o, all[hd]? = some o → ∀ ed ∈ o.after, Region.binds .any ed = true → listed.getD ed.on false = true) :
    ∀ (j : Nat) (S : List Nat), (∀ i ∈ S, i = hd ∨ listed.getD i false = true) → ∀ i ∈ needsL all j S, i = hd ∨ listed.getD i false = true
  | 0, S, h => h
  | j + 1, S, h => by
    unfold needsL
    refine needsL_ok hcl hd hready j _ (fun i hi => ?_)
    split at hi
    · rename_i hany
      rcases List.mem_cons.1 hi with rfl | hi
      · obtain ⟨q, hq, hw⟩ := List.any_eq_true.1 hany
        split at hw
        · rename_i o ho
          obtain ⟨e, he, hb, hon⟩ := waits_spec hw
          rcases h q hq with rfl | hl
          · exact .inr (by have := hready o ho e he hb; rwa [hon] at this)
          · exact .inr (by have := hcl q o (by simpa using ho) hl e he hb; rwa [hon] at this)
        · cases hw
      · exact h i hi
    · exact h i hi

/-- The temporaries of head operations that are left. -/
def dstU (all : List Oper) (hd : Nat) (U : List Nat) : List Nat := U.filterMap (fun j => if j < hd then gdst all j else none)
theorem mem_dstU {all : List Oper} {hd : Nat} {U : List Nat} {d : Nat} : d ∈ dstU all hd U ↔ ∃ j ∈ U, j < hd ∧ gdst all j = some d := by
  unfold dstU
  rw [List.mem_filterMap]
  constructor
  · rintro ⟨j, hj, h⟩
    by_cases hlt : j < hd
    · rw [if_pos hlt] at h; exact ⟨j, hj, hlt, h⟩
    · rw [if_neg hlt] at h; cases h
  · rintro ⟨j, hj, hlt, h⟩
    exact ⟨j, hj, by rw [if_pos hlt]; exact h⟩
theorem gdst_of {all : List Oper} {j : Nat} {o : Oper} (h : all[j]? = some o) : gdst all j = o.dst := by rw [gdst_eq, h]; rfl

section
variable {P : Program} {C : Table} {hint : Hint} {x : Cx}

/-- Behind the head: late operations and the tail. -/
theorem late_ok (hT : TabOK P C) (hx0 : x.n0 ≤ hint.n0) {all : List Oper} {Q : Exit → Act → World → Prop} {K : Env → Heap → Nat → Prop} (hK : ∀ e h n a w, K e h n → Sat x e h n a w → Q .normal a w) {c hd : Nat} (hchk : lateOK hint all c hd = true) (hdst : dstOK x.k all = true) :
    ∀ (fuel i : Nat) (e : Env) (h : Heap) (n : Nat) (listed : Array Bool) (U : List Nat) (a : Act) (w : World), hd ≤ i → i ≤ all.length → Left all listed U → (∀ j ∈ U, c ≤ j) → (∀ j, hd ≤ j → (j ∈ U ↔ i ≤ j ∧ j < all.length)) → U.length ≤ fuel →
      opsA P C hint all (all.drop i) e h n K → (∀ j o, j ∈ U → j < hd → all[j]? = some o → LateAt P C hint e o) → Sat x (hideE (dstU all hd U) e) h n a w → wpAny P .any all.toArray Q fuel listed a w := by
  simp only [lateOK, Bool.and_eq_true, decide_eq_true_eq] at hchk
  obtain ⟨⟨⟨⟨⟨⟨⟨⟨⟨⟨hback, hssa⟩, hgd⟩, hM⟩, hc⟩, hhd⟩, hchain⟩, hneed⟩, hlate⟩, htail⟩, hsep⟩ := hchk
  have isLate : ∀ (j : Nat) o, c ≤ j → j < hd → all[j]? = some o → lateKind hint o = true := fun j o h1 h2 ho => by
    refine List.all_eq_true.1 hlate o (List.mem_iff_getElem?.2 ⟨j - c, ?_⟩)
    rw [List.getElem?_drop, List.getElem?_take, if_pos (by omega), show c + (j - c) = j by omega]; exact ho
  have isTail : ∀ (j : Nat) o, hd ≤ j → all[j]? = some o → tailKind o = true := fun j o h1 ho => by
    refine List.all_eq_true.1 htail o (List.mem_iff_getElem?.2 ⟨j - hd, ?_⟩)
    rw [List.getElem?_drop, show hd + (j - hd) = j by omega]; exact ho
  have hsep2 : ∀ (i j : Nat) o p, hd ≤ i → c ≤ j → j < hd → all[i]? = some o → all[j]? = some p → waits o j = true ∨ sepB o p = true := fun i j o p h1 h2 h3 ho hp => by
    have hi := (List.getElem?_eq_some_iff.1 ho).1
    have g1 := List.all_eq_true.1 hsep i (List.mem_range.2 hi)
    simp only [Bool.or_eq_true, decide_eq_true_eq] at g1
    rcases g1 with g1 | g1
    · omega
    · have g2 := List.all_eq_true.1 g1 j (List.mem_range.2 h3)
      simp only [Bool.or_eq_true, decide_eq_true_eq, ho, hp] at g2
      rcases g2 with g2 | g2
      · omega
      · exact g2
  have takeE : ∀ (j : Nat) o, j < hd → all[j]? = some o → (all.take hd)[j]? = some o := fun j o h1 ho => by rw [List.getElem?_take, if_pos h1]; exact ho
  have done : ∀ {i : Nat} {e : Env} {h : Heap} {n : Nat} {listed : Array Bool} {U : List Nat} {a : Act} {w : World}, i ≤ all.length → U = [] → (∀ j, hd ≤ j → (j ∈ U ↔ i ≤ j ∧ j < all.length)) → hd ≤ i → opsA P C hint all (all.drop i) e h n K → Sat x (hideE (dstU all hd U) e) h n a w → Q .normal a w := by
    intro i e h n listed U a w h1 h2 h3 h4 h5 h6
    subst h2
    have hi : i = all.length := by
      rcases Nat.lt_or_ge i all.length with h | h
      · exact absurd ((h3 i h4).2 ⟨Nat.le_refl _, h⟩) (by simp)
      · omega
    subst hi
    rw [List.drop_of_length_le (Nat.le_refl _)] at h5
    exact hK e h n a w h5 (h6.congr (fun t => rfl))
  intro fuel
  induction fuel with
  | zero =>
    intro i e h n listed U a w h1 h2 hL hc' hU hf hop hla hs
    have hU0 : U = [] := List.length_eq_zero_iff.1 (by omega)
    refine ⟨?_, done (listed := listed) h2 hU0 hU h1 hop hs⟩
    subst hU0
    exact List.eq_nil_iff_forall_not_mem.2 (fun j hj => absurd (ready_mem hL hj) (by simp))
  | succ fuel ih =>
    intro i e h n listed U a w h1 h2 hL hc' hU hf hop hla hs
    refine ⟨fun h0 => ?_, fun j hj => ?_⟩
    · have hU0 : U = [] := by
        by_cases hne : U = []
        · exact hne
        · obtain ⟨m, hm1, hm2⟩ := exists_least U hne
          have := ready_least hback hL hm1 hm2
          rw [h0] at this; cases this
      exact done (listed := listed) h2 hU0 hU h1 hop hs
    · have hjU := ready_mem hL hj
      obtain ⟨hja, hjl⟩ := (hL.mem j).1 hjU
      have ho : all[j]? = some all[j] := by simp [hja]
      generalize all[j] = o at ho
      obtain ⟨hL', hlen⟩ := hL.step hjU
      have hd1 : ∀ t, o.dst = some t → t < x.k := dstOK_mem hdst (List.mem_of_getElem? ho)
      have rd : ∀ i, waits o i = true → i ∉ U := fun i hw hi => by
        have := ready_listed hj (by simpa using ho) hw
        have := ((hL.mem i).1 hi).2
        simp_all
      unfold wpOp
      simp only [List.getElem?_toArray, ho]
      by_cases hjh : j < hd
      · -- a late one
        have hcj := hc' j hjU
        have hk := isLate j o hcj hjh ho
        have hg : o.guard = none := by simp only [lateKind, Bool.and_eq_true, Option.isNone_iff_eq_none] at hk; exact hk.1
        rw [if_pos (by simp [Region.wanted, hg])]
        left
        have hat := hla j o hjU hjh ho
        have hread : ∀ t ∈ tmpsOf o, (hideE (dstU all hd U) e).get t = e.get t := fun t ht => by
          rw [hideE_get, if_neg (fun hm => ?_)]
          obtain ⟨q, hq1, hq2, hq3⟩ := mem_dstU.1 hm
          have hqa : all[q]? = some all[q] := by simp [((hL.mem q).1 hq1).1]
          have g1 := zipIdx_all (zipIdx_all hssa (takeE j o hjh ho)) (takeE q _ hq2 hqa)
          rw [gdst_of hqa] at hq3
          simp only [hq3, Bool.and_eq_true, Bool.or_eq_true] at g1
          rcases g1.1.2 with g2 | g2
          · have : (tmpsOf o).contains t = true := by simpa using ht
            rw [this] at g2; cases g2
          · exact rd q g2 hq1
        have e1 := late_congr (P := P) (C := C) hk (e := hideE (dstU all hd U) e) (e' := e) hread
        have e2 := late_eval (P := P) (C := C) hk (hideE (dstU all hd U) e) h n
        have distinct : ∀ q, q ∈ U.erase j → q < hd → ∀ d, gdst all q = some d → o.dst ≠ some d := fun q hq hqh d hqd => by
          rw [hL.nodup.mem_erase_iff] at hq
          have hqa : all[q]? = some all[q] := by simp [((hL.mem q).1 hq.2).1]
          have g1 := zipIdx_all (zipIdx_all hssa (takeE j o hjh ho)) (takeE q _ hqh hqa)
          rw [gdst_of hqa] at hqd
          simp only [hqd, Bool.and_eq_true, Bool.or_eq_true, beq_iff_eq, bne_iff_ne, ne_eq] at g1
          rcases g1.1.1 with g2 | g2
          · exact absurd g2.symm (fun e => hq.1 e.symm)
          · exact g2
        refine opH_ok (P := P) (C := C) (hint := hint) hT (by rw [e2, e1]; exact hat.1) hs hd1 (fun a' w' hs2 => ?_)
        rw [e2, e1] at hs2
        have hs3 : Sat x (dset (hideE (dstU all hd U) e) o.dst (evalH P C hint o e [] 0).val) h n a' w' := hs2
        refine ih i e h n _ _ a' w' h1 h2 hL' (fun q hq => hc' q (List.mem_of_mem_erase hq)) (fun q hq => ?_) (by omega) hop (fun q oq hq => hla q oq (List.mem_of_mem_erase hq)) (hs3.congr (fun t => ?_))
        · rw [hL.nodup.mem_erase_iff, hU q hq]
          constructor
          · exact fun h => h.2
          · exact fun h => ⟨by omega, h⟩
        · rw [hideE_get, dset_get, hideE_get]
          by_cases ht : o.dst = some t
          · rw [if_pos ht, if_neg (fun hm => ?_)]
            · exact (hat.2.1 t ht).1
            · obtain ⟨q, hq1, hq2, hq3⟩ := mem_dstU.1 hm
              exact distinct q hq1 hq2 t hq3 ht
          · rw [if_neg ht]
            have : t ∈ dstU all hd (U.erase j) ↔ t ∈ dstU all hd U := by
              rw [mem_dstU, mem_dstU]
              constructor
              · rintro ⟨q, hq, r⟩; exact ⟨q, List.mem_of_mem_erase hq, r⟩
              · rintro ⟨q, hq, r⟩
                refine ⟨q, (hL.nodup.mem_erase_iff).2 ⟨fun e => ?_, hq⟩, r⟩
                subst e
                rw [gdst_of ho] at r
                exact ht r.2
            by_cases hm : t ∈ dstU all hd U
            · rw [if_pos (this.2 hm), if_pos hm]
            · rw [if_neg (fun h => hm (this.1 h)), if_neg hm]
      · -- one of the tail
        have hjge : hd ≤ j := by omega
        have hij : j = i := by
          have hju := (hU j hjge).1 hjU
          by_cases hji : j = i
          · exact hji
          · exfalso
            have g1 := List.all_eq_true.1 hchain j (List.mem_range.2 (by simpa using hju.2))
            simp only [Bool.or_eq_true, decide_eq_true_eq] at g1
            rcases g1 with g1 | g1
            · omega
            · obtain ⟨o', ho', ed, he, hb, hon⟩ := Region.waitsFor_spec g1
              obtain ⟨_, o2, ho2, hall⟩ := mem_ready.1 hj
              rw [ho'] at ho2; cases ho2
              have := hall ed he hb
              rw [hon] at this
              have hm : j - 1 ∈ U := (hU (j - 1) (by omega)).2 ⟨by omega, by omega⟩
              have := ((hL.mem (j - 1)).1 hm).2
              simp_all
        subst hij
        have hk := isTail j o hjge ho
        have hg : o.guard = none := by simp only [tailKind, Bool.and_eq_true, Option.isNone_iff_eq_none] at hk; exact hk.1
        rw [if_pos (by simp [Region.wanted, hg])]
        left
        have hdrop : all.drop j = o :: all.drop (j + 1) := by
          have h3 : all[j] = o := by have := ho; simp [hja] at this; exact this
          rw [← h3]; exact List.drop_eq_getElem_cons hja
        rw [hdrop] at hop
        have apart : ∀ q, q ∈ U → q < hd → ∀ p, all[q]? = some p → sepB o p = true := fun q hq hqh p hp => by
          rcases hsep2 j q o p hjge (hc' q hq) hqh ho hp with g | g
          · exact absurd hq (rd q g)
          · exact g
        refine tail_step hT hx0 hk hop (fun d hdm => ?_) hs hd1 (fun e2 h2' n2 a' w' hop2 hφ hs2 => ?_)
        · obtain ⟨q, hq1, hq2, hq3⟩ := mem_dstU.1 hdm
          have hqa : all[q]? = some all[q] := by simp [((hL.mem q).1 hq1).1]
          have g := apart q hq1 hq2 _ hqa
          rw [gdst_of hqa] at hq3
          simp only [sepB, hq3, Bool.and_eq_true, Bool.not_eq_true', bne_iff_ne, ne_eq] at g
          exact ⟨fun hm => by have : (tmpsOf o).contains d = true := by simpa using hm
                              rw [this] at g; exact absurd g.1.1 (by simp), g.1.2⟩
        · obtain ⟨φ, hφ0, hφ⟩ := hφ
          have hUe : ∀ q, q < hd → (q ∈ U.erase j ↔ q ∈ U) := fun q hq => by
            rw [hL.nodup.mem_erase_iff]
            exact ⟨fun h => h.2, fun h => ⟨by omega, h⟩⟩
          refine ih (j + 1) e2 h2' n2 _ _ a' w' (by omega) (by omega) hL' (fun q hq => hc' q (List.mem_of_mem_erase hq)) (fun q hq => ?_) (by omega) hop2 (fun q oq hq hqh hoq => ?_) (hs2.congr (fun t => ?_))
          · rw [hL.nodup.mem_erase_iff, hU q hq]; omega
          · have hqU := List.mem_of_mem_erase hq
            have hat := hla q oq hqU hqh hoq
            have hkq := isLate q oq (hc' q hqU) hqh hoq
            have g := apart q hqU hqh oq hoq
            have hnr : ∀ t ∈ tmpsOf oq, o.dst ≠ some t := fun t ht e => by
              have hc : (tmpsOf oq).contains t = true := by simpa using ht
              unfold sepB at g
              split at g
              · simp only [e, Bool.and_eq_true, hc] at g; exact absurd g.2 (by simp)
              · simp only [e, hc] at g; exact absurd g (by simp)
            refine hat.congr hkq (fun t ht => ?_) (fun d hd => ?_)
            · rw [hφ t (hnr t ht)]; exact AV.pureB_tr (hat.2.2 t ht)
            · have hne : o.dst ≠ some d := fun e => by
                simp only [sepB, hd, Bool.and_eq_true, bne_iff_ne, ne_eq] at g
                exact g.1.2 e
              rw [hφ d hne]; exact AV.pureB_tr (hat.2.1 d hd).2
          · rw [hideE_get, hideE_get]
            have : t ∈ dstU all hd (U.erase j) ↔ t ∈ dstU all hd U := by
              rw [mem_dstU, mem_dstU]
              constructor
              · rintro ⟨q, hq, r⟩; exact ⟨q, List.mem_of_mem_erase hq, r⟩
              · rintro ⟨q, hq, r⟩; exact ⟨q, (hUe q r.1).2 hq, r⟩
            by_cases hm : t ∈ dstU all hd U
            · rw [if_pos (this.2 hm), if_pos hm]
            · rw [if_neg (fun h => hm (this.1 h)), if_neg hm]
end
end Go.Vc
namespace Go.Vc
open Go.RowKit
section
variable {P : Program} {C : Table} {hint : Hint} {own : Nat → Prop}

/-- Late operations make no memory of one's own. -/
def NewL (hint : Hint) (l : List Oper) (tr : List Stp) : Prop := ∀ (i : Nat) o s, l[i]? = some o → tr[i]? = some s → lateKind hint o = true → s.new = []
theorem NewL.cons {o : Oper} {s : Stp} {l : List Oper} {tr : List Stp} (h : NewL hint l tr) (h0 : lateKind hint o = true → s.new = []) : NewL hint (o :: l) (s :: tr) := fun i o' s' h1 h2 h3 => by
  cases i with
  | zero => simp at h1 h2; subst h1; subst h2; exact h0 h3
  | succ i => exact h i o' s' (by simpa using h1) (by simpa using h2) h3

/-- The head of a region, as the text runs. -/
theorem extractN (hT : TabOK P C) {all tail : List Oper} {K : Env → Heap → Nat → Prop} : ∀ (l : List Oper) (e : Env) (h : Heap) (n : Nat), (∀ o ∈ l, isM hint o = false) → (∀ r, h.look r ≠ none → r < n) → opsA P C hint all (l ++ tail) e h n K →
    ∃ tr e' h' n', Trace P own all l tr e h n e' h' n' ∧ opsA P C hint all tail e' h' n' K ∧ NewL hint l tr
  | [], e, h, n, _, _, ho => ⟨[], e, h, n, ⟨rfl, rfl, rfl⟩, ho, fun i o s h => by simp at h⟩
  | o :: l, e, h, n, hm, hn, ho => by
    have hm1 := hm o (by simp)
    have hm2 : ∀ o ∈ l, isM hint o = false := fun o h => hm o (by simp [h])
    simp only [List.cons_append] at ho
    unfold opsA at ho
    obtain ⟨e1, y, hE, hG, hy⟩ := guard_ext ho
    cases y with
    | false =>
      simp only [Bool.false_eq_true, if_false] at hy
      obtain ⟨tr, e', h', n', ht, hk, hN⟩ := extractN hT l _ h n hm2 hn hy
      exact ⟨⟨e1, .skipd, [], 0, false⟩ :: tr, e', h', n', ⟨⟨⟨hE, hG⟩, fun r hr => (hr rfl).elim, by simp⟩, hn, ht⟩, hk, hN.cons (fun _ => rfl)⟩
    | true =>
      simp only [if_true] at hy
      split at hy
      · rename_i c p q hpk
        have go : ∀ (b : Bool) (r : Operand), (∀ S ρ H cv, V S ρ H (opnd e1 c) cv → cv = .bool b) → (if b then p else q) = r → opsA P C hint all (l ++ tail) (dset e1 o.dst (opnd e1 r)) h n K →
            ∃ tr e' h' n', Trace P own all (o :: l) tr e h n e' h' n' ∧ opsA P C hint all tail e' h' n' K ∧ NewL hint (o :: l) tr := by
          intro b r hb hr hK2
          obtain ⟨tr, e', h', n', ht, hk, hN⟩ := extractN hT l _ h n hm2 hn hK2
          exact ⟨⟨e1, opnd e1 r, [], 0, true⟩ :: tr, e', h', n', ⟨⟨⟨hE, hG⟩, fun r hr => (hr rfl).elim, by simp only [if_true]; exact fun hF _ _ => pick_ok hpk hb hr⟩, hn, ht⟩, hk, hN.cons (fun _ => rfl)⟩
        unfold pickS at hy
        split at hy
        · rename_i b hb
          cases b with
          | true => exact go true p (fun S ρ H cv h => by rw [hb] at h; exact h.bool_inv) rfl (hy.1 rfl)
          | false => exact go false q (fun S ρ H cv h => by rw [hb] at h; exact h.bool_inv) rfl (hy.2 rfl)
        · rename_i hb; exact go true p (fun S ρ H cv h => by rw [hb] at h; exact h.tt_inv) rfl hy
        · rename_i hb; exact go false q (fun S ρ H cv h => by rw [hb] at h; exact h.ff_inv) rfl hy
        · exact hy.elim
      · rename_i t p v hst
        simp [isM, hst] at hm1
      · rename_i s y ts tx hst
        simp [isM, hst] at hm1
      · rename_i f xs ts hcl
        have hm3 : hint.ms (mkey f) = false := by simpa [isM, hcl] using hm1
        rw [hm3] at hy
        simp only [cond_false] at hy
        obtain ⟨hp, hy⟩ := hy
        have keys := evalH_keys (hint := hint) hT.spec hp
        obtain ⟨tr, e', h', n', ht, hk, hN⟩ := extractN hT l _ _ _ hm2 (fun r hr => by
          rcases look_ne_append hr with h1 | h1
          · exact (keys r h1).2
          · have := hn r h1; omega) hy
        refine ⟨⟨e1, (evalH P C hint o e1 h n).val, (evalH P C hint o e1 h n).new, (evalH P C hint o e1 h n).cnt, true⟩ :: tr, e', h', n', ⟨⟨⟨hE, hG⟩, keys, ?_⟩, hn, ht⟩, hk, hN.cons (fun hl => by show (evalH P C hint o e1 h n).new = []; rw [late_eval hl])⟩
        simp only [if_true]
        exact fun hF h1 h2 => evalH_ok hT.spec hT.call h1 h2 hn hp
      · rename_i op t y z t2 hbo
        have hm3 : isNilc op z = false := by simpa [isM, hbo] using hm1
        rw [hm3] at hy
        simp only [cond_false] at hy
        obtain ⟨hp, hy⟩ := hy
        have keys := evalH_keys (hint := hint) hT.spec hp
        obtain ⟨tr, e', h', n', ht, hk, hN⟩ := extractN hT l _ _ _ hm2 (fun r hr => by
          rcases look_ne_append hr with h1 | h1
          · exact (keys r h1).2
          · have := hn r h1; omega) hy
        refine ⟨⟨e1, (evalH P C hint o e1 h n).val, (evalH P C hint o e1 h n).new, (evalH P C hint o e1 h n).cnt, true⟩ :: tr, e', h', n', ⟨⟨⟨hE, hG⟩, keys, ?_⟩, hn, ht⟩, hk, hN.cons (fun hl => by show (evalH P C hint o e1 h n).new = []; rw [late_eval hl])⟩
        simp only [if_true]
        exact fun hF h1 h2 => evalH_ok hT.spec hT.call h1 h2 hn hp
      · obtain ⟨hp, hy⟩ := hy
        have keys := evalH_keys (hint := hint) hT.spec hp
        obtain ⟨tr, e', h', n', ht, hk, hN⟩ := extractN hT l _ _ _ hm2 (fun r hr => by
          rcases look_ne_append hr with h1 | h1
          · exact (keys r h1).2
          · have := hn r h1; omega) hy
        refine ⟨⟨e1, (evalH P C hint o e1 h n).val, (evalH P C hint o e1 h n).new, (evalH P C hint o e1 h n).cnt, true⟩ :: tr, e', h', n', ⟨⟨⟨hE, hG⟩, keys, ?_⟩, hn, ht⟩, hk, hN.cons (fun hl => by show (evalH P C hint o e1 h n).new = []; rw [late_eval hl])⟩
        simp only [if_true]
        exact fun hF h1 h2 => evalH_ok hT.spec hT.call h1 h2 hn hp

/-- The late operations, once more, at the end of the head. -/
def lateP (P : Program) (C : Table) (hint : Hint) (e : Env) : List Oper → Prop
  | [] => True
  | o :: l => LateAt P C hint e o ∧ lateP P C hint e l
theorem lateP_at {e : Env} : ∀ {l : List Oper}, lateP P C hint e l → ∀ o ∈ l, LateAt P C hint e o
  | [], _, o, h => by cases h
  | p :: l, hp, o, h => by
    rcases List.mem_cons.1 h with rfl | h
    · exact hp.1
    · exact lateP_at hp.2 o h

variable {x : Cx}
/-- A region that draws its order, late operations among its head. -/
theorem draw_late (hT : TabOK P C) (hx0 : x.n0 ≤ hint.n0) {all : List Oper} {c hd : Nat} (hchk : lateOK hint all c hd = true) (hdst : dstOK x.k all = true) {e : Env} {h : Heap} {n : Nat} {a : Act} {w : World}
    {Q : Exit → Act → World → Prop} {K : Env → Heap → Nat → Prop} (hK : ∀ e h n a w, K e h n → Sat x e h n a w → Q .normal a w)
    (hop : opsA P C hint all (all.take hd) e h n (fun e h n => lateP P C hint e ((all.take hd).drop c) ∧ opsA P C hint all (all.drop hd) e h n K)) (hs : Sat x e h n a w) :
    wpAny P .any all.toArray Q all.toArray.size (Array.replicate all.toArray.size false) a { w with drawn := w.drawn + 1 } := by
  have hchk0 := hchk
  simp only [lateOK, Bool.and_eq_true, decide_eq_true_eq] at hchk
  obtain ⟨⟨⟨⟨⟨⟨⟨⟨⟨⟨hback, hssa⟩, hgd⟩, hM⟩, hc⟩, hhd⟩, hchain⟩, hneed⟩, hlate⟩, htail⟩, hsep⟩ := hchk
  have hs' : Sat x e h n a { w with drawn := w.drawn + 1 } := by
    obtain ⟨S, ρ, s1, s2, s3, sf, s4, s5, s6⟩ := hs
    exact ⟨S, ρ, s1, s2, s3.drew _, sf, s4, s5.drew _, s6⟩
  have hk0 : ∀ r, h.look r ≠ none → r < n := by obtain ⟨S, ρ, s1, s2, s3, sf, s4, s5, s6, s7, s8, s9⟩ := hs; exact s8
  have hxn : x.n0 ≤ n := by obtain ⟨S, ρ, s1, s2, s3, sf, s4, s5, s6, s7, s8, s9⟩ := hs; exact s9
  have hll : (all.take hd).length = hd := by simp; omega
  obtain ⟨tr, e', h', n', ht, hkt, hN⟩ := extractN (own := x.own) hT (tail := []) (all.take hd) e h n (fun o ho => by have := List.all_eq_true.1 hM o ho; simpa using this) hk0 (by rw [List.append_nil]; exact hop)
  obtain ⟨hlp, hkt⟩ : lateP P C hint e' ((all.take hd).drop c) ∧ opsA P C hint all (all.drop hd) e' h' n' K := hkt
  have F := Trace.facts (f := e.get) _ _ _ _ _ _ _ _ (fun t => Ent.refl _) hk0 ht
  have hall : ∀ (i : Nat) o, (all.take hd)[i]? = some o → all[i]? = some o := fun i o ho => by
    rw [List.getElem?_take] at ho; split at ho
    · exact ho
    · cases ho
  have takeE : ∀ (j : Nat) o, j < hd → all[j]? = some o → (all.take hd)[j]? = some o := fun j o h1 ho => by rw [List.getElem?_take, if_pos h1]; exact ho
  have isLate : ∀ (j : Nat) o, c ≤ j → j < hd → all[j]? = some o → o ∈ (all.take hd).drop c := fun j o h1 h2 ho => by
    refine List.mem_iff_getElem?.2 ⟨j - c, ?_⟩
    rw [List.getElem?_drop, List.getElem?_take, if_pos (by omega), show c + (j - c) = j by omega]; exact ho
  have hdst' : dstOK x.k (all.take hd) = true := List.all_eq_true.2 (fun o ho => List.all_eq_true.1 hdst o (List.mem_of_mem_take ho))
  -- what the head leaves, late operations yet to come
  have ends : ∀ {listed : Array Bool} {U : List Nat} {a : Act} {w : World} {S : Store} {ρ : Rho} {H : HF}, Left all listed U → (∀ i ∈ U, c ≤ i) → Good x (all.take hd) tr e h h' listed a w S ρ H → Sat x (hideE (dstU all hd U) e') h' n' a w := by
    intro listed U a w S ρ H hL hl hg
    have lst : ∀ i, i < hd → i ∉ U → listed.getD i false = true := fun i hi hn => by
      cases hli : listed.getD i false with
      | true => rfl
      | false => exact absurd ((hL.mem i).2 ⟨by omega, hli⟩) hn
    have eH : H = h'.look := by
      funext r
      cases hr : h'.look r with
      | none =>
        cases hH : H r with
        | none => rfl
        | some k => have := hg.sub r k hH; rw [hr] at this; cases this
      | some k =>
        rcases F.whence r k hr with h1 | ⟨i, s, h1, h2⟩
        · exact hg.old r k h1
        · have hi : i < hd := by
            have := (List.getElem?_eq_some_iff.1 h1).1
            rw [F.len, hll] at this; exact this
          have hoi : all[i]? = some all[i] := by simp [show i < all.length by omega]
          by_cases hiU : i ∈ U
          · have := hN i _ s (takeE i _ hi hoi) h1 (List.all_eq_true.1 hlate _ (isLate i _ (hl i hiU) hi hoi))
            rw [this] at h2; simp [Heap.look] at h2
          · exact hg.new i s r k h1 (lst i hi hiU) h2
    refine ⟨S, ρ, hg.s1, hg.s2, by rw [← eH]; exact hg.rel, by rw [← eH]; exact hg.fix, fun t => ?_, hg.kept, hg.size, hg.defers, F.keys, Nat.le_trans hxn F.le⟩
    rw [← eH, hideE_get]
    by_cases htU : t ∈ dstU all hd U
    · rw [if_pos htU]; exact .pure _ _ (.undef _)
    · rw [if_neg htU]
      refine F.fin t _ _ _ _ ?_
      by_cases hex : ∃ (i : Nat) (p : Oper), (all.take hd)[i]? = some p ∧ p.dst = some t
      · obtain ⟨i, p, hp, hpd⟩ := hex
        have hi := (List.getElem?_eq_some_iff.1 hp).1
        have hit : i < tr.length := by rw [F.len]; exact hi
        have hst : tr[i]? = some tr[i] := by simp [hit]
        rw [cur_some _ tr e.get _ i t p tr[i] hi hp hst hpd (fun q o' hq hne ho' hdo => by
          have h1 := zipIdx_all (zipIdx_all hssa ho') hp
          simp only [hpd, Bool.and_eq_true, Bool.or_eq_true, beq_iff_eq, bne_iff_ne, ne_eq] at h1
          rcases h1.1.1 with h2 | h2
          · exact hne h2.symm
          · exact h2 hdo)]
        refine hg.done i p _ t hp hst (lst i (by omega) (fun hiU => htU (mem_dstU.2 ⟨i, hiU, by omega, ?_⟩))) hpd
        rw [gdst_of (hall i p hp)]; exact hpd
      · rw [cur_none _ tr e.get _ t (fun i p _ hp hpd => hex ⟨i, p, hp, hpd⟩)]
        exact hg.rest t (fun i p hp hpd => hex ⟨i, p, hp, hpd⟩)
  -- whatever order
  have main : ∀ (fuel : Nat) (U : List Nat) (listed : Array Bool) (a : Act) (w : World) (S : Store) (ρ : Rho) (H : HF), Left all listed U → (∀ i, hd ≤ i → i < all.length → i ∈ U) → U.length ≤ fuel →
      (∀ j oj, all.toArray[j]? = some oj → listed.getD j false = true → ∀ ed ∈ oj.after, Region.binds .any ed = true → listed.getD ed.on false = true) →
      Good x (all.take hd) tr e h h' listed a w S ρ H → wpAny P .any all.toArray Q fuel listed a w := by
    intro fuel
    induction fuel with
    | zero =>
      intro U listed a w S ρ H hL hUt hf hcl hg
      have hU0 : U = [] := List.length_eq_zero_iff.1 (by omega)
      exact absurd (hUt hd (Nat.le_refl _) hhd) (by rw [hU0]; simp)
    | succ fuel ih =>
      intro U listed a w S ρ H hL hUt hf hcl hg
      by_cases hrem : ∃ i ∈ U, i < c
      · -- some operation ahead of the late ones is left
        have hne : U ≠ [] := by obtain ⟨i, hi, _⟩ := hrem; intro e; subst e; cases hi
        obtain ⟨m, hm1, hm2⟩ := exists_least U hne
        have hmr := ready_least hback hL hm1 hm2
        refine ⟨fun h0 => (by rw [h0] at hmr; cases hmr), fun j hj => ?_⟩
        have hjU := ready_mem hL hj
        have hjhd : j < hd := by
          rcases Nat.lt_or_ge j hd with h | h
          · exact h
          · exfalso
            obtain ⟨hja, hjf⟩ := (hL.mem j).1 hjU
            rcases Nat.lt_or_ge hd j with h2 | h2
            · have g1 := List.all_eq_true.1 hchain j (List.mem_range.2 (by simpa using hja))
              simp only [Bool.or_eq_true, decide_eq_true_eq] at g1
              rcases g1 with g1 | g1
              · omega
              · obtain ⟨o', ho', ed, he, hb, hon⟩ := Region.waitsFor_spec g1
                obtain ⟨_, o2, ho2, hall2⟩ := mem_ready.1 hj
                rw [ho'] at ho2; cases ho2
                have := hall2 ed he hb
                rw [hon] at this
                have hm : j - 1 ∈ U := hUt (j - 1) (by omega) (by omega)
                have := ((hL.mem (j - 1)).1 hm).2
                simp_all
            · obtain rfl : j = hd := by omega
              obtain ⟨i, hi1, hi2⟩ := hrem
              obtain ⟨_, o2, ho2, hall2⟩ := mem_ready.1 hj
              have g1 := List.all_eq_true.1 hneed i (List.mem_range.2 hi2)
              have g2 : i ∈ needsL all j [j] := by simpa using g1
              rcases needsL_ok hcl j (fun o ho ed he hb => by
                have : all.toArray[j]? = some o := by simpa using ho
                rw [this] at ho2; cases ho2
                exact hall2 ed he hb) j [j] (fun i hi => .inl (by simpa using hi)) i g2 with h3 | h3
              · omega
              · have := ((hL.mem i).1 hi1).2
                simp_all
        obtain ⟨hL', hlen⟩ := hL.step hjU
        have hjs : j < listed.size := by rw [hL.size]; omega
        refine good_step hxn F hall hback hssa hgd hdst' hL.size hg hj (by rw [hll]; exact hjhd) (fun a' w' S' ρ' H' hg' => ?_)
        refine ih _ _ a' w' S' ρ' H' hL' (fun i hi1 hi2 => ?_) (by omega) (fun q oq hoq hlq ed hed hb => ?_) hg'
        · rw [hL.nodup.mem_erase_iff]; exact ⟨by omega, hUt i hi1 hi2⟩
        · rw [getD_set _ _ _ _ hjs] at hlq ⊢
          split
          · rfl
          · split at hlq
            · rename_i e1; subst e1
              obtain ⟨_, o2, ho2, hall2⟩ := mem_ready.1 hj
              rw [hoq] at ho2; cases ho2
              exact hall2 ed hed hb
            · exact hcl q oq hoq hlq ed hed hb
      · have hUc : ∀ j ∈ U, c ≤ j := fun j hj => by
          rcases Nat.lt_or_ge j c with h | h
          · exact absurd ⟨j, hj, h⟩ hrem
          · exact h
        exact late_ok hT hx0 hK hchk0 hdst (fuel + 1) hd e' h' n' listed U a w (Nat.le_refl _) (by omega) hL hUc (fun j h1 => ⟨fun hj => ⟨h1, ((hL.mem j).1 hj).1⟩, fun h2 => hUt j h1 h2.2⟩) hf hkt
          (fun j o hj hjh ho => lateP_at hlp o (isLate j o (hUc j hj) hjh ho)) (ends hL hUc hg)
  obtain ⟨S, ρ, s1, s2, s3, sf, s4, s5, s6, s7, s8⟩ := hs'
  refine main all.toArray.size (List.range all.length) _ a _ S ρ h.look ⟨by simp, fun j => ?_, List.nodup_range⟩ (fun i _ hi => List.mem_range.2 hi) (by simp) (fun j oj _ hl => ?_) ?_
  · simp only [List.mem_range]
    constructor
    · intro hj; exact ⟨hj, getD_replicate_false _ _⟩
    · exact fun h => h.1
  · rw [getD_replicate_false] at hl; cases hl
  · refine ⟨s1, s2, s3, sf, fun r k hr => F.old r k hr, fun _ _ h => h, fun i s r k hs hl => (by rw [getD_replicate_false] at hl; cases hl), fun i s r hs _ hr => ?_, fun i o s d ho hs hl => (by rw [getD_replicate_false] at hl; cases hl), fun t _ => s4 t, s5, s6, s7⟩
    cases hh : h.look r with
    | none => rfl
    | some k =>
      obtain ⟨k', hk'⟩ := Option.ne_none_iff_exists'.1 hr
      have h1 := (F.new i s r k' hs hk').2
      have h2 := hk0 r (by rw [hh]; simp)
      omega

/-- With its operations reckoned in another order. -/
theorem draw_late_perm (hT : TabOK P C) (hx0 : x.n0 ≤ hint.n0) (hm : P.follows .mixedOrders = true) {all all' : List Oper} {f : Nat → Nat} (hp : PermOf all all' f) {c hd : Nat} (hchk : lateOK hint all' c hd = true) (hdst : dstOK x.k all' = true) {id : Nat} {e : Env} {h : Heap} {n : Nat} {a : Act} {w : World}
    {Q : Exit → Act → World → Prop} {K : Env → Heap → Nat → Prop} (hK : ∀ e h n a w, K e h n → Sat x e h n a w → Q .normal a w)
    (hop : opsA P C hint all' (all'.take hd) e h n (fun e h n => lateP P C hint e ((all'.take hd).drop c) ∧ opsA P C hint all' (all'.drop hd) e h n K)) (hs : Sat x e h n a w) :
    (Code.region id all.toArray true).wp P Q a w := by
  refine wp_region_any hm ?_
  have h1 := draw_late hT hx0 hchk hdst hK hop hs
  have e1 : all'.toArray.size = all.toArray.size := by simp [hp.len]
  rw [e1] at h1
  refine wpAny_perm hp _ _ _ _ _ ⟨by simp, by simp, fun i hi b => ?_⟩ h1
  simp only [List.size_toArray]
  rw [getD_rep (hp.lt i hi), getD_rep hi]
end
end Go.Vc
namespace Go.Vc
open Go.RowKit

/-! ### A row of one's own matrix, lengthened in its place: m[i] = append(m[i], ..) -/
section
variable {P : Program} {hint : Hint}

/-- What an operation leaves of the other temporaries. -/
theorem wp_put {o : Oper} {a : Act} {w : World} {N : Act → World → Prop} {Q : Exit → Act → World → Prop} (h : o.wp P a w (fun a' w' => (∃ v, a'.tmps = (a.put o.dst v).tmps) → N a' w') Q) : o.wp P a w N Q := by
  unfold Oper.wp at *
  generalize (execOp a.eval o).run P w = r at *
  cases r with
  | ok n w' =>
    cases n with
    | value v => exact h ⟨v, rfl⟩
    | skip => exact h ⟨Go.undef, rfl⟩
    | defer d => exact h ⟨Go.undef, by cases o.dst <;> rfl⟩
    | enter f args => exact Calls.mono h (fun e w'' he => by cases e <;> first | exact he ⟨_, rfl⟩ | exact he)
    | row r args => exact Rows.mono h (fun v w'' he => he ⟨v, rfl⟩)
    | _ => exact h
  | halt x w' => cases x <;> exact h

def hint0 : Hint := ⟨fun _ => false, fun _ => [], 0, fun _ => false, fun _ => false, fun _ => [], fun _ => []⟩
theorem eval_put {a a' : Act} {d : Option Tmp} {v : Value} (h : a'.tmps = (a.put d v).tmps) {y : Operand} (hy : ∀ t, y = .tmp t → d ≠ some t) : a'.eval y = a.eval y := by
  cases y with
  | tmp t =>
    show a'.tmps.getD t Go.undef = a.tmps.getD t Go.undef
    rw [h, put_getD (hy t rfl)]
  | _ => rfl

def rowE (ts : Tmp) (y : Operand) (ys : List Int) : Env := (ts, .sl 0) :: (match y with | .tmp t => [(t, .ints ys)] | _ => [])
/-- The row of a matrix, alone. -/
theorem row_alone {x : Cx} {h : Heap} {a : Act} {w : World} {S : Store} {ρ : Rho} {r : Nat} {i : Int} {xss : List (List Int)} {ts : Tmp} {y : Operand} {ys : List Int}
    (hrel : Rel x.own S ρ h.look w) (hk : a.tmps.size = x.k) (hdf : a.defers = []) (hr : h.look r = some (.mat xss)) (hs : V S ρ h.look (.mr r i) (a.tmps.getD ts Go.undef)) (hy : V S ρ h.look (.ints ys) (a.eval y)) (hne : ∀ t, y = .tmp t → t ≠ ts) :
    ∃ row e1, xss[i.toNat]? = some row ∧ 0 ≤ i ∧ Sat ⟨w, fun b => (ρ.rcap r i.toNat ≠ 0 ∧ b = ρ.blk r (i.toNat + 1)) ∨ w.heap.size ≤ b, x.k, S, 0, ρ, fun b hb => .inr hb⟩ e1 [(0, .arr (.ints row))] 1 a w ∧
      e1.get ts = .sl 0 ∧ (opnd e1 y = .ints ys ∨ (∃ c, y = .const c) ∨ (∃ f, y = .func f) ∨ (∃ g, y = .global g)) := by
  obtain ⟨xss1, row, hb1, h0, hi, a0, hl, hcv, ha0⟩ := hs.mr_inv
  rw [hr] at hb1; cases hb1
  obtain ⟨c, _, _, _, hrows⟩ := hrel.blk r _ hr
  have hpure : Sees S (.ints ys) (a.eval y) := by
    cases hy with
    | pure _ _ h => exact h
  refine ⟨row, rowE ts y ys, hi, h0, ⟨S, ⟨fun _ _ => ρ.blk r (i.toNat + 1), fun _ => ρ.rcap r i.toNat, fun _ _ => 0⟩, fun _ _ h => h, fun b h1 h2 => absurd h1 h2, ⟨hrel.stab, hrel.amb, fun q k hq => ?_, fun q j hf => ?_, fun q j q' j' h1 h2 _ => ?_⟩, fun q hq => absurd hq (Nat.not_lt_zero _), fun t => ?_, .refl _ _, hk, hdf, fun q hq => ?_, Nat.zero_le _⟩, by simp [rowE, Env.get], ?_⟩
  · simp only [Heap.look] at hq
    split at hq
    · rename_i e'; subst e'; cases hq
      by_cases hc0 : ρ.rcap r i.toNat = 0
      · have hrow0 : row = [] := List.length_eq_zero_iff.1 (by omega)
        subst hrow0
        exact ⟨[], 1, #[], rfl, fun h => (h hc0).elim, by simp [hc0], by simp, ⟨fun x hx => by simp at hx, fun i x j y hx => by simp at hx⟩⟩
      · obtain ⟨dd, hd1, hd2, hd3⟩ := (hrows _ _ hi).2 hc0
        refine ⟨row.map .i, 1, dd, rfl, fun _ => hd1, by simp [hd2], by simpa using hl, ⟨fun y hy => ?_, fun q' y j z hy hz => ?_⟩⟩
        · obtain ⟨n', _, rfl⟩ := List.mem_map.1 hy; rfl
        · rw [List.getElem?_map] at hy
          obtain ⟨n', hn', rfl⟩ := Option.map_eq_some_iff.1 hy
          cases j with
          | zero => simp [AV.cells] at hz; subst hz; exact ⟨_, by simpa using hd3 _ _ hn', .int _ _⟩
          | succ j => simp [AV.cells] at hz
    · cases hq
  · unfold foot at hf
    simp only [Heap.look] at hf
    by_cases e' : (0 : Nat) = q
    · rw [if_pos e'] at hf
      exact ⟨.inl ⟨hf.2, rfl⟩, (hrel.owned r _ (foot_row hr hi hf.2)).2⟩
    · rw [if_neg e'] at hf; exact hf.elim
  · unfold foot at h1 h2
    simp only [Heap.look] at h1 h2
    by_cases e1 : (0 : Nat) = q
    · by_cases e2 : (0 : Nat) = q'
      · rw [if_pos e1] at h1; rw [if_pos e2] at h2
        exact ⟨by omega, by rw [h1.1, h2.1]⟩
      · rw [if_neg e2] at h2; exact h2.elim
    · rw [if_neg e1] at h1; exact h1.elim
  · simp only [rowE, Env.get]
    by_cases ht : ts = t
    · subst ht; rw [if_pos rfl, hcv]
      have := V.sl (S := S) (ρ := ⟨fun _ _ => ρ.blk r (i.toNat + 1), fun _ => ρ.rcap r i.toNat, fun _ _ => 0⟩) (H := Heap.look [(0, .arr (.ints row))]) 0 (.ints row) (row.map .i) 1 a0 (by simp [Heap.look]) rfl ha0
      simpa using this
    · rw [if_neg ht]
      cases y with
      | tmp t' =>
        simp only [Env.get]
        by_cases h2 : t' = t
        · subst h2; rw [if_pos rfl]; exact .pure _ _ hpure
        · rw [if_neg h2]; exact .pure _ _ (.undef _)
      | _ => exact .pure _ _ (.undef _)
  · simp only [Heap.look] at hq
    split at hq
    · omega
    · exact (hq rfl).elim
  · cases y with
    | tmp t =>
      refine .inl ?_
      show (rowE ts (.tmp t) ys).get t = _
      have h2 : ¬ ts = t := fun e => hne t rfl e.symm
      simp [rowE, Env.get, h2]
    | const c => exact .inr (.inl ⟨c, rfl⟩)
    | func f => exact .inr (.inr (.inl ⟨f, rfl⟩))
    | global g => exact .inr (.inr (.inr ⟨g, rfl⟩))

theorem fuse_ok {x : Cx} (hx0 : x.n0 ≤ hint.n0) {e : Env} {h : Heap} {n : Nat} {a : Act} {w : World} {o1 o2 o3 : Oper} {ts d1 d2 : Tmp} {y p k : Operand} {t1 tx t2 t3 : TypeId} (ho1 : o1.op = .call ⟨.builtin .append, ⟨[.tmp ts, y]⟩, ⟨[t1, tx]⟩⟩) (hd1 : o1.dst = some d1)
    (ho2 : o2.op = .indexAddr t2 p k) (hd2 : o2.dst = some d2) (ho3 : o3.op = .store t3 (.tmp d2) (.tmp d1)) (hd3 : o3.dst = none) (hs : Sat x e h n a w)
    (hne : d1 ≠ d2) (hy1 : ∀ t, y = .tmp t → t ≠ ts) (hp1 : ∀ t, p = .tmp t → d1 ≠ t) (hk1 : ∀ t, k = .tmp t → d1 ≠ t) (hk1d : d1 < x.k) (hk2d : d2 < x.k)
    {r : Nat} {i : Int} {xss : List (List Int)} {ys : List Int} {kk : IntKind} (hs1 : e.get ts = .mr r i) (hr : h.look r = some (.mat xss)) (hy : opnd e y = .ints ys) (hp : opnd e p = .mt r) (hk : opnd e k = .int kk i)
    (hge : hint.n0 ≤ r) (hap : apP (ap P t1) 1 ((ix xss i).length + ys.length)) (hsl : isSl P tx) (hed : ed P t2 = some (none, 1)) (htd : td P t3 = .one)
    {next : Act → World → Prop} {Q : Exit → Act → World → Prop}
    (hK : ∀ a' w', Sat x ((d2, .undef) :: (d1, .undef) :: trE (purN [] [r]) e) ((r, .mat (xss.set i.toNat (ix xss i ++ ys))) :: trH (purN [] [r]) [r] h) n a' w' → next a' w') : o1.wp P a w (fun a1 w1 => o2.wp P a1 w1 (fun a2 w2 => o3.wp P a2 w2 next Q) Q) Q := by
  obtain ⟨S, ρ, s1, s2, hrel, hfx, hE, hkept, hkx, hdf, hn, hn0⟩ := hs
  have hvs := hE ts
  rw [hs1] at hvs
  have hvy := hE.opnd y
  rw [hy] at hvy
  have hvp := hE.opnd p
  rw [hp] at hvp
  have hvk := hE.opnd k
  rw [hk] at hvk
  obtain ⟨row, e1, hi, h0, hsat1, he1s, he1y⟩ := row_alone hrel hkx hdf hr hvs hvy hy1
  have hix : ix xss i = row := by have := ix_get (List.getElem?_eq_some_iff.1 hi).1; rw [hi] at this; exact (Option.some.inj this).symm
  rw [hix] at hap hK
  have hil : i.toNat < xss.length := (List.getElem?_eq_some_iff.1 hi).1
  have he1y : opnd e1 y = .ints ys := by
    rcases he1y with h | ⟨c, rfl⟩ | ⟨f, rfl⟩ | ⟨g, rfl⟩
    · exact h
    · exact hy
    · exact hy
    · exact hy
  have happ : appR hint0 P t1 tx (opnd e1 (.tmp ts)) (blkOf [(0, .arr (.ints row))] (opnd e1 (.tmp ts))) (opnd e1 y) e1 [(0, .arr (.ints row))] =
      ⟨0 ≤ 0 ∧ apP (ap P t1) 1 ((row ++ ys).length) ∧ isSl P tx, purE 0 e1, [(0, .arr (.ints (row ++ ys)))]⟩ := by
    have e0 : opnd e1 (.tmp ts) = .sl 0 := he1s
    rw [e0, he1y]; rfl
  refine wp_put (append_ok (hint := hint0) (Nat.le_refl _) ho1 hsat1 (by rw [happ]; exact ⟨Nat.le_refl _, by rw [List.length_append]; exact hap, hsl⟩) (fun t ht => by rw [hd1] at ht; cases ht; exact hk1d) (fun a1 w1 hs2 hput => ?_))
  rw [happ] at hs2
  obtain ⟨v1, hput⟩ := hput
  rw [hd1] at hs2 hput
  obtain ⟨S1, ρ1, u1, u2, urel, _, uE, ukept, usz, udf, _, _⟩ := hs2
  have hS1 : S.le S1 := u1
  -- what the append has given
  have hv1 := uE d1
  have hg1 : (dset (purE 0 e1) (some d1) (opnd e1 (.tmp ts))).get d1 = .sl 0 := by
    have e0 : opnd e1 (.tmp ts) = .sl 0 := he1s
    rw [e0]; simp [dset, Env.get]
  rw [hg1] at hv1
  obtain ⟨v2, xs2, m2, a2, hcv, hb2, hel, ha2⟩ := hv1.sl_inv
  have hlk : Heap.look [(0, Blk.arr (.ints (row ++ ys)))] 0 = some (.arr (.ints (row ++ ys))) := by simp [Heap.look]
  rw [hlk] at hb2; cases hb2
  simp only [AV.elems, Option.some.injEq, Prod.mk.injEq] at hel; obtain ⟨rfl, rfl⟩ := hel
  rw [List.length_map] at hcv
  obtain ⟨xs3, m3, cm, he3, hcm, hszm, hcapm, harr⟩ := urel.blk 0 _ hlk
  simp only [AV.elems, Option.some.injEq, Prod.mk.injEq] at he3; obtain ⟨rfl, rfl⟩ := he3
  simp only [List.length_map, Nat.mul_one] at hcapm hszm
  have hown1 : ρ1.cap 0 ≠ 0 → (ρ.rcap r i.toNat ≠ 0 ∧ ρ1.blk 0 0 = ρ.blk r (i.toNat + 1)) ∨ w.heap.size ≤ ρ1.blk 0 0 := fun h0 => (urel.owned 0 0 (foot_arr hlk h0)).1
  -- the matrix as it stands
  obtain ⟨c, hc, hsz, hcap, hrows⟩ := hrel.blk r _ hr
  have hcap0 : ρ.cap r ≠ 0 := by omega
  have hf0 := foot_mat (ρ := ρ) hr hcap0
  obtain ⟨cl, hcw⟩ : ∃ el, w.heap[ρ.blk r 0]? = some (.cells c el (0, 0)) := hc hcap0
  have hb0 : ρ.blk r 0 < w.heap.size := (Array.getElem?_eq_some_iff.1 hcw).1
  have hnot : ∀ b, b < w.heap.size → ¬ (ρ.rcap r i.toNat ≠ 0 ∧ b = ρ.blk r (i.toNat + 1)) → w1.heap[b]? = w.heap[b]? := fun b hb hn => ukept.block b hb (fun h => by
    rcases h with h | h
    · exact hn h
    · omega)
  have hb0n : ¬ (ρ.rcap r i.toNat ≠ 0 ∧ ρ.blk r 0 = ρ.blk r (i.toNat + 1)) := fun h => by
    have := (hrel.sep r 0 r (i.toNat + 1) hf0 (foot_row hr hi h.1) h.2).2; omega
  have hc1 : OwnCells w1 (ρ.blk r 0) c := ⟨cl, by rw [hnot _ hb0 hb0n]; exact hcw⟩
  obtain ⟨cl1, hcw1⟩ := hc1
  -- the place in the matrix
  have hpv : a1.eval p = a.eval p := eval_put hput (fun t ht e => hp1 t ht (by simpa using e))
  have hkv : a1.eval k = a.eval k := eval_put hput (fun t ht e => hk1 t ht (by simpa using e))
  obtain ⟨xssp, ap1, hpe, hrp, hap1⟩ := hvp.mt_inv
  rw [hr] at hrp; cases hrp
  rw [hap1 hcap0] at hpe
  have hke := hvk.int_inv
  obtain ⟨eT, hu, hszE⟩ : ∃ eT, P.underlying t2 = some (.slice eT) ∧ (sizeOf eT).run P w1 = .ok 1 w1 := by
    unfold ed at hed
    split at hed
    · rename_i e' hu
      cases hi' : P.info? e' with
      | none => rw [hi'] at hed; simp at hed
      | some i' => rw [hi'] at hed; simp at hed; exact ⟨e', hu, by simp [sizeOf, typeInfo, hi', hed]⟩
    · rename_i n' e' hu
      cases hi' : P.info? e' with
      | none => rw [hi'] at hed; simp at hed
      | some i' => rw [hi'] at hed; simp at hed
    · cases hed
  have hilI : i < xss.length := by omega
  have hrun2 : (execOp a1.eval o2).run P w1 = .ok (.value (.pointer (some ⟨ρ.blk r 0, i.toNat, none⟩))) w1 := by
    simp [execOp, ho2, hpv, hkv, hpe, hke, Instr.indexAt, run_underlying hu, asIntOf, h0, hilI, hszE, add_none]
  unfold Oper.wp
  rw [hrun2]
  show o3.upon P (a1.put o2.dst _) next Q _
  rw [hd2]
  -- the store
  have hsz1 : a1.tmps.size = x.k := usz
  have hE2 : (a1.put (some d2) (.pointer (some ⟨ρ.blk r 0, i.toNat, none⟩))).eval (.tmp d2) = .pointer (some ⟨ρ.blk r 0, i.toNat, none⟩) := put_getD_self (by rw [hsz1]; exact hk2d)
  have hE1 : (a1.put (some d2) (.pointer (some ⟨ρ.blk r 0, i.toNat, none⟩))).eval (.tmp d1) = a1.tmps.getD d1 Go.undef := put_getD (by intro e; cases e; exact hne rfl)
  generalize haa : a1.put (some d2) (.pointer (some ⟨ρ.blk r 0, i.toNat, none⟩)) = a2' at hE1 hE2
  generalize hcvv : a1.tmps.getD d1 Go.undef = hv at hE1 hcv
  have hrun3 := run_storeAt (P := P) (w := w1) ⟨cl1, hcw1⟩ (t := t3) (o := i.toNat) (cv := hv) (.inl ⟨htd, by rw [(run_isAgg_one (w := w1) htd).2, hcv]; rfl⟩) (by rw [hcv]; simp [Value.cells]; omega) (by rw [hcv]; simp [Value.cells, Value.oneCell'])
  generalize hcc : (c.toList.take i.toNat ++ hv.cells.toList ++ c.toList.drop (i.toNat + hv.cells.toList.length)).toArray = cc at hrun3
  have hccq : ∀ q, cc[q]? = if q = i.toNat then some hv else c[q]? := fun q => by
    have e1 : hv.cells.toList = [hv] := by rw [hcv]; rfl
    rw [← hcc, e1, List.getElem?_toArray]
    simp only [List.length_singleton]
    rw [splice_one _ _ _ _ (by simp; omega)]
    simp
  have hccs : cc.size = c.size := by
    rw [← hcc, hcv]; simp [Value.cells]; omega
  have hrunS : (execOp a2'.eval o3).run P w1 = .ok .skip (w1.setRow (ρ.blk r 0) cc) := by
    simp [execOp, ho3, hE1, hE2, hrun3]
  rw [hrunS]
  show next (a2'.put o3.dst Go.undef) _
  rw [hd3]
  show next a2' _
  apply hK
  -- the relation behind it
  have hother : ∀ b, b ≠ ρ.blk r 0 → (w1.setRow (ρ.blk r 0) cc).heap[b]? = w1.heap[b]? := fun b hb => setRow_other w1 _ _ _ hb
  let ρ' : Rho := ⟨fun q j => if q = r ∧ j = i.toNat + 1 then ρ1.blk 0 0 else ρ.blk q j, ρ.cap, fun q j => if q = r ∧ j = i.toNat then ρ1.cap 0 else ρ.rcap q j⟩
  have hHr : Heap.look ((r, .mat (xss.set i.toNat (row ++ ys))) :: trH (purN [] [r]) [r] h) r = some (.mat (xss.set i.toNat (row ++ ys))) := by simp [Heap.look]
  have hHo : ∀ q, ¬ (q = r) → Heap.look ((r, .mat (xss.set i.toNat (row ++ ys))) :: trH (purN [] [r]) [r] h) q = (h.look q).map (Blk.tr (purN [] [r])) := fun q hq => by
    simp only [Heap.look]; rw [if_neg (fun e => hq e.symm), trH_look]
    have : memN [r] q = false := by
      cases hmm : memN [r] q with
      | false => rfl
      | true => have := memN_mem.1 hmm; simp at this; exact (hq this).elim
    rw [this]; rfl
  generalize hH' : (r, Blk.mat (xss.set i.toNat (row ++ ys))) :: trH (purN [] [r]) [r] h = h' at hHr hHo
  have bq : ∀ q j, q ≠ r → ρ'.blk q j = ρ.blk q j := fun q j hq => by simp [ρ', hq]
  have rq : ∀ q j, q ≠ r → ρ'.rcap q j = ρ.rcap q j := fun q j hq => by simp [ρ', hq]
  have b0 : ρ'.blk r 0 = ρ.blk r 0 := by simp [ρ']
  have bi : ρ'.blk r (i.toNat + 1) = ρ1.blk 0 0 := by simp [ρ']
  have bo : ∀ j, j ≠ i.toNat → ρ'.blk r (j + 1) = ρ.blk r (j + 1) := fun j hj => by simp [ρ', hj]
  have ri : ρ'.rcap r i.toNat = ρ1.cap 0 := by simp [ρ']
  have ro : ∀ j, j ≠ i.toNat → ρ'.rcap r j = ρ.rcap r j := fun j hj => by simp [ρ', hj]
  have hfoot : ∀ j, foot ρ' (Heap.look h') r j → (j = 0 ∧ ρ'.blk r j = ρ.blk r 0) ∨ (j = i.toNat + 1 ∧ ρ1.cap 0 ≠ 0 ∧ ρ'.blk r j = ρ1.blk 0 0) ∨ (j ≠ i.toNat + 1 ∧ j ≠ 0 ∧ foot ρ h.look r j ∧ ρ'.blk r j = ρ.blk r j) := fun j hf => by
    unfold foot at hf
    rw [hHr] at hf
    rcases hf with ⟨rfl, _⟩ | ⟨i', row', rfl, hi', hne'⟩
    · exact .inl ⟨rfl, b0⟩
    · by_cases e' : i' = i.toNat
      · subst e'; rw [ri] at hne'; exact .inr (.inl ⟨rfl, hne', bi⟩)
      · rw [ro i' e'] at hne'
        rw [getElem?_set_list _ _ _ _ hil, if_neg e'] at hi'
        exact .inr (.inr ⟨by omega, by omega, foot_row hr hi' hne', bo i' e'⟩)
  -- a block of another place is not the new row's
  have apart : ∀ q j, foot ρ h.look q j → ¬ (q = r ∧ j = i.toNat + 1) → ρ1.cap 0 ≠ 0 → ρ.blk q j ≠ ρ1.blk 0 0 := fun q j hf hn hc0 e => by
    rcases hown1 hc0 with ⟨h1, h2⟩ | h2
    · have := hrel.sep q j r (i.toNat + 1) hf (foot_row hr hi h1) (by rw [e, h2])
      exact hn this
    · have := hrel.foot_lt hf; omega
  have hb0c : ∀ _ : ρ1.cap 0 ≠ 0, ρ.blk r 0 ≠ ρ1.blk 0 0 := fun h => apart r 0 hf0 (fun h => by omega) h
  have old : ∀ b c', OwnCells w b c' → b ≠ ρ.blk r 0 → ¬ (ρ.rcap r i.toNat ≠ 0 ∧ b = ρ.blk r (i.toNat + 1)) → OwnCells (w1.setRow (ρ.blk r 0) cc) b c' := fun b c' ⟨el, hb⟩ h1 h2 =>
    ⟨el, by rw [hother _ h1, hnot _ (Array.getElem?_eq_some_iff.1 hb).1 h2]; exact hb⟩
  obtain ⟨g1, g2⟩ := Rel.turn (H' := (Heap.look h')) (ρ' := ρ') (w' := w1.setRow (ρ.blk r 0) cc) (φ := purN [] [r]) (D := fun q => q = r) (k' := .mat (xss.set i.toNat (row ++ ys))) hrel (r := r) rfl hHr hHo (fun q h1 h2 => (h2 h1).elim)
    (fun a1 cv1 hra hv1 => purN_ref hra hv1 (fun n1 n2 n3 => by
      by_cases hqr : a1.rbase = r
      · cases hv1 with
        | pure _ _ h => exact (ref_not_pure hra h).elim
        | vec => cases hra
        | agg => cases hra
        | tup => cases hra
        | fn => cases hra
        | sl q v xs m' a2 hr' he ha => simp only [AV.rbase] at hqr; subst hqr; rw [hr] at hr'; cases hr'
        | mt q xss' a2 hr' ha =>
          simp only [AV.rbase] at hqr; subst hqr; rw [hr] at hr'; cases hr'
          have := V.mt (S := S) (ρ := ρ') (H := (Heap.look h')) q _ a2 hHr (by rw [b0]; exact ha)
          simpa using this
        | mr q i' xss' row' cv' hr' h0' hi' h' => simp only [AV.rbase] at hqr n2; have := n2 i'; simp [hqr] at this
        | bx q off cs hr' ho' => simp only [AV.rbase] at hqr; subst hqr; rw [hr] at hr'; cases hr'
        | pa q i' v xs m' hr' he h0' hi' => simp only [AV.rbase] at hqr; subst hqr; rw [hr] at hr'; cases hr'
        | pm q i' j' xss' row' hr' h0' hi' hj0 hj => simp only [AV.rbase] at hqr n3; have := n3 i' j'; simp [hqr] at this
        | po q i' xss' hr' h0' hi' =>
          simp only [AV.rbase] at hqr; subst hqr; rw [hr] at hr'; cases hr'
          have := V.po (S := S) (ρ := ρ') (H := (Heap.look h')) q i' _ hHr h0' (by simpa using hi')
          rwa [b0] at this
      · refine hv1.ref_shape hra (fun k hk => ?_) (fun j => bq _ j hqr) rfl (fun j => rq _ j hqr)
        exact ⟨_, by rw [hHo _ hqr, hk]; rfl, same_tr (hrel.blk _ _ hk) _⟩))
    (fun q j hq => bq q j hq) (fun q _ => rfl) (fun q j hq => rq q j hq)
    (fun b c' hb hne' => old b c' hb (hne' r 0 rfl hf0) (fun h => hne' r _ rfl (foot_row hr hi h.1) h.2))
    (fun b c' hb => by
      obtain ⟨el, fr, hb'⟩ := urel.stab b c' (hS1 b c' hb)
      refine ⟨el, fr, ?_⟩
      rw [hother _ (fun e' => ?_)]; exact hb'
      have := (hrel.owned r 0 hf0).2; rw [← e', hb] at this; cases this)
    (fun hV => by
      refine ⟨cc, fun _ => by rw [b0]; exact ⟨cl1, setRow_heap w1 _ _ _ _ _ hcw1⟩, by rw [hccs, hsz], by simpa using hcap, fun j row' hj => ⟨?_, fun hne' => ?_⟩⟩
      · rw [getElem?_set_list _ _ _ _ hil] at hj
        rw [hccq]
        split at hj
        · rename_i ej; subst ej; cases hj
          rw [if_pos rfl]
          exact ⟨_, rfl, a2, by rw [ri]; exact hcapm, by rw [hcv, ri], by rw [ri, bi]; exact ha2⟩
        · rename_i ej
          rw [if_neg ej]
          obtain ⟨u, hu, hrow⟩ := (hrows j row' hj).1
          exact ⟨u, hu, hrow.keep (bo j ej) (ro j ej)⟩
      · rw [getElem?_set_list _ _ _ _ hil] at hj
        split at hj
        · rename_i ej; subst ej; cases hj
          rw [ri] at hne'
          obtain ⟨elm, hcm'⟩ := hcm hne'
          refine ⟨cm, ?_, by rw [ri]; exact hszm, fun q n' hq => ?_⟩
          · rw [bi]
            exact ⟨elm, by rw [hother _ (fun e' => hb0c hne' e'.symm)]; exact hcm'⟩
          · obtain ⟨u, hu, hsu⟩ := harr.2 q (.int .i64 n') 0 (.int .i64 n') (by rw [List.getElem?_map, hq]; rfl) rfl
            cases hsu with
            | int => simpa using hu
            | lst _ _ _ _ _ he => simp [AV.elems] at he
        · rename_i ej
          rw [ro j ej] at hne' ⊢
          rw [bo j ej]
          obtain ⟨d, hd, hr2⟩ := (hrows j row' hj).2 hne'
          refine ⟨d, old _ _ hd (fun e' => ?_) (fun h => ?_), hr2⟩
          · have := (hrel.sep r (j + 1) r 0 (foot_row hr hj hne') hf0 e').2; omega
          · have := (hrel.sep r (j + 1) r (i.toNat + 1) (foot_row hr hj hne') (foot_row hr hi h.1) h.2).2; omega)
    (fun j hf => by
      rcases hfoot j hf with ⟨rfl, e'⟩ | ⟨rfl, hc0, e'⟩ | ⟨h1, h2, h3, e'⟩
      · rw [e']
        exact ⟨(hrel.owned r 0 hf0).1, (hrel.owned r 0 hf0).2, fun q j' hq hf' e2 => hq (hrel.sep q j' r 0 hf' hf0 e2).1⟩
      · rw [e']
        refine ⟨?_, ?_, fun q j' hq hf' => apart q j' hf' (fun h => hq h.1) hc0⟩
        · rcases hown1 hc0 with ⟨g1, g2⟩ | g2
          · rw [g2]; exact (hrel.owned r _ (foot_row hr hi g1)).1
          · exact x.hown _ (Nat.le_trans hkept.size g2)
        · rcases hown1 hc0 with ⟨g1, g2⟩ | g2
          · rw [g2]; exact (hrel.owned r _ (foot_row hr hi g1)).2
          · cases hSb : S (ρ1.blk 0 0) with
            | none => rfl
            | some c' => have := (hrel.stab _ _ hSb).lt; omega
      · rw [e']
        exact ⟨(hrel.owned r j h3).1, (hrel.owned r j h3).2, fun q j' hq hf' e2 => hq (hrel.sep q j' r j hf' h3 e2).1⟩)
    (fun j j' h1 h2 e' => by
      rcases hfoot j h1 with ⟨rfl, f1⟩ | ⟨rfl, hc0, f1⟩ | ⟨p1, p2, p3, f1⟩ <;> rcases hfoot j' h2 with ⟨rfl, f2⟩ | ⟨rfl, hc0', f2⟩ | ⟨q1, q2, q3, f2⟩ <;> (try rw [f1] at e') <;> (try rw [f2] at e')
      · exact (hb0c hc0' e').elim
      · exact (hrel.sep r 0 r j' hf0 q3 e').2
      · exact (hb0c hc0 e'.symm).elim
      · exact (apart r j' q3 (fun h => q1 h.2) hc0 e'.symm).elim
      · exact (hrel.sep r j r 0 p3 hf0 e').2
      · exact (apart r j p3 (fun h => p1 h.2) hc0' e').elim
      · exact (hrel.sep r j r j' p3 q3 e').2)
  have hh' : Heap.look h' = Heap.look h' := rfl
  refine ⟨S, ρ', s1, s2, g1, fun q h1 h2 => ?_, fun t => ?_, ?_, ?_, ?_, fun q hq => ?_, hn0⟩
  · have hqr : q ≠ r := by omega
    obtain ⟨f1, f2, f3⟩ := hfx q h1 (fun e0 => h2 (by rw [hHo q hqr, e0]; rfl))
    exact ⟨fun j => by rw [bq q j hqr, f1], f2, fun j => by rw [rq q j hqr, f3]⟩
  · simp only [Env.get]
    by_cases ht2 : d2 = t
    · rw [if_pos ht2]; exact .pure _ _ (.undef _)
    · rw [if_neg ht2]
      by_cases ht1 : d1 = t
      · rw [if_pos ht1]; exact .pure _ _ (.undef _)
      · rw [if_neg ht1, trE_get _ _ _ rfl]
        have : a2'.tmps.getD t Go.undef = a.tmps.getD t Go.undef := by
          rw [← haa, put_getD (fun e => ht2 (by simpa using e)), hput, put_getD (fun e => ht1 (by simpa using e))]
        rw [this]
        exact g2 _ _ (hE t)
  · -- what is not own is as it was
    refine ⟨ukept.os.trans hkept.os, ukept.tape.trans hkept.tape, ukept.output.trans hkept.output, ?_, fun b hb ho => ?_, fun d => Nat.le_trans (hkept.drawn d) (ukept.drawn d)⟩
    · have e1 : (w1.setRow (ρ.blk r 0) cc).heap.size = w1.heap.size := by simp [World.setRow]
      rw [e1]; exact Nat.le_trans hkept.size ukept.size
    · rw [hother _ (fun e => ho (by rw [e]; exact (hrel.owned r 0 hf0).1)), hnot b (Nat.lt_of_lt_of_le hb hkept.size) (fun h => ho (by rw [h.2]; exact (hrel.owned r _ (foot_row hr hi h.1)).1))]
      exact hkept.block b hb ho
  · rw [← haa, put_size]; exact hsz1
  · rw [← haa, put_defers]; exact udf
  · by_cases e' : q = r
    · subst e'; exact hn q (by rw [hr]; simp)
    · rw [hHo q e'] at hq
      exact hn q (fun e0 => hq (by rw [e0]; rfl))

theorem wp_q {o : Oper} {a : Act} {w : World} {N : Act → World → Prop} {Q Q' : Exit → Act → World → Prop} (hp : ∀ ch a w, Q' (.panic ch) a w → Q (.panic ch) a w) (ho : LetsOut Q' → LetsOut Q) (h : o.wp P a w N Q') : o.wp P a w N Q := by
  unfold Oper.wp at *
  generalize (execOp a.eval o).run P w = r at *
  cases r with
  | ok n w' =>
    cases n with
    | enter f args => exact Calls.mono h (fun e w'' he => by cases e <;> first | exact he | exact hp _ _ _ he | exact ho he)
    | _ => exact h
  | halt x w' => cases x <;> first | exact h | exact hp _ _ _ h
def thenQ (R : Act → World → Prop) (Q : Exit → Act → World → Prop) : Exit → Act → World → Prop := fun ex a w => match ex with | .normal => R a w | ex => Q ex a w
theorem wpList_append {ops : Array Oper} {Q : Exit → Act → World → Prop} (l2 : List Oper) : ∀ (l1 : List Oper) (a : Act) (w : World), wpList P ops (thenQ (wpList P ops Q l2) Q) l1 a w → wpList P ops Q (l1 ++ l2) a w
  | [], a, w, h => h
  | o :: l, a, w, h => by
    rw [List.cons_append]
    unfold wpList at h ⊢
    split
    · rename_i hw
      rw [if_pos hw] at h
      rcases h with h | h
      · exact .inl (wp_q (fun ch a w h => h) (fun h => h) (Oper.wp_mono (fun a w h => wpList_append l2 l a w h) h))
      · exact .inr h
    · rename_i hw
      rw [if_neg hw] at h
      exact wpList_append l2 l _ _ h

/-- Append to a row of a matrix of one's own, and store it there. -/
def fuseS (v : AV) (k : Option Blk) (y p i : AV) (A : Nat → Int → List (List Int) → List Int → Prop) : Prop :=
  match v, k, y, p, i with
  | .mr r i, some (.mat xss), .ints ys, .mt r', .int _ i' => (r' = r ∧ i' = i) ∧ A r i xss ys
  | _, _, _, _, _ => False
def fuseP (P : Program) (hint : Hint) (l : List Oper) (K : Env → Heap → Nat → Prop) (e : Env) (h : Heap) (n : Nat) : Prop :=
  match l with
  | [⟨some d1, .call ⟨.builtin .append, ⟨[.tmp ts, y]⟩, ⟨[t1, tx]⟩⟩, _, _, _, none⟩, ⟨some d2, .indexAddr t2 p k, _, _, _, none⟩, ⟨none, .store t3 _ _, _, _, _, none⟩] =>
    fuseS (e.get ts) (blkOf h (e.get ts)) (opnd e y) (opnd e p) (opnd e k) (fun r i xss ys =>
      (hint.n0 ≤ r ∧ apP (ap P t1) 1 ((ix xss i).length + ys.length) ∧ isSl P tx ∧ ed P t2 = some (none, 1) ∧ td P t3 = .one) ∧
        K ((d2, .undef) :: (d1, .undef) :: trE (purN [] [r]) e) ((r, .mat (xss.set i.toNat (ix xss i ++ ys))) :: trH (purN [] [r]) [r] h) n)
  | _ => False
def neTmp (y : Operand) (t : Tmp) : Bool := match y with | .tmp q => q != t | _ => true
theorem neTmp_ne {y : Operand} {t : Tmp} (h : neTmp y t = true) : ∀ q, y = .tmp q → q ≠ t := fun q e => by subst e; simpa [neTmp] using h
def fuseOK (l : List Oper) : Bool :=
  match l with
  | [⟨some d1, .call ⟨.builtin .append, ⟨[.tmp ts, y]⟩, ⟨[_, _]⟩⟩, _, _, _, none⟩, ⟨some d2, .indexAddr _ p k, _, _, _, none⟩, ⟨none, .store _ (.tmp a) (.tmp b), _, _, _, none⟩] =>
    (a == d2 && b == d1) && (d1 != d2 && neTmp y ts) && (neTmp p d1 && neTmp k d1)
  | _ => false
theorem fuseP_ok {x : Cx} (hx0 : x.n0 ≤ hint.n0) {ops : Array Oper} {l : List Oper} (hc : fuseOK l = true) (hd : dstOK x.k l = true) {Q : Exit → Act → World → Prop} {K : Env → Heap → Nat → Prop} (hK : ∀ e h n a w, K e h n → Sat x e h n a w → Q .normal a w)
    {e : Env} {h : Heap} {n : Nat} {a : Act} {w : World} (hp : fuseP P hint l K e h n) (hs : Sat x e h n a w) : wpList P ops Q l a w := by
  unfold fuseOK at hc
  split at hc
  · rename_i d1 ts y t1 tx g1 g2 g3 d2 t2 p k g4 g5 g6 t3 aa bb g7 g8 g9
    simp only [Bool.and_eq_true, beq_iff_eq, bne_iff_ne, ne_eq] at hc
    obtain ⟨⟨⟨e1, e2⟩, e3, e4⟩, e5, e6⟩ := hc
    subst e1 e2
    simp only [fuseP] at hp
    unfold fuseS at hp
    split at hp <;> first | exact hp.elim | skip
    rename_i r i xss ys r' kk i' q1 q2 q3 q4 q5
    obtain ⟨⟨z1, z2⟩, ⟨f1, f2, f3, f4, f5⟩, hkk⟩ := hp
    subst z1 z2
    rw [q1] at q2
    have k1 : bb < x.k := dstOK_mem hd (o := ⟨some bb, .call ⟨.builtin .append, ⟨[.tmp ts, y]⟩, ⟨[t1, tx]⟩⟩, g1, g2, g3, none⟩) (by simp) bb rfl
    have k2 : aa < x.k := dstOK_mem hd (o := ⟨some aa, .indexAddr t2 p k, g4, g5, g6, none⟩) (by simp) aa rfl
    unfold wpList
    rw [if_pos (by simp [Region.wanted])]
    left
    refine Oper.wp_mono (fun a1 w1 h1 => ?_) (fuse_ok (P := P) hx0 (o1 := ⟨some bb, .call ⟨.builtin .append, ⟨[.tmp ts, y]⟩, ⟨[t1, tx]⟩⟩, g1, g2, g3, none⟩) (o2 := ⟨some aa, .indexAddr t2 p k, g4, g5, g6, none⟩)
      (o3 := ⟨none, .store t3 (.tmp aa) (.tmp bb), g7, g8, g9, none⟩) (next := fun a w => Q .normal a w) (Q := Q) rfl rfl rfl rfl rfl rfl hs e3 (neTmp_ne e4) (fun t ht e => neTmp_ne e5 t ht e.symm) (fun t ht e => neTmp_ne e6 t ht e.symm) k1 k2 q1 q2 q3 q4 q5 f1 f2 f3 f4 f5 (fun a' w' h => hK _ _ _ _ _ hkk h))
    unfold wpList
    rw [if_pos (by simp [Region.wanted])]
    left
    refine Oper.wp_mono (fun a2 w2 h2 => ?_) h1
    unfold wpList
    rw [if_pos (by simp [Region.wanted])]
    left
    exact h2
  · cases hc
end
end Go.Vc
namespace Go.Vc
open Go.RowKit

/-! ### Weakening -/
mutual
/-- The one value may be taken for the other. -/
def Co : AV → AV → Prop
  | .agg cs, .agg ds => CoL cs ds
  | .tup cs, .tup ds => CoL cs ds
  | .nils, .ints xs => xs = []
  | .nils, .rows xs => xs = []
  | .nils, .strs xs => xs = []
  | .nils, .pairs xs => xs = []
  | .tt, .bool b => b = true
  | .ff, .bool b => b = false
  | u, v => u = v
def CoL : List AV → List AV → Prop
  | [], [] => True
  | a :: l, b :: m => Co a b ∧ CoL l m
  | _, _ => False
end

theorem sees_nil {S : Store} {v : AV} {m : Nat} (he : v.elems = some ([], m)) (a : Option Addr) : Sees S v (.slice a 0 0) :=
  .lst v [] m a 0 he (Nat.le_refl _) 0 0 #[] (fun _ _ => Go.undef) (fun h => (h rfl).elim) (fun x hx => by cases hx) (fun i x j y hx => by simp at hx) (fun i x j y hx => by simp at hx)

theorem Co.ent : ∀ (u v : AV), Co u v → Ent u v := by
  intro u
  refine AV.rec (motive_1 := fun u => ∀ v, Co u v → Ent u v) (motive_2 := fun l => ∀ m, CoL l m → l.length = m.length ∧ ∀ (j : Nat) a b, l[j]? = some a → m[j]? = some b → Ent a b) ?_ ?_ ?_ ?_ ?_ ?_ ?_ ?_ ?_ ?_ ?_ ?_ ?_ ?_ ?_ ?_ ?_ ?_ ?_ ?_ ?_ ?_ ?_ ?_ ?_ ?_ ?_ ?_ ?_ ?_ ?_ u
  case refine_11 =>
    intro cs ih v h
    cases v <;> first | (rename_i ds; have hh : CoL cs ds := h; obtain ⟨hl, hp⟩ := ih ds hh; intro S ρ H cv hv; obtain ⟨vs, rfl, hs, hc⟩ := hv.agg_inv; refine .agg _ _ (by rw [hs, hl]) (fun j y u hy hu => ?_); have hj : j < cs.length := (by rw [hl]; exact (List.getElem?_eq_some_iff.1 hy).1); exact hp j cs[j] y (by simp [hj]) hy _ _ _ _ (hc j cs[j] u (by simp [hj]) hu)) | (simp [Co] at h)
  case refine_12 =>
    intro cs ih v h
    cases v <;> first | (rename_i ds; have hh : CoL cs ds := h; obtain ⟨hl, hp⟩ := ih ds hh; intro S ρ H cv hv; obtain ⟨vs, rfl, hs, hc⟩ := hv.tup_inv; refine .tup _ _ (by rw [hs, hl]) (fun j y u hy hu => ?_); have hj : j < cs.length := (by rw [hl]; exact (List.getElem?_eq_some_iff.1 hy).1); exact hp j cs[j] y (by simp [hj]) hy _ _ _ _ (hc j cs[j] u (by simp [hj]) hu)) | (simp [Co] at h)
  case refine_16 =>
    intro v h
    cases v <;> simp [Co] at h <;> first | (subst h; intro S ρ H cv hv; obtain ⟨a, rfl⟩ := hv.nils_inv; exact .pure _ _ (sees_nil rfl a)) | exact .refl _
  case refine_21 =>
    intro v h
    cases v <;> simp [Co] at h <;> first | (subst h; intro S ρ H cv hv; rw [hv.tt_inv]; exact v_bool _) | exact .refl _
  case refine_22 =>
    intro v h
    cases v <;> simp [Co] at h <;> first | (subst h; intro S ρ H cv hv; rw [hv.ff_inv]; exact v_bool _) | exact .refl _
  case refine_30 =>
    intro m h
    cases m with
    | nil => exact ⟨rfl, fun j a b h => by simp at h⟩
    | cons => simp [CoL] at h
  case refine_31 =>
    intro a l iha ihl m h
    cases m with
    | nil => simp [CoL] at h
    | cons b m =>
      obtain ⟨h1, h2⟩ : Co a b ∧ CoL l m := by simpa [CoL] using h
      obtain ⟨hl, hp⟩ := ihl m h2
      refine ⟨by simp [hl], fun j x y hx hy => ?_⟩
      cases j with
      | zero => simp at hx hy; subst hx; subst hy; exact iha _ h1
      | succ j => simp at hx hy; exact hp j x y hx hy
  all_goals
    intros
    rename_i h
    have e := h
    simp only [Co] at e
    first | (subst e; exact .refl _) | (rw [← e]; exact .refl _)

theorem CoL.spec {l m : List AV} (h : CoL l m) : l.length = m.length ∧ ∀ (j : Nat) a b, l[j]? = some a → m[j]? = some b → Ent a b := by
  induction l generalizing m with
  | nil =>
    cases m with
    | nil => exact ⟨rfl, fun j a b h => by simp at h⟩
    | cons => simp [CoL] at h
  | cons a l ih =>
    cases m with
    | nil => simp [CoL] at h
    | cons b m =>
      obtain ⟨h1, h2⟩ : Co a b ∧ CoL l m := by simpa [CoL] using h
      obtain ⟨hl, hp⟩ := ih h2
      refine ⟨by simp [hl], fun j x y hx hy => ?_⟩
      cases j with
      | zero => simp at hx hy; subst hx; subst hy; exact Co.ent _ _ h1
      | succ j => simp at hx hy; exact hp j x y hx hy

def CoB : Blk → Blk → Prop
  | .box cs, .box ds => CoL cs ds
  | .arr v, .arr u => v = u
  | .mat a, .mat b => a = b
  | _, _ => False
def CoO (k : Option Blk) (φ : AV → AV) (k' : Blk) : Prop :=
  match k with
  | some k => CoB (k.tr φ) k'
  | none => False
def keeps (h' : Heap) (r : Nat) : Bool := (h'.look r).isSome
def WEnv (φ : AV → AV) (e : Env) : Env → Prop
  | [] => True
  | (t, v') :: e' => Co ((e.get t).tr φ) v' ∧ WEnv φ e e'
def WHeap (φ : AV → AV) (h : Heap) (n' : Nat) : Heap → Prop
  | [] => True
  | (r, k') :: h' => (CoO (h.look r) φ k' ∧ r < n') ∧ WHeap φ h n' h'
/-- The one state may be taken for the other. -/
def Weak (e : Env) (h : Heap) (e' : Env) (h' : Heap) (n' : Nat) : Prop := WEnv (frzA (keeps h') h.look) e e' ∧ WHeap (frzA (keeps h') h.look) h n' h'
def WeakTo (n0 : Nat) (J : Env → Heap → Nat → Prop) (e : Env) (h : Heap) (_n : Nat) : Prop := ∃ e' h' n', (n0 ≤ n' ∧ Weak e h e' h' n') ∧ J e' h' n'
end Go.Vc
namespace Go.Vc
open Go.RowKit

/-- Of a block less may be known. -/
inductive BW : Blk → Blk → Prop
  | box (cs ds : List AV) (hl : cs.length = ds.length) (h : ∀ (j : Nat) a b, cs[j]? = some a → ds[j]? = some b → Ent a b) : BW (.box cs) (.box ds)
  | same (k : Blk) : BW k k

section
variable {S : Store} {ρ : Rho} {H H2 : HF} {w : World} {own : Nat → Prop}

theorem V.weak (h1 : ∀ r k, H r = some k → ∃ k2, H2 r = some k2 ∧ BW k k2) {v : AV} {cv : Value} (h : V S ρ H v cv) : V S ρ H2 v cv := by
  refine h.keep (fun _ _ h => h) (fun a cv hra hv => ?_)
  cases hv with
  | pure _ _ h => exact .pure _ _ h
  | vec => cases hra
  | agg => cases hra
  | tup => cases hra
  | fn => cases hra
  | sl q v xs m a hr he ha => obtain ⟨k2, hk, hb⟩ := h1 _ _ hr; cases hb with | same => exact .sl q v xs m a hk he ha
  | mt q xss a hr ha => obtain ⟨k2, hk, hb⟩ := h1 _ _ hr; cases hb with | same => exact .mt q xss a hk ha
  | mr q i xss row cv hr h0 hi h => obtain ⟨k2, hk, hb⟩ := h1 _ _ hr; cases hb with | same => exact .mr q i xss row cv hk h0 hi h
  | bx q off cs hr ho =>
    obtain ⟨k2, hk, hb⟩ := h1 _ _ hr
    cases hb with
    | same => exact .bx q off cs hk ho
    | box _ ds hl hh => exact .bx q off ds hk (by rw [← hl]; exact ho)
  | pa q i v xs m hr he h0 hi => obtain ⟨k2, hk, hb⟩ := h1 _ _ hr; cases hb with | same => exact .pa q i v xs m hk he h0 hi
  | pm q i j xss row hr h0 hi hj0 hj => obtain ⟨k2, hk, hb⟩ := h1 _ _ hr; cases hb with | same => exact .pm q i j xss row hk h0 hi hj0 hj
  | po q i xss hr h0 hi => obtain ⟨k2, hk, hb⟩ := h1 _ _ hr; cases hb with | same => exact .po q i xss hk h0 hi

theorem Rel.weak (hrel : Rel own S ρ H w) (h1 : ∀ r k, H r = some k → ∃ k2, H2 r = some k2 ∧ BW k k2) (h2 : ∀ r k2, H2 r = some k2 → ∃ k, H r = some k ∧ BW k k2) : Rel own S ρ H2 w := by
  have ft : ∀ r j, foot ρ H2 r j → foot ρ H r j := fun r j hf => by
    unfold foot at hf ⊢
    cases hr : H2 r with
    | none => rw [hr] at hf; exact hf.elim
    | some k2 =>
      obtain ⟨k, hk, hb⟩ := h2 r k2 hr
      rw [hr] at hf; rw [hk]
      cases hb with
      | same => exact hf
      | box => exact hf
  refine ⟨hrel.stab, hrel.amb, fun r k2 hr => ?_, fun r j hf => hrel.owned r j (ft r j hf), fun r j r' j' hf hf' e => hrel.sep _ _ _ _ (ft r j hf) (ft r' j' hf') e⟩
  obtain ⟨k, hk, hb⟩ := h2 r k2 hr
  have hbl := hrel.blk r k hk
  cases hb with
  | box cs ds hl hh =>
    obtain ⟨c, g1, g2, g3⟩ := hbl
    refine ⟨c, g1, by rw [g2, hl], fun j y v hy hv => ?_⟩
    have hj : j < cs.length := by rw [hl]; exact (List.getElem?_eq_some_iff.1 hy).1
    exact hh j cs[j] y (by simp [hj]) hy _ _ _ _ ((g3 j cs[j] v (by simp [hj]) hv).weak h1)
  | same =>
    cases k2 with
    | box cs => obtain ⟨c, g1, g2, g3⟩ := hbl; exact ⟨c, g1, g2, fun j y v hy hv => (g3 j y v hy hv).weak h1⟩
    | arr v => exact hbl
    | mat xss => exact hbl
end

theorem WHeap.spec {φ : AV → AV} {h : Heap} {n' : Nat} : ∀ {h' : Heap}, WHeap φ h n' h' → ∀ r k', h'.look r = some k' → (∃ k, h.look r = some k ∧ CoB (k.tr φ) k') ∧ r < n'
  | [], _, r, k', hk => by cases hk
  | (q, k) :: h', hw, r, k', hk => by
    obtain ⟨⟨h1, h2⟩, h3⟩ := hw
    simp only [Heap.look] at hk
    split at hk
    · rename_i e; subst e; cases hk
      refine ⟨?_, h2⟩
      unfold CoO at h1
      split at h1
      · rename_i k0 hk0; exact ⟨k0, hk0, h1⟩
      · exact h1.elim
    · exact WHeap.spec h3 r k' hk

theorem CoB.bw {k k' : Blk} (h : CoB k k') : BW k k' := by
  cases k <;> cases k' <;> simp only [CoB] at h <;> first | exact h.elim | skip
  · obtain ⟨h1, h2⟩ := h.spec; exact .box _ _ h1 h2
  · subst h; exact .same _
  · subst h; exact .same _

theorem WEnv.spec {S : Store} {ρ : Rho} {H : HF} {φ : AV → AV} {e : Env} (tmps : Nat → Value) (hE : ∀ t, V S ρ H ((e.get t).tr φ) (tmps t)) : ∀ {e' : Env}, WEnv φ e e' → ∀ t, V S ρ H (e'.get t) (tmps t)
  | [], _, t => .pure _ _ (.undef _)
  | (q, v') :: e', hw, t => by
    obtain ⟨h1, h2⟩ := hw
    simp only [Env.get]
    split
    · rename_i ht; subst ht; exact Co.ent _ _ h1 _ _ _ _ (hE q)
    · exact WEnv.spec tmps hE h2 t

/-- One state for another. -/
theorem Sat.weak {x : Cx} {e : Env} {h : Heap} {n : Nat} {a : Act} {w : World} (hs : Sat x e h n a w) {e' : Env} {h' : Heap} {n' : Nat} (hn0 : x.n0 ≤ n') (hw : Weak e h e' h' n') : Sat x e' h' n' a w := by
  obtain ⟨S, ρ, s1, s2, s3, sf, s4, s5, s6, s7, s8, s9⟩ := hs
  obtain ⟨S', f1, f2, f3, f4⟩ := freeze s3 (keeps h')
  have hh := WHeap.spec hw.2
  have b1 : ∀ r k, frzH (keeps h') h.look r = some k → ∃ k2, h'.look r = some k2 ∧ BW k k2 := fun r k hr => by
    obtain ⟨hk, k0, hk0, rfl⟩ := frzH_some hr
    obtain ⟨k2, hk2⟩ := Option.isSome_iff_exists.1 hk
    obtain ⟨⟨k1, hk1, hc⟩, _⟩ := hh r k2 hk2
    rw [hk0] at hk1; cases hk1
    exact ⟨k2, hk2, hc.bw⟩
  have b2 : ∀ r k2, h'.look r = some k2 → ∃ k, frzH (keeps h') h.look r = some k ∧ BW k k2 := fun r k2 hr => by
    obtain ⟨⟨k1, hk1, hc⟩, _⟩ := hh r k2 hr
    exact ⟨_, by rw [frzH_keep (by simp [keeps, hr]), hk1]; rfl, hc.bw⟩
  refine ⟨S', ρ, fun b c hb => f1 b c (s1 b c hb), fun b h1 h2 => ?_, f3.weak b1 b2, sf.look (fun r hr => ?_), fun t => ?_, s5, s6, s7, fun r hr => ?_, hn0⟩
  · by_cases hS : S b = none
    · exact f2 b hS h2
    · exact s2 b h1 hS
  · obtain ⟨k2, hk2⟩ := Option.ne_none_iff_exists'.1 hr
    obtain ⟨⟨k1, hk1, _⟩, _⟩ := hh r k2 hk2
    rw [hk1]; simp
  · exact WEnv.spec (fun t => a.tmps.getD t Go.undef) (fun t => (f4 _ _ (s4 t)).weak b1) hw.1 t
  · obtain ⟨k2, hk2⟩ := Option.ne_none_iff_exists'.1 hr
    exact (hh r k2 hk2).2

/-! ### Code -/
abbrev AQ := Exit → Env → Heap → Nat → Prop
def thenA (K : Env → Heap → Nat → Prop) (Q : AQ) : AQ
  | .normal, e, h, n => K e h n
  | ex, e, h, n => Q ex e h n
def blockA (id : Nat) (Q : AQ) : AQ
  | .exit i, e, h, n => if i = id then Q .normal e h n else Q (.exit i) e h n
  | ex, e, h, n => Q ex e h n
def condA (v : AV) (A B : Prop) : Prop :=
  match v with
  | .bool b => partB b A B
  | .tt => A
  | .ff => B
  | _ => False
def loopA (n0 : Nat) (B : AQ → Env → Heap → Nat → Prop) (Q : AQ) (e : Env) (h : Heap) (n : Nat) : Prop :=
  ∃ (I : Nat → Env → Heap → Nat → Prop) (m0 : Nat), WeakTo n0 (I m0) e h n ∧ ∀ m e h n, I m e h n → B (thenA (WeakTo n0 fun e h n => ∃ m', m' < m ∧ I m' e h n) Q) e h n
/-- The references in some slots. -/
def frzR : List Nat → Env → List Nat
  | [], _ => []
  | d :: l, e => match e.get d with
    | .sl r => r :: frzR l e
    | .mt r => r :: frzR l e
    | _ => frzR l e
def keepR : List Nat → Nat → Bool
  | [], _ => true
  | q :: l, r => bif q == r then false else keepR l r
def frzE (φ : AV → AV) : Env → Env
  | [] => []
  | (t, v) :: e => (t, v.tr φ) :: frzE φ e
def frzP (keep : Nat → Bool) (φ : AV → AV) : Heap → Heap
  | [] => []
  | (q, k) :: h => bif keep q then (q, k.tr φ) :: frzP keep φ h else frzP keep φ h
def emptyB : Blk → Bool
  | .arr (.ints []) | .arr (.rows []) | .arr (.strs []) | .arr (.bools []) | .arr (.pairs []) | .arr (.bytes []) | .mat [] => true
  | _ => false
def upS (v : AV) (A : Prop) : Prop := match v with | .nils => A | _ => False
def upfS (v : AV) (k : Option Blk) (off : Nat) (A : Nat → List AV → Nat → Prop) : Prop :=
  match v, k with
  | .bx q o, some (.box cs) => upS (cs.getD (o + off) .undef) (A q cs (o + off))
  | _, _ => False
def rowS (v : AV) (k : Option Blk) (A : Nat → List Int → Prop) : Prop :=
  match v, k with
  | .mr q i, some (.mat xss) => A q (ix xss i)
  | _, _ => False
/-- A slice of one's own. -/
def renS (v : AV) (k : Option Blk) (A : Nat → AV → Prop) : Prop :=
  match v, k with
  | .sl q, some (.arr v) => A q v
  | _, _ => False
def renBS (v : AV) (k : Option Blk) (A : Nat → Nat → List AV → Prop) : Prop :=
  match v, k with
  | .bx q o, some (.box cs) => A q o cs
  | _, _ => False
/-- Only these slots go on to be known. -/
def cutE : List Nat → Env → Env
  | [], _ => []
  | t :: l, e => (t, e.get t) :: cutE l e
/-- Where the reckoner rests. -/
def stopA (A : Env → Heap → Nat → Prop) (e : Env) (h : Heap) (n : Nat) : Prop := A e h n
/-- All references are below k. -/
def belowP (k : Nat) : Heap → Prop
  | [] => True
  | (q, _) :: h => q < k ∧ belowP k h
theorem belowP_look {k : Nat} : ∀ {h : Heap}, belowP k h → ∀ r, h.look r ≠ none → r < k
  | [], _, r, hr => (hr rfl).elim
  | (q, b) :: h, hu, r, hr => by
    simp only [Heap.look] at hr
    split at hr
    · rename_i e; subst e; exact hu.1
    · exact belowP_look hu.2 r hr
/-- Ahead of a region: what happens to the abstract state, nothing in the world. -/
def regA (n0 : Nat) : List GOp → (Env → Heap → Nat → Prop) → Env → Heap → Nat → Prop
  | [], A, e, h, n => A e h n
  | .fz l :: r, A, e, h, n => regA n0 r A (frzE (frzA (keepR (frzR l e)) h.look) e) (frzP (keepR (frzR l e)) (frzA (keepR (frzR l e)) h.look) h) n
  | .up d k :: r, A, e, h, n => emptyB k = true ∧ upS (e.get d) (regA n0 r A ((d, k.ref n) :: e) ((n, k) :: h) (n + 1))
  | .upf d off k :: r, A, e, h, n => emptyB k = true ∧ upfS (e.get d) (blkOf h (e.get d)) off (fun q cs j => regA n0 r A e ((n, k) :: hset h q (.box (cs.set j (k.ref n)))) (n + 1))
  | .row d :: r, A, e, h, n => rowS (e.get d) (blkOf h (e.get d)) (fun q row => regA n0 r A ((d, .sl n) :: trE (purN [q] []) e) ((n, .arr (.ints row)) :: trH (purN [q] []) [q] h) (n + 1))
  | .post :: r, A, e, h, n => regA n0 r A e h n
  | .cut l :: r, A, e, h, n => stopA (regA n0 r A) (cutE l e) h n
  | .skip :: r, A, e, h, n => regA n0 r A e h (n + 1)
  | .drop l k :: r, A, e, h, n => (n0 ≤ k ∧ belowP k (frzP (keepR l) (frzA (keepR l) h.look) h)) ∧ regA n0 r A (frzE (frzA (keepR l) h.look) e) (frzP (keepR l) (frzA (keepR l) h.look) h) k
  | .ren d k :: r, A, e, h, n => renS (e.get d) (blkOf h (e.get d)) (fun q v => (n0 ≤ q ∧ n0 ≤ k ∧ k < n ∧ (k == q) = false) ∧ regA n0 r A ((d, .sl k) :: trE (purN [q, k] []) e) ((k, .arr v) :: trH (purN [q, k] []) [q, k] h) n)
  | .renb d k :: r, A, e, h, n => renBS (e.get d) (blkOf h (e.get d)) (fun q o cs => (n0 ≤ q ∧ n0 ≤ k ∧ k < n ∧ (k == q) = false) ∧ regA n0 r A ((d, .bx k o) :: trE (purN [q, k] []) e) ((k, (Blk.box cs).tr (purN [q, k] [])) :: trH (purN [q, k] []) [q, k] h) n)
  | .frb d :: r, A, e, h, n => renBS (e.get d) (blkOf h (e.get d)) (fun q o cs => cs.all AV.pure1 = true ∧ regA n0 r A ((d, .iptr (cs.drop o)) :: frzE (frzA (keepR [q]) h.look) e) (frzP (keepR [q]) (frzA (keepR [q]) h.look) h) n)
/-- What happens ahead of a region, and what after it. -/
def preG : List GOp → List GOp
  | [] => []
  | .post :: _ => []
  | .fz l :: r => .fz l :: preG r
  | .up d k :: r => .up d k :: preG r
  | .upf d o k :: r => .upf d o k :: preG r
  | .row d :: r => .row d :: preG r
  | .cut l :: r => .cut l :: preG r
  | .skip :: r => .skip :: preG r
  | .drop l k :: r => .drop l k :: preG r
  | .ren d k :: r => .ren d k :: preG r
  | .renb d k :: r => .renb d k :: preG r
  | .frb d :: r => .frb d :: preG r
def postG : List GOp → List GOp
  | [] => []
  | .post :: r => r
  | .fz _ :: r => postG r
  | .up _ _ :: r => postG r
  | .upf _ _ _ :: r => postG r
  | .row _ :: r => postG r
  | .cut _ :: r => postG r
  | .skip :: r => postG r
  | .drop _ _ :: r => postG r
  | .ren _ _ :: r => postG r
  | .renb _ _ :: r => postG r
  | .frb _ :: r => postG r

theorem frzE_get (φ : AV → AV) (e : Env) (t : Tmp) : (frzE φ e).get t = (e.get t).tr φ := by
  induction e with
  | nil => rfl
  | cons x e ih =>
    obtain ⟨q, v⟩ := x
    simp only [frzE, Env.get]
    split
    · rfl
    · exact ih
theorem frzP_look (keep : Nat → Bool) (φ : AV → AV) (h : Heap) (q : Nat) : (frzP keep φ h).look q = bif keep q then (h.look q).map (Blk.tr φ) else none := by
  induction h with
  | nil => simp [frzP, Heap.look]
  | cons x h ih =>
    obtain ⟨k, v⟩ := x
    simp only [frzP, Heap.look]
    cases hk : keep k with
    | true =>
      simp only [cond_true, Heap.look]
      split
      · rename_i e; subst e; simp [hk]
      · exact ih
    | false =>
      simp only [cond_false]
      split
      · rename_i e; subst e; rw [ih, hk]; rfl
      · exact ih
theorem Sat.frz {x : Cx} {e : Env} {h : Heap} {n : Nat} {a : Act} {w : World} (hs : Sat x e h n a w) (keep : Nat → Bool) : Sat x (frzE (frzA keep h.look) e) (frzP keep (frzA keep h.look) h) n a w := by
  obtain ⟨S, ρ, s1, s2, s3, sf, s4, s5, s6, s7, s8, s9⟩ := hs
  obtain ⟨S', f1, f2, f3, f4⟩ := freeze s3 keep
  have eh : (frzP keep (frzA keep h.look) h).look = frzH keep h.look := by funext q; rw [frzP_look]; rfl
  refine ⟨S', ρ, fun b c hb => f1 b c (s1 b c hb), fun b h1 h2 => ?_, by rw [eh]; exact f3, sf.look (fun r hr e0 => hr (by rw [frzP_look, e0]; cases keep r <;> rfl)), fun t => by rw [eh, frzE_get]; exact f4 _ _ (s4 t), s5, s6, s7, fun r hr => s8 r (fun e0 => hr (by rw [frzP_look, e0]; cases keep r <;> rfl)), s9⟩
  by_cases hS : S b = none
  · exact f2 b hS h2
  · exact s2 b h1 hS
/-- An empty array that holds no memory. -/
theorem rel_empty {own : Nat → Prop} {S : Store} {ρ : Rho} {H : HF} {w : World} (hrel : Rel own S ρ H w) {n : Nat} {k : Blk} (hn : H n = none) (hk : emptyB k = true) :
    Rel own S (ρ.set n 0 0) (addH [(n, k)] H) w ∧ RhoKeep ρ (ρ.set n 0 0) H (addH [(n, k)] H) ∧ ∀ a, V S (ρ.set n 0 0) (addH [(n, k)] H) (k.ref n) (.slice a 0 0) := by
  have hkeep := keep_add (ρ := ρ) (k := k) hn 0 0
  have hcap : (ρ.set n 0 0).cap n = 0 := by simp [Rho.set]
  have hbl : BlkRel S (ρ.set n 0 0) (addH [(n, k)] H) w n k := by
    unfold emptyB at hk
    split at hk <;> first | cases hk | skip
    · exact ⟨[], 1, #[], rfl, fun h0 => (h0 hcap).elim, by rw [hcap]; simp, by simp, ⟨fun x hx => (by cases hx), fun i x j y hx => by simp at hx⟩⟩
    · exact ⟨[], 1, #[], rfl, fun h0 => (h0 hcap).elim, by rw [hcap]; simp, by simp, ⟨fun x hx => (by cases hx), fun i x j y hx => by simp at hx⟩⟩
    · exact ⟨[], 1, #[], rfl, fun h0 => (h0 hcap).elim, by rw [hcap]; simp, by simp, ⟨fun x hx => (by cases hx), fun i x j y hx => by simp at hx⟩⟩
    · exact ⟨[], 1, #[], rfl, fun h0 => (h0 hcap).elim, by rw [hcap]; simp, by simp, ⟨fun x hx => (by cases hx), fun i x j y hx => by simp at hx⟩⟩
    · exact ⟨[], 2, #[], rfl, fun h0 => (h0 hcap).elim, by rw [hcap]; simp, by simp, ⟨fun x hx => (by cases hx), fun i x j y hx => by simp at hx⟩⟩
    · exact ⟨[], 1, #[], rfl, fun h0 => (h0 hcap).elim, by rw [hcap]; simp, by simp, ⟨fun x hx => (by cases hx), fun i x j y hx => by simp at hx⟩⟩
    · exact ⟨#[], fun h0 => (h0 hcap).elim, by rw [hcap]; simp, by simp, fun i row hi => by simp at hi⟩
  have nof : ∀ j, ¬ foot (ρ.set n 0 0) (addH [(n, k)] H) n j := fun j hf => by
    unfold foot at hf
    rw [addH_self] at hf
    unfold emptyB at hk
    split at hk <;> first | cases hk | skip
    all_goals first | exact hf.2 hcap | skip
    rcases hf with hf | ⟨i, row, _, hi, _⟩
    · exact hf.2 hcap
    · simp at hi
  have fo : ∀ q j, foot (ρ.set n 0 0) (addH [(n, k)] H) q j → q ≠ n ∧ foot ρ H q j := fun q j hf => by
    by_cases e' : q = n
    · subst e'; exact (nof j hf).elim
    · refine ⟨e', ?_⟩
      unfold foot at hf ⊢; rw [addH_other _ _ e'] at hf; simpa [Rho.set, e'] using hf
  refine ⟨⟨hrel.stab, hrel.amb, fun q k' hq => ?_, fun q j hf => ?_, fun q j q' j' h1 h2 e' => ?_⟩, hkeep, fun a => ?_⟩
  · by_cases e' : q = n
    · subst e'; rw [addH_self] at hq; cases hq; exact hbl
    · rw [addH_other _ _ e'] at hq
      exact (hrel.blk q k' hq).ext (fun _ _ h => h) hkeep hq (fun _ _ h => h)
  · obtain ⟨n1, f1⟩ := fo q j hf
    have := hrel.owned q j f1
    simpa [Rho.set, n1] using this
  · obtain ⟨n1, f1⟩ := fo q j h1
    obtain ⟨n2, f2⟩ := fo q' j' h2
    exact hrel.sep q j q' j' f1 f2 (by simpa [Rho.set, n1, n2] using e')
  · have sl0 : ∀ v m, v.elems = some ([], m) → k = .arr v → V S (ρ.set n 0 0) (addH [(n, k)] H) (k.ref n) (.slice a 0 0) := fun v m he hkv => by
      subst hkv
      have := V.sl (S := S) (ρ := ρ.set n 0 0) n v [] m a (addH_self n _ H) he (fun h0 => (h0 hcap).elim)
      rw [hcap] at this; exact this
    unfold emptyB at hk
    split at hk <;> first | cases hk | skip
    · exact sl0 _ _ rfl rfl
    · exact sl0 _ _ rfl rfl
    · exact sl0 _ _ rfl rfl
    · exact sl0 _ _ rfl rfl
    · exact sl0 _ _ rfl rfl
    · exact sl0 _ _ rfl rfl
    · have := V.mt (S := S) (ρ := ρ.set n 0 0) n [] a (addH_self n (.mat []) H) (fun h0 => (h0 hcap).elim)
      rw [hcap] at this; exact this

theorem cutE_get {S : Store} {ρ : Rho} {H : HF} {e : Env} {t : Nat} {cv : Value} (h : V S ρ H (e.get t) cv) : ∀ l : List Nat, V S ρ H ((cutE l e).get t) cv
  | [] => .pure _ _ (.undef _)
  | q :: l => by
    simp only [cutE, Env.get]
    split
    · rename_i e'; subst e'; exact h
    · exact cutE_get h l
theorem regA_ok {n0 : Nat} {x : Cx} {A : Env → Heap → Nat → Prop} {a : Act} {w : World} (hx : x.n0 ≤ n0) : ∀ {fz : List GOp} {e : Env} {h : Heap} {n : Nat}, regA n0 fz A e h n → Sat x e h n a w → ∃ e' h' n', A e' h' n' ∧ Sat x e' h' n' a w
  | [], e, h, n, hr, hs => ⟨e, h, n, hr, hs⟩
  | .fz l :: r, e, h, n, hr, hs => regA_ok hx (fz := r) hr (hs.frz _)
  | .post :: r, e, h, n, hr, hs => regA_ok hx (fz := r) hr hs
  | .drop l k :: r, e, h, n, hr, hs => by
    obtain ⟨⟨h1, h2⟩, hr⟩ := hr
    refine regA_ok hx (fz := r) hr ?_
    obtain ⟨S, ρ, s1, s2, s3, sf, s4, s5, s6, s7, s8, s9⟩ := hs.frz (keepR l)
    exact ⟨S, ρ, s1, s2, s3, sf, s4, s5, s6, s7, belowP_look h2, Nat.le_trans hx h1⟩
  | .skip :: r, e, h, n, hr, hs => by
    refine regA_ok hx (fz := r) hr ?_
    obtain ⟨S, ρ, s1, s2, s3, sf, s4, s5, s6, s7, s8, s9⟩ := hs
    exact ⟨S, ρ, s1, s2, s3, sf, s4, s5, s6, s7, fun r hr => Nat.lt_succ_of_lt (s8 r hr), Nat.le_succ_of_le s9⟩
  | .cut l :: r, e, h, n, hr, hs => by
    refine regA_ok hx (fz := r) hr ?_
    obtain ⟨S, ρ, s1, s2, s3, sf, s4, s5, s6, s7, s8, s9⟩ := hs
    exact ⟨S, ρ, s1, s2, s3, sf, fun t => cutE_get (s4 t) l, s5, s6, s7, s8, s9⟩
  | .up d k :: r, e, h, n, hr, hs => by
    obtain ⟨hk, hr⟩ := hr
    unfold upS at hr
    split at hr <;> first | exact hr.elim | skip
    rename_i hd
    refine regA_ok hx (fz := r) hr ?_
    obtain ⟨S, ρ, s1, s2, s3, sf, s4, s5, s6, s7, s8, s9⟩ := hs
    have hn : h.look n = none := by
      cases hh : h.look n with
      | none => rfl
      | some k' => have := s8 n (by rw [hh]; simp); omega
    obtain ⟨g1, g2, g3⟩ := rel_empty (k := k) s3 hn hk
    rw [addH_look] at g1 g2 g3
    have hv := s4 d
    rw [hd] at hv
    obtain ⟨a0, ha0⟩ := hv.nils_inv
    refine ⟨S, ρ.set n 0 0, s1, s2, g1, sf.keep g2 (fun r hr hr' => ?_), (s4.ext (fun _ _ h => h) g2).refine (by rw [ha0]; exact g3 a0), s5, s6, s7, fun r hr => ?_, by omega⟩
    · have : r ≠ n := by omega
      have e1 : Heap.look ((n, k) :: h) r = h.look r := by simp only [Heap.look]; rw [if_neg (fun e => this e.symm)]
      rw [e1] at hr'; exact hr'
    · by_cases e' : r = n
      · omega
      · have e1 : Heap.look ((n, k) :: h) r = h.look r := by simp only [Heap.look]; rw [if_neg (fun e => e' e.symm)]
        rw [e1] at hr
        have := s8 r hr; omega
  | .upf d off k :: r, e, h, n, hr, hs => by
    obtain ⟨hk, hr⟩ := hr
    unfold upfS at hr
    split at hr <;> first | exact hr.elim | skip
    rename_i q o cs hd hb
    unfold upS at hr
    split at hr <;> first | exact hr.elim | skip
    rename_i hnil
    refine regA_ok hx (fz := r) hr ?_
    rw [hd] at hb
    have hb : h.look q = some (.box cs) := hb
    have hj : cs[o + off]? = some .nils := by
      rw [List.getD_eq_getElem?_getD] at hnil
      cases hc : cs[o + off]? with
      | none => rw [hc] at hnil; cases hnil
      | some v => rw [hc] at hnil; simp at hnil; rw [hnil]
    obtain ⟨S, ρ, s1, s2, s3, sf, s4, s5, s6, s7, s8, s9⟩ := hs
    have hqn : q < n := s8 q (by rw [hb]; simp)
    have hn : h.look n = none := by
      cases hh : h.look n with
      | none => rfl
      | some k' => have := s8 n (by rw [hh]; simp); omega
    obtain ⟨g1, g2, g3⟩ := rel_empty (k := k) s3 hn hk
    generalize hh2 : Heap.look ((n, k) :: hset h q (.box (cs.set (o + off) (k.ref n)))) = H2
    have h2q : H2 q = some (.box (cs.set (o + off) (k.ref n))) := by
      rw [← hh2]; simp only [Heap.look]; rw [if_neg (by omega), hset_self hb]
    have h2o : ∀ r, r ≠ q → H2 r = addH [(n, k)] h.look r := fun r hr => by
      rw [← hh2, addH_look]
      simp only [Heap.look, List.cons_append, List.nil_append]
      rw [hset_other hr]
    have hbq : addH [(n, k)] h.look q = some (.box cs) := by rw [addH_other _ _ (by omega)]; exact hb
    have hsh : SameShape (.box cs) (.box (cs.set (o + off) (k.ref n))) := .box _ _ (by simp)
    have sh : ∀ v cv, V S (ρ.set n 0 0) (addH [(n, k)] h.look) v cv → V S (ρ.set n 0 0) H2 v cv := fun v cv hv => hv.shape hbq h2q h2o hsh
    have g1' : Rel x.own S (ρ.set n 0 0) H2 w := by
      refine ⟨g1.stab, g1.amb, fun r1 kr hrr => ?_, fun r j hf => g1.owned r j (foot_shape hbq h2q h2o hsh hf), fun r j r' j' h1 h2 e' => g1.sep _ _ _ _ (foot_shape hbq h2q h2o hsh h1) (foot_shape hbq h2q h2o hsh h2) e'⟩
      by_cases e' : r1 = q
      · subst e'; rw [h2q] at hrr; cases hrr
        obtain ⟨c, c1, c2, c3⟩ := g1.blk r1 _ hbq
        refine ⟨c, c1, by simpa using c2, fun j y v hy hv => ?_⟩
        have hlt : o + off < cs.length := (List.getElem?_eq_some_iff.1 hj).1
        rw [getElem?_set_list _ _ _ _ hlt] at hy
        split at hy
        · rename_i ej; subst ej; cases hy
          have := c3 _ _ v hj hv
          obtain ⟨a0, ha0⟩ := this.nils_inv
          rw [ha0]; exact sh _ _ (g3 a0)
        · exact sh _ _ (c3 j y v hy hv)
      · rw [h2o r1 e'] at hrr
        have hbl := g1.blk r1 kr hrr
        cases kr with
        | box cs' => obtain ⟨c, c1, c2, c3⟩ := hbl; exact ⟨c, c1, c2, fun j y v hy hv => sh _ _ (c3 j y v hy hv)⟩
        | arr v => exact hbl
        | mat xss => exact hbl
    refine ⟨S, ρ.set n 0 0, s1, s2, by rw [hh2]; exact g1', ?_, fun t => by rw [hh2]; exact sh _ _ ((s4 t).ext (fun _ _ h => h) g2), s5, s6, s7, fun r hr => ?_, by omega⟩
    · rw [hh2]
      have sf2 : RhoFix x.n0 x.ρ0 (ρ.set n 0 0) (addH [(n, k)] h.look) := sf.keep g2 (fun r hr hr' => by rw [addH_other _ _ (by omega)] at hr'; exact hr')
      refine sf2.look (fun r hr => ?_)
      by_cases e2 : r = q
      · subst e2; rw [hbq]; simp
      · rw [h2o r e2] at hr; exact hr
    · rw [hh2] at hr
      by_cases e' : r = n
      · omega
      · by_cases e2 : r = q
        · omega
        · rw [h2o r e2, addH_other _ _ e'] at hr
          have := s8 r hr; omega
  | .row d :: r, e, h, n, hr, hs => by
    unfold regA rowS at hr
    split at hr <;> first | exact hr.elim | skip
    rename_i q i xss hd hb
    refine regA_ok hx (fz := r) hr ?_
    rw [hd] at hb
    have hb : h.look q = some (.mat xss) := hb
    obtain ⟨S, ρ, s1, s2, s3, sf, s4, s5, s6, s7, s8, s9⟩ := hs
    have hqn : q < n := s8 q (by rw [hb]; simp)
    have hn : h.look n = none := by
      cases hh : h.look n with
      | none => rfl
      | some k' => have := s8 n (by rw [hh]; simp); omega
    have hv := s4 d
    rw [hd] at hv
    obtain ⟨xss1, row, hb1, h0, hi, a0, hl, hcv, ha0⟩ := hv.mr_inv
    rw [hb] at hb1; cases hb1
    have hix : ix xss i = row := by have := ix_get (List.getElem?_eq_some_iff.1 hi).1; rw [hi] at this; exact (Option.some.inj this).symm
    rw [hix]
    obtain ⟨c, _, _, _, hrows⟩ := s3.blk q _ hb
    generalize hh2 : Heap.look ((n, .arr (.ints row)) :: trH (purN [q] []) [q] h) = H2
    have h2n : H2 n = some (.arr (.ints row)) := by rw [← hh2]; simp [Heap.look]
    have h2o : ∀ r, ¬ (r = n ∨ r = q) → H2 r = (h.look r).map (Blk.tr (purN [q] [])) := fun r hr => by
      rw [not_or] at hr
      rw [← hh2]; simp only [Heap.look]; rw [if_neg (fun e => hr.1 e.symm), trH_look]
      have : memN [q] r = false := by
        cases hmm : memN [q] r with
        | false => rfl
        | true => have := memN_mem.1 hmm; simp at this; exact (hr.2 this).elim
      rw [this]; rfl
    have h2q : ∀ r, (r = n ∨ r = q) → r ≠ n → H2 r = none := fun r hr hne => by
      rcases hr with rfl | rfl
      · exact (hne rfl).elim
      · rw [← hh2]; simp only [Heap.look]; rw [if_neg (by omega), trH_look]
        have : memN [r] r = true := memN_mem.2 (by simp)
        rw [this]; rfl
    let ρ' : Rho := ⟨fun r j => if r = n then ρ.blk q (i.toNat + 1) else ρ.blk r j, fun r => if r = n then ρ.rcap q i.toNat else ρ.cap r, fun r j => if r = n then 0 else ρ.rcap r j⟩
    have nof : ∀ j, ¬ foot ρ h.look n j := fun j hf => by unfold foot at hf; rw [hn] at hf; exact hf
    have fn : ∀ j, foot ρ' H2 n j → j = 0 ∧ ρ.rcap q i.toNat ≠ 0 := fun j hf => by
      unfold foot at hf; rw [h2n] at hf
      exact ⟨hf.1, by have := hf.2; simpa [ρ'] using this⟩
    obtain ⟨g1, g2⟩ := Rel.turn (H' := H2) (ρ' := ρ') (w' := w) (φ := purN [q] []) (D := fun z => z = n ∨ z = q) (k' := .arr (.ints row)) s3 (r := n) (.inl rfl) h2n h2o h2q
      (fun a1 cv1 hra hv1 => purN_ref hra hv1 (fun n1 _ _ => by
        have hq1 : a1.rbase ≠ q := fun e => n1 (by simp [e])
        obtain ⟨k, hk⟩ := hv1.rbase hra
        have hn1 : a1.rbase ≠ n := fun e => by rw [e, hn] at hk; cases hk
        refine hv1.ref_shape hra (fun k hk => ?_) (fun j => by simp [ρ', hn1]) (by simp [ρ', hn1]) (fun j => by simp [ρ', hn1])
        exact ⟨_, by rw [h2o _ (by rw [not_or]; exact ⟨hn1, hq1⟩), hk]; rfl, same_tr (s3.blk _ _ hk) _⟩))
      (fun r j hr => by rw [not_or] at hr; simp [ρ', hr.1]) (fun r hr => by rw [not_or] at hr; simp [ρ', hr.1]) (fun r j hr => by rw [not_or] at hr; simp [ρ', hr.1])
      (fun b c hb _ => hb) s3.stab
      (fun _ => by
        obtain ⟨_, hd'⟩ := hrows _ _ hi
        by_cases hc0 : ρ.rcap q i.toNat = 0
        · have hrow0 : row = [] := List.length_eq_zero_iff.1 (by omega)
          subst hrow0
          exact ⟨[], 1, #[], rfl, fun h => (h (by simp [ρ', hc0])).elim, by simp [ρ', hc0], by simp, ⟨fun x hx => by simp at hx, fun i x j y hx => by simp at hx⟩⟩
        · obtain ⟨dd, hd1, hd2, hd3⟩ := hd' hc0
          refine ⟨row.map .i, 1, dd, rfl, fun _ => by simp only [ρ', if_true]; exact hd1, by simp [ρ', hd2], by simpa [ρ'] using hl, ⟨fun y hy => ?_, fun q' y j z hy hz => ?_⟩⟩
          · obtain ⟨n', _, rfl⟩ := List.mem_map.1 hy; rfl
          · rw [List.getElem?_map] at hy
            obtain ⟨n', hn', rfl⟩ := Option.map_eq_some_iff.1 hy
            cases j with
            | zero => simp [AV.cells] at hz; subst hz; exact ⟨_, by simpa using hd3 _ _ hn', .int _ _⟩
            | succ j => simp [AV.cells] at hz)
      (fun j hf => by
        obtain ⟨rfl, hc0⟩ := fn j hf
        obtain ⟨o1, o2⟩ := s3.owned q _ (foot_row hb hi hc0)
        simp only [ρ', if_true]
        exact ⟨o1, o2, fun r j hr hf' e' => hr (.inr (s3.sep _ _ _ _ hf' (foot_row hb hi hc0) e').1)⟩)
      (fun j j' h1 h2 _ => by rw [(fn j h1).1, (fn j' h2).1])
    refine ⟨S, ρ', s1, s2, by rw [hh2]; exact g1, fun r hr hr' => ?_, EnvRel.refine (fun t => by rw [trE_get _ _ _ rfl, hh2]; exact g2 _ _ (s4 t)) ?_, s5, s6, s7, fun r hr => ?_, by omega⟩
    · rw [hh2] at hr'
      have hrn : r ≠ n := by omega
      have hrq : r ≠ q := fun e => by rw [h2q r (.inr e) hrn] at hr'; exact hr' rfl
      obtain ⟨f1, f2, f3⟩ := sf r hr (fun e0 => hr' (by rw [h2o r (by rw [not_or]; exact ⟨hrn, hrq⟩), e0]; rfl))
      exact ⟨fun j => by simp [ρ', hrn, f1], by simp [ρ', hrn, f2], fun j => by simp [ρ', hrn, f3]⟩
    · rw [hh2, hcv]
      have := V.sl (S := S) (ρ := ρ') (H := H2) n (.ints row) (row.map .i) 1 a0 h2n rfl (by simpa [ρ'] using ha0)
      simpa [ρ'] using this
    · rw [hh2] at hr
      by_cases e' : r = n
      · omega
      · by_cases e2 : r = q
        · omega
        · rw [h2o r (by rw [not_or]; exact ⟨e', e2⟩)] at hr
          have := s8 r (fun e0 => hr (by rw [e0]; rfl)); omega
  | .ren d k :: r, e, h, n, hr, hs => by
    unfold regA renS at hr
    split at hr <;> first | exact hr.elim | skip
    rename_i q v hd hb
    obtain ⟨⟨hq0, hk0, hkn, hkq⟩, hr⟩ := hr
    have hkq : k ≠ q := by simpa using hkq
    refine regA_ok hx (fz := r) hr ?_
    rw [hd] at hb
    have hb : h.look q = some (.arr v) := hb
    obtain ⟨S, ρ, s1, s2, s3, sf, s4, s5, s6, s7, s8, s9⟩ := hs
    have hv := s4 d
    rw [hd] at hv
    obtain ⟨v1, xs, m, a0, hcv, hb1, he, ha0⟩ := hv.sl_inv
    rw [hb] at hb1; cases hb1
    generalize hh2 : Heap.look ((k, .arr v) :: trH (purN [q, k] []) [q, k] h) = H2
    have h2n : H2 k = some (.arr v) := by rw [← hh2]; simp [Heap.look]
    have h2o : ∀ r, ¬ (r = k ∨ r = q) → H2 r = (h.look r).map (Blk.tr (purN [q, k] [])) := fun r hr => by
      rw [not_or] at hr
      rw [← hh2]; simp only [Heap.look]; rw [if_neg (fun e => hr.1 e.symm), trH_look]
      have : memN [q, k] r = false := by
        cases hmm : memN [q, k] r with
        | false => rfl
        | true =>
          have := memN_mem.1 hmm
          simp at this
          rcases this with h | h
          · exact (hr.2 h).elim
          · exact (hr.1 h).elim
      rw [this]; rfl
    have h2q : ∀ r, (r = k ∨ r = q) → r ≠ k → H2 r = none := fun r hr hne => by
      rcases hr with h1 | h1
      · exact (hne h1).elim
      · rw [h1, ← hh2]; simp only [Heap.look]; rw [if_neg hkq, trH_look]
        have : memN [q, k] q = true := memN_mem.2 (by simp)
        rw [this]; rfl
    let ρ' : Rho := ⟨fun r j => if r = k then ρ.blk q j else ρ.blk r j, fun r => if r = k then ρ.cap q else ρ.cap r, fun r j => if r = k then ρ.rcap q j else ρ.rcap r j⟩
    have fn : ∀ j, foot ρ' H2 k j → j = 0 ∧ ρ.cap q ≠ 0 := fun j hf => by
      unfold foot at hf; rw [h2n] at hf
      exact ⟨hf.1, by have := hf.2; simpa [ρ'] using this⟩
    obtain ⟨xs2, m2, c, he2, hc, hsz, hcap, harr⟩ := s3.blk q _ hb
    rw [he] at he2; simp only [Option.some.injEq, Prod.mk.injEq] at he2; obtain ⟨rfl, rfl⟩ := he2
    obtain ⟨g1, g2⟩ := Rel.turn (H' := H2) (ρ' := ρ') (w' := w) (φ := purN [q, k] []) (D := fun z => z = k ∨ z = q) (k' := .arr v) s3 (r := k) (.inl rfl) h2n h2o h2q
      (fun a1 cv1 hra hv1 => purN_ref hra hv1 (fun n1 _ _ => by
        have hq1 : a1.rbase ≠ q := fun e => n1 (by simp [e])
        have hn1 : a1.rbase ≠ k := fun e => n1 (by simp [e])
        refine hv1.ref_shape hra (fun k' hk => ?_) (fun j => by simp [ρ', hn1]) (by simp [ρ', hn1]) (fun j => by simp [ρ', hn1])
        exact ⟨_, by rw [h2o _ (by rw [not_or]; exact ⟨hn1, hq1⟩), hk]; rfl, same_tr (s3.blk _ _ hk) _⟩))
      (fun r j hr => by rw [not_or] at hr; simp [ρ', hr.1]) (fun r hr => by rw [not_or] at hr; simp [ρ', hr.1]) (fun r j hr => by rw [not_or] at hr; simp [ρ', hr.1])
      (fun b c hb _ => hb) s3.stab
      (fun _ => ⟨xs, m, c, he, fun h => by simp only [ρ', if_true] at h ⊢; exact hc h, by simpa [ρ'] using hsz, by simpa [ρ'] using hcap, harr⟩)
      (fun j hf => by
        obtain ⟨rfl, hc0⟩ := fn j hf
        obtain ⟨o1, o2⟩ := s3.owned q _ (foot_arr hb hc0)
        simp only [ρ', if_true]
        exact ⟨o1, o2, fun r j hr hf' e' => hr (.inr (s3.sep _ _ _ _ hf' (foot_arr hb hc0) e').1)⟩)
      (fun j j' h1 h2 _ => by rw [(fn j h1).1, (fn j' h2).1])
    refine ⟨S, ρ', s1, s2, by rw [hh2]; exact g1, fun r hr hr' => ?_, EnvRel.refine (fun t => by rw [trE_get _ _ _ rfl, hh2]; exact g2 _ _ (s4 t)) ?_, s5, s6, s7, fun r hr => ?_, s9⟩
    · rw [hh2] at hr'
      have hrn : r ≠ k := by omega
      have hrq : r ≠ q := fun e => by rw [h2q r (.inr e) hrn] at hr'; exact hr' rfl
      obtain ⟨f1, f2, f3⟩ := sf r hr (fun e0 => hr' (by rw [h2o r (by rw [not_or]; exact ⟨hrn, hrq⟩), e0]; rfl))
      exact ⟨fun j => by simp [ρ', hrn, f1], by simp [ρ', hrn, f2], fun j => by simp [ρ', hrn, f3]⟩
    · rw [hh2, hcv]
      have := V.sl (S := S) (ρ := ρ') (H := H2) k v xs m a0 h2n he (by simpa [ρ'] using ha0)
      simpa [ρ'] using this
    · rw [hh2] at hr
      by_cases e' : r = k
      · omega
      · by_cases e2 : r = q
        · rw [h2q r (.inr e2) e'] at hr; exact (hr rfl).elim
        · rw [h2o r (by rw [not_or]; exact ⟨e', e2⟩)] at hr
          exact s8 r (fun e0 => hr (by rw [e0]; rfl))
  | .frb d :: r, e, h, n, hr, hs => by
    unfold regA renBS at hr
    split at hr <;> first | exact hr.elim | skip
    rename_i q oo cs hd hb
    obtain ⟨hcs, hr⟩ := hr
    refine regA_ok hx (fz := r) hr ?_
    rw [hd] at hb
    have hb : h.look q = some (.box cs) := hb
    obtain ⟨S, ρ, s1, s2, s3, sf, s4, s5, s6, s7, s8, s9⟩ := hs
    have hv := s4 d
    rw [hd] at hv
    obtain ⟨cs1, hcv, hb1, hoff⟩ := hv.bx_inv
    rw [hb] at hb1; cases hb1
    obtain ⟨S', f1, f2, f3, f4, f5⟩ := freeze2 s3 (keepR [q])
    have eh : (frzP (keepR [q]) (frzA (keepR [q]) h.look) h).look = frzH (keepR [q]) h.look := by funext q'; rw [frzP_look]; rfl
    obtain ⟨c, hc, hsz, hcell⟩ := s3.blk q _ hb
    have hfoot : foot ρ h.look q 0 := by unfold foot; rw [hb]
    have hSq : S' (ρ.blk q 0) = some c := f5 q 0 c (by simp [keepR]) hfoot hc
    have key : ∀ j x, (cs.drop oo)[j]? = some x → c[oo + j]? = some (c.getD (oo + j) Go.undef) ∧ Sees S' x (c.getD (oo + j) Go.undef) := fun j x hx => by
      rw [List.getElem?_drop] at hx
      have hlt : oo + j < c.size := by rw [hsz]; exact (List.getElem?_eq_some_iff.1 hx).1
      have hu : c[oo + j]? = some (c.getD (oo + j) Go.undef) := by rw [Array.getD_eq_getD_getElem?, Array.getElem?_eq_getElem hlt]; rfl
      exact ⟨hu, ((hcell _ _ _ hx hu).sees1 (List.all_eq_true.1 hcs x (List.mem_of_getElem? hx))).mono f1⟩
    have hsee : Sees S' (.iptr (cs.drop oo)) (.pointer (some ⟨ρ.blk q 0, oo, none⟩)) := .iptr _ (ρ.blk q 0) oo c (fun j => c.getD (oo + j) Go.undef) hSq (fun j x hx => (key j x hx).1) (fun j x hx => (key j x hx).2)
    have hE : EnvRel S' ρ (frzH (keepR [q]) h.look) (frzE (frzA (keepR [q]) h.look) e) a := fun t => by rw [frzE_get]; exact f4 _ _ (s4 t)
    refine ⟨S', ρ, fun b c hb => f1 b c (s1 b c hb), fun b h1 h2 => ?_, by rw [eh]; exact f3, sf.look (fun r hr e0 => hr (by rw [frzP_look, e0]; cases keepR [q] r <;> rfl)), by rw [eh]; exact hE.refine (by rw [hcv]; exact .pure _ _ hsee), s5, s6, s7, fun r hr => s8 r (fun e0 => hr (by rw [frzP_look, e0]; cases keepR [q] r <;> rfl)), s9⟩
    by_cases hS : S b = none
    · exact f2 b hS h2
    · exact s2 b h1 hS
  | .renb d k :: r, e, h, n, hr, hs => by
    unfold regA renBS at hr
    split at hr <;> first | exact hr.elim | skip
    rename_i q oo cs hd hb
    obtain ⟨⟨hq0, hk0, hkn, hkq⟩, hr⟩ := hr
    have hkq : k ≠ q := by simpa using hkq
    refine regA_ok hx (fz := r) hr ?_
    rw [hd] at hb
    have hb : h.look q = some (.box cs) := hb
    obtain ⟨S, ρ, s1, s2, s3, sf, s4, s5, s6, s7, s8, s9⟩ := hs
    have hv := s4 d
    rw [hd] at hv
    obtain ⟨cs1, hcv, hb1, hoff⟩ := hv.bx_inv
    rw [hb] at hb1; cases hb1
    generalize hh2 : Heap.look ((k, (Blk.box cs).tr (purN [q, k] [])) :: trH (purN [q, k] []) [q, k] h) = H2
    have h2n : H2 k = some ((Blk.box cs).tr (purN [q, k] [])) := by rw [← hh2]; simp [Heap.look]
    have h2o : ∀ r, ¬ (r = k ∨ r = q) → H2 r = (h.look r).map (Blk.tr (purN [q, k] [])) := fun r hr => by
      rw [not_or] at hr
      rw [← hh2]; simp only [Heap.look]; rw [if_neg (fun e => hr.1 e.symm), trH_look]
      have : memN [q, k] r = false := by
        cases hmm : memN [q, k] r with
        | false => rfl
        | true =>
          have := memN_mem.1 hmm
          simp at this
          rcases this with h | h
          · exact (hr.2 h).elim
          · exact (hr.1 h).elim
      rw [this]; rfl
    have h2q : ∀ r, (r = k ∨ r = q) → r ≠ k → H2 r = none := fun r hr hne => by
      rcases hr with h1 | h1
      · exact (hne h1).elim
      · rw [h1, ← hh2]; simp only [Heap.look]; rw [if_neg hkq, trH_look]
        have : memN [q, k] q = true := memN_mem.2 (by simp)
        rw [this]; rfl
    let ρ' : Rho := ⟨fun r j => if r = k then ρ.blk q j else ρ.blk r j, fun r => if r = k then ρ.cap q else ρ.cap r, fun r j => if r = k then ρ.rcap q j else ρ.rcap r j⟩
    have fn : ∀ j, foot ρ' H2 k j → j = 0 := fun j hf => by
      unfold foot at hf; rw [h2n] at hf; exact hf
    obtain ⟨c, hc, hsz, hcs⟩ := s3.blk q _ hb
    obtain ⟨g1, g2⟩ := Rel.turn (H' := H2) (ρ' := ρ') (w' := w) (φ := purN [q, k] []) (D := fun z => z = k ∨ z = q) (k' := (Blk.box cs).tr (purN [q, k] [])) s3 (r := k) (.inl rfl) h2n h2o h2q
      (fun a1 cv1 hra hv1 => purN_ref hra hv1 (fun n1 _ _ => by
        have hq1 : a1.rbase ≠ q := fun e => n1 (by simp [e])
        have hn1 : a1.rbase ≠ k := fun e => n1 (by simp [e])
        refine hv1.ref_shape hra (fun k' hk => ?_) (fun j => by simp [ρ', hn1]) (by simp [ρ', hn1]) (fun j => by simp [ρ', hn1])
        exact ⟨_, by rw [h2o _ (by rw [not_or]; exact ⟨hn1, hq1⟩), hk]; rfl, same_tr (s3.blk _ _ hk) _⟩))
      (fun r j hr => by rw [not_or] at hr; simp [ρ', hr.1]) (fun r hr => by rw [not_or] at hr; simp [ρ', hr.1]) (fun r j hr => by rw [not_or] at hr; simp [ρ', hr.1])
      (fun b c hb _ => hb) s3.stab
      (fun hV => by
        refine ⟨c, by simp only [ρ', if_true]; exact hc, ?_, fun j x v hx hv => ?_⟩
        · rw [hsz, AV.trL_eq, List.length_map]
        · rw [AV.trL_eq, List.getElem?_map] at hx
          obtain ⟨y, hy, rfl⟩ := Option.map_eq_some_iff.1 hx
          exact hV _ _ (hcs j y v hy hv))
      (fun j hf => by
        obtain rfl := fn j hf
        obtain ⟨o1, o2⟩ := s3.owned q _ (foot_box hb)
        simp only [ρ', if_true]
        exact ⟨o1, o2, fun r j hr hf' e' => hr (.inr (s3.sep _ _ _ _ hf' (foot_box hb) e').1)⟩)
      (fun j j' h1 h2 _ => by rw [fn j h1, fn j' h2])
    refine ⟨S, ρ', s1, s2, by rw [hh2]; exact g1, fun r hr hr' => ?_, EnvRel.refine (fun t => by rw [trE_get _ _ _ rfl, hh2]; exact g2 _ _ (s4 t)) ?_, s5, s6, s7, fun r hr => ?_, s9⟩
    · rw [hh2] at hr'
      have hrn : r ≠ k := by omega
      have hrq : r ≠ q := fun e => by rw [h2q r (.inr e) hrn] at hr'; exact hr' rfl
      obtain ⟨f1, f2, f3⟩ := sf r hr (fun e0 => hr' (by rw [h2o r (by rw [not_or]; exact ⟨hrn, hrq⟩), e0]; rfl))
      exact ⟨fun j => by simp [ρ', hrn, f1], by simp [ρ', hrn, f2], fun j => by simp [ρ', hrn, f3]⟩
    · rw [hh2, hcv]
      have := V.bx (S := S) (ρ := ρ') (H := H2) k oo (AV.trL (purN [q, k] []) cs) h2n (by rw [AV.trL_eq, List.length_map]; exact hoff)
      simpa [ρ'] using this
    · rw [hh2] at hr
      by_cases e' : r = k
      · omega
      · by_cases e2 : r = q
        · rw [h2q r (.inr e2) e'] at hr; exact (hr rfl).elim
        · rw [h2o r (by rw [not_or]; exact ⟨e', e2⟩)] at hr
          exact s8 r (fun e0 => hr (by rw [e0]; rfl))

/-- A region's operations, some of its head late. -/
def opsR (P : Program) (C : Table) (hint : Hint) (lt : List Nat) (l : List Oper) (e : Env) (h : Heap) (n : Nat) (K : Env → Heap → Nat → Prop) : Prop :=
  match lt with
  | [] => opsA P C hint l l e h n K
  | [c] => opsA P C hint l (l.take c) e h n (fuseP P hint (l.drop c) K)
  | c :: r => opsA P C hint l (l.take (r.headD 0)) e h n (fun e h n => lateP P C hint e ((l.take (r.headD 0)).drop c) ∧ opsA P C hint l (l.drop (r.headD 0)) e h n K)
def codeA (P : Program) (C : Table) (hint : Hint) : Code → AQ → Env → Heap → Nat → Prop
  | .skip, Q, e, h, n => Q .normal e h n
  | .region i ops _, Q, e, h, n => regA hint.n0 (preG (hint.fz i)) (fun e h n => opsR P C hint (hint.lt i) (permO (hint.ord i) ops.toList) e h n (fun e h n => regA hint.n0 (postG (hint.fz i)) (Q .normal) e h n)) e h n
  | .seq a b, Q, e, h, n => codeA P C hint a (thenA (codeA P C hint b Q) Q) e h n
  | .cond c a b, Q, e, h, n => condA (opnd e c) (codeA P C hint a Q e h n) (codeA P C hint b Q e h n)
  | .block id b, Q, e, h, n => codeA P C hint b (blockA id Q) e h n
  | .loop b, Q, e, h, n => loopA hint.n0 (codeA P C hint b) Q e h n
  | .exit i, Q, e, h, n => Q (.exit i) e h n
  | .ret, Q, e, h, n => Q .ret e h n
  | _, _, _, _, _ => False

/-- The head ends at the first operation that writes memory, or a temporary that an operation ahead of it reads or writes. -/
def headGo (hint : Hint) : List Nat → List Oper → Nat
  | _, [] => 0
  | seen, o :: l => bif isM hint o || (match o.dst with | some d => seen.contains d | none => false) then 0 else headGo hint ((match o.dst with | some d => [d] | none => []) ++ tmpsOf o ++ seen) l + 1
def headLen (hint : Hint) (l : List Oper) : Nat := headGo hint [] l
def ordOK (hint : Hint) (d : Bool) (lt p : List Nat) (l : List Oper) : Bool :=
  match lt with
  | [c] => !d && p.isEmpty && fuseOK (l.drop c)
  | c :: r => d && (p.isEmpty || permOK p l) && lateOK hint (permO p l) c (r.headD 0)
  | [] => bif p.isEmpty then (!d || drawOK hint l (headLen hint l)) else d && permOK p l && drawOK hint (permO p l) (headLen hint (permO p l))
/-- What is asked of the text, once for all. -/
def codeOK (hint : Hint) (k : Nat) : Code → Bool
  | .region i ops d => dstOK k (permO (hint.ord i) ops.toList) && ordOK hint d (hint.lt i) (hint.ord i) ops.toList
  | .seq a b => codeOK hint k a && codeOK hint k b
  | .cond _ a b => codeOK hint k a && codeOK hint k b
  | .block _ b => codeOK hint k b
  | .loop b => codeOK hint k b
  | _ => true

section
variable {P : Program} {C : Table} {hint : Hint} {x : Cx}

def liftQ (x : Cx) (Q : AQ) : Exit → Act → World → Prop := fun ex a w => ∃ e h n, Q ex e h n ∧ Sat x e h n a w

theorem code_ok (hT : TabOK P C) (hx0 : x.n0 ≤ hint.n0) (hm : P.follows .mixedOrders = true) : ∀ (c : Code) (Q : AQ) (e : Env) (h : Heap) (n : Nat) (a : Act) (w : World), codeOK hint x.k c = true → codeA P C hint c Q e h n → Sat x e h n a w →
    c.wp P (liftQ x Q) a w
  | .skip, Q, e, h, n, a, w, _, hc, hs => wp_skip ⟨e, h, n, hc, hs⟩
  | .region id ⟨ops⟩ d, Q, e0, h0, n0, a, w, hk, hc0, hs0 => by
    simp only [codeOK, Bool.and_eq_true] at hk
    have hK : ∀ e h n a w, regA hint.n0 (postG (hint.fz id)) (Q .normal) e h n → Sat x e h n a w → liftQ x Q .normal a w := fun e h n a w h1 h2 => by
      obtain ⟨e', h', n', h3, h4⟩ := regA_ok hx0 h1 h2
      exact ⟨e', h', n', h3, h4⟩
    have hc1 : regA hint.n0 (preG (hint.fz id)) (fun e h n => opsR P C hint (hint.lt id) (permO (hint.ord id) ops) e h n (fun e h n => regA hint.n0 (postG (hint.fz id)) (Q .normal) e h n)) e0 h0 n0 := hc0
    obtain ⟨e, h, n, hc, hs⟩ := regA_ok hx0 hc1 hs0
    obtain ⟨hk1, hk2⟩ := hk
    unfold ordOK at hk2
    cases hlt : hint.lt id with
    | cons c r =>
      rw [hlt] at hk2 hc
      cases r with
      | nil =>
        simp only [Bool.and_eq_true, Bool.not_eq_true'] at hk2
        obtain ⟨⟨hd1, hperm⟩, hchk⟩ := hk2
        subst hd1
        have ho : hint.ord id = [] := by simpa using hperm
        rw [ho] at hk1 hc
        have hc : opsA P C hint ops (ops.take c) e h n (fuseP P hint (ops.drop c) (fun e h n => regA hint.n0 (postG (hint.fz id)) (Q .normal) e h n)) := hc
        have hk1 : dstOK x.k ops = true := hk1
        have hk2 : dstOK x.k (ops.take c) = true := List.all_eq_true.2 (fun o ho => List.all_eq_true.1 hk1 o (List.mem_of_mem_take ho))
        have hk3 : dstOK x.k (ops.drop c) = true := List.all_eq_true.2 (fun o ho => List.all_eq_true.1 hk1 o (List.mem_of_mem_drop ho))
        refine wp_region ?_
        have := wpOps_eq_wpList (P := P) (Q := liftQ x Q) (ops := ops.toArray) ops 0 (by simp)
        rw [show (List.range ops.toArray.size) = List.range' 0 ops.length by simp [List.range_eq_range']]
        rw [this]
        have key : wpList P ops.toArray (liftQ x Q) (ops.take c ++ ops.drop c) a w := wpList_append _ _ _ _ (opsA_seq hT hx0 (Q := thenQ (wpList P ops.toArray (liftQ x Q) (ops.drop c)) (liftQ x Q)) (fun e h n a w h1 h2 => fuseP_ok hx0 hchk hk3 hK h1 h2) (ops.take c) e h n a w hk2 hc hs)
        rwa [List.take_append_drop] at key
      | cons d0 r0 =>
      simp only [Bool.and_eq_true, Bool.or_eq_true] at hk2
      obtain ⟨⟨hd1, hperm⟩, hchk⟩ := hk2
      subst hd1
      cases hord : hint.ord id with
      | cons p0 p =>
        rw [hord] at hk1 hchk hperm hc
        have hperm : permOK (p0 :: p) ops = true := by simpa using hperm
        exact draw_late_perm (c := c) (hd := d0) hT hx0 hm (permOK_of hperm (by simp)) hchk hk1 hK hc hs
      | nil =>
        rw [hord] at hk1 hchk hc
        exact wp_region_any hm (draw_late (c := c) (hd := d0) hT hx0 hchk hk1 hK hc hs)
    | nil =>
    rw [hlt] at hk2 hc
    have hc : opsA P C hint (permO (hint.ord id) ops) (permO (hint.ord id) ops) e h n (fun e h n => regA hint.n0 (postG (hint.fz id)) (Q .normal) e h n) := hc
    cases hord : hint.ord id with
    | cons p0 p =>
      rw [hord] at hk1 hk2 hc
      simp only [List.isEmpty_cons, cond_false, Bool.and_eq_true] at hk2
      obtain ⟨⟨hd1, hperm⟩, hchk⟩ := hk2
      subst hd1
      exact draw_perm hT hx0 hm (permOK_of hperm (by simp)) hchk hk1 hK hc hs
    | nil =>
    rw [hord] at hk1 hk2 hc
    simp only [List.isEmpty_nil, cond_true] at hk2
    cases d with
    | true =>
      have hk3 : drawOK hint ops (headLen hint ops) = true := by simpa using hk2
      exact draw_ok hT hx0 hm hk3 hk1 hK hc hs
    | false =>
      refine wp_region ?_
      have := wpOps_eq_wpList (P := P) (Q := liftQ x Q) (ops := ops.toArray) ops 0 (by simp)
      rw [show (List.range ops.toArray.size) = List.range' 0 ops.length by simp [List.range_eq_range']]
      rw [this]
      exact opsA_seq hT hx0 hK ops e h n a w hk1 hc hs
  | .seq c d, Q, e, h, n, a, w, hk, hc, hs => by
    simp only [codeOK, Bool.and_eq_true] at hk
    refine wp_seq (wp_mono (code_ok hT hx0 hm c _ e h n a w hk.1 hc hs) ?_)
    rintro ex a' w' ⟨e', h', n', hq, hs'⟩
    cases ex with
    | normal => exact code_ok hT hx0 hm d Q e' h' n' a' w' hk.2 hq hs'
    | exit i => exact ⟨e', h', n', hq, hs'⟩
    | goto l => exact ⟨e', h', n', hq, hs'⟩
    | ret => exact ⟨e', h', n', hq, hs'⟩
    | panic ch => exact ⟨e', h', n', hq, hs'⟩
    | outgrown => exact ⟨e', h', n', hq, hs'⟩
  | .cond c t f, Q, e, h, n, a, w, hk, hc, hs => by
    simp only [codeOK, Bool.and_eq_true] at hk
    have hc : condA (opnd e c) (codeA P C hint t Q e h n) (codeA P C hint f Q e h n) := hc
    have hv : ∃ S ρ, V S ρ h.look (opnd e c) (a.eval c) := by obtain ⟨S, ρ, _, _, _, _, hE, _⟩ := hs; exact ⟨S, ρ, hE.opnd c⟩
    obtain ⟨S, ρ, hv⟩ := hv
    unfold condA at hc
    split at hc
    · rename_i b hb
      rw [hb] at hv
      exact wp_cond_split hv.bool_inv (fun hb => code_ok hT hx0 hm t Q e h n a w hk.1 (hc.1 hb) hs) (fun hb => code_ok hT hx0 hm f Q e h n a w hk.2 (hc.2 hb) hs)
    · rename_i hb; rw [hb] at hv; exact wp_cond_true hv.tt_inv (code_ok hT hx0 hm t Q e h n a w hk.1 hc hs)
    · rename_i hb; rw [hb] at hv; exact wp_cond_false hv.ff_inv (code_ok hT hx0 hm f Q e h n a w hk.2 hc hs)
    · exact hc.elim
  | .block id b, Q, e, h, n, a, w, hk, hc, hs => by
    refine wp_block (wp_mono (code_ok hT hx0 hm b _ e h n a w hk hc hs) ?_)
    rintro ex a' w' ⟨e', h', n', hq, hs'⟩
    cases ex with
    | exit i =>
      simp only [blockA] at hq
      simp only [Exit.inBlock]
      split
      · rename_i hi; rw [if_pos hi] at hq; exact ⟨e', h', n', hq, hs'⟩
      · rename_i hi; rw [if_neg hi] at hq; exact ⟨e', h', n', hq, hs'⟩
    | normal => exact ⟨e', h', n', hq, hs'⟩
    | goto l => exact ⟨e', h', n', hq, hs'⟩
    | ret => exact ⟨e', h', n', hq, hs'⟩
    | panic ch => exact ⟨e', h', n', hq, hs'⟩
    | outgrown => exact ⟨e', h', n', hq, hs'⟩
  | .loop b, Q, e, h, n, a, w, hk, hc, hs => by
    obtain ⟨I, m0, ⟨e0, h0, n0, ⟨hwn, hw⟩, hI⟩, hround⟩ : loopA hint.n0 (codeA P C hint b) Q e h n := hc
    refine wp_loop_ghost (fun m a w => ∃ e h n, I m e h n ∧ Sat x e h n a w) m0 ⟨e0, h0, n0, hI, hs.weak (by omega) hw⟩ ?_
    rintro m a w ⟨e1, h1, n1, hI1, hs1⟩
    refine wp_mono (code_ok hT hx0 hm b _ e1 h1 n1 a w hk (hround m e1 h1 n1 hI1) hs1) ?_
    rintro ex a' w' ⟨e', h', n', hq, hs'⟩
    cases ex with
    | normal =>
      obtain ⟨e2, h2, n2, ⟨hwn2, hw2⟩, m', hm', hI2⟩ := hq
      exact ⟨m', hm', e2, h2, n2, hI2, hs'.weak (by omega) hw2⟩
    | exit i => exact ⟨e', h', n', hq, hs'⟩
    | goto l => exact ⟨e', h', n', hq, hs'⟩
    | ret => exact ⟨e', h', n', hq, hs'⟩
    | panic ch => exact ⟨e', h', n', hq, hs'⟩
    | outgrown => exact ⟨e', h', n', hq, hs'⟩
  | .exit i, Q, e, h, n, a, w, _, hc, hs => wp_exit ⟨e, h, n, hc, hs⟩
  | .ret, Q, e, h, n, a, w, _, hc, hs => wp_ret ⟨e, h, n, hc, hs⟩
  | .rangeFunc .., _, _, _, _, _, _, _, hc, _ => hc.elim
  | .scope _, _, _, _, _, _, _, _, hc, _ => hc.elim
  | .label _, _, _, _, _, _, _, _, hc, _ => hc.elim
  | .goto _, _, _, _, _, _, _, _, hc, _ => hc.elim
  | .refuse _, _, _, _, _, _, _, _, hc, _ => hc.elim
end
end Go.Vc
namespace Go.Vc
open Go.RowKit

/-! ### A function -/
/-- The arguments in their slots. -/
def envOf : Nat → List AV → Env
  | _, [] => []
  | i, v :: l => (i, v) :: envOf (i + 1) l

/-- The value in a result's place. -/
def resV (P : Program) (e : Env) (h : Heap) : ResultVar → AV
  | .tmp t => e.get t
  | .cell a t => loadV (td P t) (blkOf h (e.get a)) (e.get a)
def resP (P : Program) (e : Env) (h : Heap) : ResultVar → Prop
  | .tmp _ => True
  | .cell a t => loadP (td P t) (blkOf h (e.get a)) (e.get a)
def resL (P : Program) (e : Env) (h : Heap) : List ResultVar → List AV
  | [] => []
  | r :: l => resV P e h r :: resL P e h l
def resPL (P : Program) (e : Env) (h : Heap) : List ResultVar → Prop
  | [] => True
  | r :: l => resP P e h r ∧ resPL P e h l
def tupOf : List AV → AV
  | [v] => v
  | vs => .tup vs

/-- At a function's end: the result may be taken for 'val', the memory for 'new'. -/
def retA (P : Program) (rs : List ResultVar) (val : AV) (new : Heap) (e : Env) (h : Heap) : Prop :=
  resPL P e h rs ∧ Co ((tupOf (resL P e h rs)).tr (frzA (keeps new) h.look)) val ∧ ∃ n', WHeap (frzA (keeps new) h.look) h n' new
def endA (P : Program) (rs : List ResultVar) (val : AV) (new : Heap) : AQ
  | .normal, e, h, _ => retA P rs val new e h
  | .ret, e, h, _ => retA P rs val new e h
  | _, _, _, _ => False
def funA (P : Program) (C : Table) (hint : Hint) (c : Code) (rs : List ResultVar) (args : List AV) (val : AV) (new : Heap) : Prop :=
  codeA P C hint c (endA P rs val new) (envOf 0 args) [] 0

theorem envOf_get (l : List AV) : ∀ (i t : Nat), (envOf i l).get t = if i ≤ t then (match l[t - i]? with | some v => v | none => .undef) else .undef := by
  induction l with
  | nil => intro i t; simp [envOf, Env.get]
  | cons v l ih =>
    intro i t
    simp only [envOf, Env.get]
    by_cases h : i = t
    · subst h; simp
    · rw [if_neg h, ih]
      by_cases h1 : i + 1 ≤ t
      · rw [if_pos h1, if_pos (by omega)]
        have : t - i = (t - (i + 1)) + 1 := by omega
        rw [this]; simp
      · rw [if_neg h1, if_neg (by omega)]

/-- A result, read. -/
def resS (tmps : Array Value) : ResultVar → Sem Value
  | .tmp t => pure (tmps.getD t Go.undef)
  | .cell q t => do loadVar t (← asAddr (tmps.getD q Go.undef))
theorem results_eq (fn : Func) (tmps : Array Value) : results fn tmps = (do let vs ← fn.results.mapM (resS tmps); pure (if h : vs.size = 1 then vs[0] else .tuple vs)) := by
  unfold results
  congr 2

section
variable {P : Program} {C : Table} {hint : Hint}

theorem results_ok {S : Store} {ρ : Rho} {h : Heap} {own : Nat → Prop} {e : Env} {a : Act} {w : World} (hrel : Rel own S ρ h.look w) (hE : EnvRel S ρ h.look e a) : ∀ (rs : List ResultVar), resPL P e h rs →
    ∃ vs : List Value, (rs.mapM (resS a.tmps)).run P w = .ok vs w ∧ vs.length = rs.length ∧
      ∀ (j : Nat) x v, (resL P e h rs)[j]? = some x → vs[j]? = some v → V S ρ h.look x v
  | [], _ => ⟨[], by simp, rfl, fun j x v h => by simp [resL] at h⟩
  | r :: rs, hp => by
    obtain ⟨hp1, hp2⟩ := hp
    obtain ⟨vs, hr, hl, hv⟩ := results_ok hrel hE rs hp2
    have one : ∃ u, (resS a.tmps r).run P w = .ok u w ∧ V S ρ h.look (resV P e h r) u := by
      cases r with
      | tmp t => exact ⟨_, rfl, hE t⟩
      | cell q t =>
        obtain ⟨u, hu, hv⟩ := load_ok (hF := h.look) (fun _ _ h => h) (fun _ _ h => h) hrel hp1 (hE q)
        refine ⟨u, ?_, hv⟩
        have hptr : ∃ b o, a.tmps.getD q Go.undef = .pointer (some ⟨b, o, none⟩) := by
          have hvq := hE q
          have hp1 : loadP (td P t) (blkOf h (e.get q)) (e.get q) := hp1
          unfold loadP at hp1
          split at hp1
          · rename_i c cs hc; rw [hc] at hvq; obtain ⟨b, o, _, h1, _⟩ := hvq.iptr_inv; exact ⟨b, o, h1⟩
          · rename_i m cs hc; rw [hc] at hvq; obtain ⟨b, o, _, h1, _⟩ := hvq.iptr_inv; exact ⟨b, o, h1⟩
          · rename_i r0 off cs hc _; rw [hc] at hvq; obtain ⟨_, h1, _⟩ := hvq.bx_inv; exact ⟨_, _, h1⟩
          · rename_i m r0 off cs hc _; rw [hc] at hvq; obtain ⟨_, h1, _⟩ := hvq.bx_inv; exact ⟨_, _, h1⟩
          · rename_i r0 i v hc _; rw [hc] at hvq; obtain ⟨_, _, _, h1, _⟩ := hvq.pa_inv; exact ⟨_, _, h1⟩
          · rename_i m r0 i v hc _; rw [hc] at hvq; obtain ⟨_, _, _, h1, _⟩ := hvq.pa_inv; exact ⟨_, _, h1⟩
          · rename_i r0 i j xss hc _; rw [hc] at hvq; obtain ⟨_, _, h1, _⟩ := hvq.pm_inv; exact ⟨_, _, h1⟩
          · rename_i r0 i xss hc _; rw [hc] at hvq; obtain ⟨_, h1, _⟩ := hvq.po_inv; exact ⟨_, _, h1⟩
          · exact hp1.elim
        obtain ⟨b, o, hbo⟩ := hptr
        rw [hbo] at hu
        show (do loadVar t (← asAddr (a.tmps.getD q Go.undef)) : Sem Value).run P w = _
        rw [hbo]
        simpa [Instr.loadAt, Instr.sureAddr, asAddr] using hu
    obtain ⟨u, hu, hvu⟩ := one
    refine ⟨u :: vs, ?_, by simp [hl], fun j x v hx hv' => ?_⟩
    · rw [List.mapM_cons]
      simp only [Sem.run_bind, hu, Result.andThen_ok, hr, Sem.run_pure]
    · cases j with
      | zero => simp [resL] at hx hv'; subst hx; subst hv'; exact hvu
      | succ j => simp [resL] at hx hv'; exact hv j x v hx hv'

/-- The end of a body. -/
theorem ret_ok {fn : Func} {val : AV} {new : Heap} {x : Cx} {e : Env} {hp : Heap} {n : Nat} {a : Act} {w' : World} (hr : retA P fn.results.toList val new e hp) (hs : Sat x e hp n a w') :
    a.defers = [] ∧ ∃ v, (results fn a.tmps).run P w' = .ok v w' ∧ ∃ S' ρ', Rel x.own S' ρ' new.look w' ∧ x.S0.le S' ∧ (∀ b, x.S0 b = none → S' b ≠ none → x.own b) ∧ Kept x.own x.W w' ∧ V S' ρ' new.look val v ∧ RhoFix x.n0 x.ρ0 ρ' new.look := by
  obtain ⟨r1, r2, n', r3⟩ := hr
  obtain ⟨S1, ρ, s1, s2, s3, sf, s4, s5, s6, s7, s8, s9⟩ := hs
  obtain ⟨vs, hr, hlen, hv⟩ := results_ok s3 s4 fn.results.toList r1
  refine ⟨s7, (if h : vs.toArray.size = 1 then vs.toArray[0] else .tuple vs.toArray), ?_, ?_⟩
  · rw [results_eq, Sem.run_bind, Array.mapM_eq_mapM_toList, Sem.run_map, hr]
    simp only [Result.andThen_ok, Sem.run_pure]
  · have htup : V S1 ρ hp.look (tupOf (resL P e hp fn.results.toList)) (if h : vs.toArray.size = 1 then vs.toArray[0] else .tuple vs.toArray) := by
      have hlr : (resL P e hp fn.results.toList).length = fn.results.toList.length := by
        generalize fn.results.toList = l
        induction l with
        | nil => rfl
        | cons r l ih => simp [resL, ih]
      by_cases h1 : vs.length = 1
      · obtain ⟨v0, rfl⟩ := List.length_eq_one_iff.1 h1
        obtain ⟨u0, hu0⟩ := List.length_eq_one_iff.1 (show (resL P e hp fn.results.toList).length = 1 by rw [hlr, ← hlen]; rfl)
        rw [hu0] at hv ⊢
        simp only [List.size_toArray, List.length_singleton, dif_pos]
        exact hv 0 u0 v0 rfl rfl
      · rw [dif_neg (by simpa using h1)]
        have : tupOf (resL P e hp fn.results.toList) = .tup (resL P e hp fn.results.toList) := by
          rw [← hlen] at hlr
          generalize resL P e hp fn.results.toList = l at hlr
          match l with
          | [] => rfl
          | [u] => exact absurd (by simpa using hlr.symm) h1
          | _ :: _ :: _ => rfl
        rw [this]
        exact .tup _ _ (by simp [hlr, hlen]) (fun j y v hy hv' => hv j y v hy (by simpa using hv'))
    obtain ⟨S', f1, f2, f3, f4⟩ := freeze s3 (keeps new)
    have hh := WHeap.spec r3
    have b1 : ∀ r k, frzH (keeps new) hp.look r = some k → ∃ k2, new.look r = some k2 ∧ BW k k2 := fun r k hr => by
      obtain ⟨hk, k0, hk0, rfl⟩ := frzH_some hr
      obtain ⟨k2, hk2⟩ := Option.isSome_iff_exists.1 hk
      obtain ⟨⟨k1, hk1, hc⟩, _⟩ := hh r k2 hk2
      rw [hk0] at hk1; cases hk1
      exact ⟨k2, hk2, hc.bw⟩
    have b2 : ∀ r k2, new.look r = some k2 → ∃ k, frzH (keeps new) hp.look r = some k ∧ BW k k2 := fun r k2 hr => by
      obtain ⟨⟨k1, hk1, hc⟩, _⟩ := hh r k2 hr
      exact ⟨_, by rw [frzH_keep (by simp [keeps, hr]), hk1]; rfl, hc.bw⟩
    refine ⟨S', ρ, f3.weak b1 b2, fun b c hb => f1 b c (s1 b c hb), fun b h1 h2 => ?_, s5, Co.ent _ _ r2 _ _ _ _ ((f4 _ _ htup).weak b1), sf.look (fun r hr => ?_)⟩
    · by_cases hS1 : S1 b = none
      · exact f2 b hS1 h2
      · exact s2 b h1 hS1
    · obtain ⟨k2, hk2⟩ := Option.ne_none_iff_exists'.1 hr
      obtain ⟨⟨k1, hk1, _⟩, _⟩ := hh r k2 hk2
      rw [hk1]; simp
theorem endA_ret' {rs : List ResultVar} {val : AV} {new : Heap} {ex : Exit} {e : Env} {h : Heap} {n : Nat} (hq : endA P rs val new ex e h n) : (ex = .normal ∨ ex = .ret) ∧ retA P rs val new e h := by
  cases ex with
  | normal => exact ⟨.inl rfl, hq⟩
  | ret => exact ⟨.inr rfl, hq⟩
  | exit i => exact hq.elim
  | goto l => exact hq.elim
  | panic ch => exact hq.elim
  | outgrown => exact hq.elim

/-- **A function keeps its contract**, if its body's abstract run says so. -/
theorem fun_ok (hT : TabOK P C) (hm : P.follows .mixedOrders = true) {f : FuncId} {fn : Func} {c : Code} (hf : P.funcs[f]? = some fn) (hb : fn.body = some c) {args : List AV} {val : AV} {new : Heap} (hk : codeOK hint fn.ntmps c = true)
    (hl0 : Nat.ble args.length fn.ntmps = true) (h : funA P C hint c fn.results.toList args val new) : SpecOK P f args val new := by
  have hl := Nat.le_of_ble_eq_true hl0
  intro S w cargs hS hsz hargs
  refine calls_of_wp hf hb ?_
  let x : Cx := ⟨w, fun b => w.heap.size ≤ b, fn.ntmps, S, 0, ⟨fun _ _ => 0, fun _ => 0, fun _ _ => 0⟩, fun b hb => hb⟩
  have hsat : Sat x (envOf 0 args) [] 0 { tmps := cargs ++ Array.replicate (fn.ntmps - cargs.size) Go.undef, defers := [] } w := by
    let ρ : Rho := ⟨fun _ _ => 0, fun _ => 0, fun _ _ => 0⟩
    refine ⟨S, ρ, fun _ _ h => h, fun b h1 h2 => absurd h1 h2, ⟨hS.2, hS.1, fun r k hr => (by cases hr), fun r j hf => hf.elim, fun r j r' j' hf => hf.elim⟩, fun r h1 _ => absurd h1 (Nat.not_lt_zero _), fun t => ?_, Kept.refl _ _, (by show (cargs ++ Array.replicate (fn.ntmps - cargs.size) Go.undef).size = fn.ntmps; simp; omega), rfl, fun r hr => (hr rfl).elim, Nat.le_refl _⟩
    rw [envOf_get]
    simp only [Nat.zero_le, if_true, Nat.sub_zero]
    cases ht : args[t]? with
    | none => exact .pure _ _ (.undef _)
    | some v =>
      have hlt : t < cargs.size := by rw [hsz]; exact (List.getElem?_eq_some_iff.1 ht).1
      have e1 : (cargs ++ Array.replicate (fn.ntmps - cargs.size) Go.undef).getD t Go.undef = cargs[t] := by
        rw [Array.getD_eq_getD_getElem?, Array.getElem?_append_left hlt]; simp [hlt]
      rw [e1]
      exact .pure _ _ (hargs t v cargs[t] ht (by simp [hlt]))
  refine wp_mono (code_ok (x := x) hT (Nat.zero_le _) hm c _ _ _ _ _ w hk h hsat) ?_
  rintro ex a w' ⟨e, hp, n, hq, hs⟩
  obtain ⟨hex, hr⟩ := endA_ret' hq
  have fin : a.defers = [] ∧ ∃ v, (results fn a.tmps).run P w' = .ok v w' ∧ ∃ cv S' ρ', (Ending.returned v) = .returned cv ∧ Rel (w.heap.size ≤ ·) S' ρ' new.look w' ∧ S.le S' ∧ (∀ b, S b = none → S' b ≠ none → w.heap.size ≤ b) ∧
      Kept (w.heap.size ≤ ·) w w' ∧ V S' ρ' new.look val cv := by
    obtain ⟨g1, v, g2, S', ρ', g3, g4, g5, g6, g7, _⟩ := ret_ok hr hs
    exact ⟨g1, v, g2, v, S', ρ', rfl, g3, g4, g5, g6, g7⟩
  rcases hex with rfl | rfl <;> exact fin

/-- .. a function that writes what its arguments point to. -/
theorem fun_okM (hT : TabOK P C) (hm : P.follows .mixedOrders = true) {f : FuncId} {fn : Func} {c : Code} (hf : P.funcs[f]? = some fn) (hb : fn.body = some c) {args : List AV} {val : AV} {pre post : Heap} {n0 : Nat} (hk : codeOK hint fn.ntmps c = true)
    (hl0 : Nat.ble args.length fn.ntmps = true) (hn0 : n0 ≤ hint.n0) (hpre : ∀ r, pre.look r ≠ none → r < n0) (hsh : ∀ r k k', pre.look r = some k → post.look r = some k' → SameShape k k')
    (h : codeA P C hint c (endA P fn.results.toList val post) (envOf 0 args) pre n0) : SpecM P f args pre n0 val post := by
  have hl := Nat.le_of_ble_eq_true hl0
  refine ⟨hsh, fun own S ρ w cargs hown hrel hsz hargs => ?_⟩
  refine calls_of_wp hf hb ?_
  let x : Cx := ⟨w, own, fn.ntmps, S, n0, ρ, hown⟩
  have hsat : Sat x (envOf 0 args) pre n0 { tmps := cargs ++ Array.replicate (fn.ntmps - cargs.size) Go.undef, defers := [] } w := by
    refine ⟨S, ρ, fun _ _ h => h, fun b h1 h2 => absurd h1 h2, hrel, fun r h1 _ => ⟨fun _ => rfl, rfl, fun _ => rfl⟩, fun t => ?_, Kept.refl _ _, (by show (cargs ++ Array.replicate (fn.ntmps - cargs.size) Go.undef).size = fn.ntmps; simp; omega), rfl, hpre, Nat.le_refl _⟩
    rw [envOf_get]
    simp only [Nat.zero_le, if_true, Nat.sub_zero]
    cases ht : args[t]? with
    | none => exact .pure _ _ (.undef _)
    | some v =>
      have hlt : t < cargs.size := by rw [hsz]; exact (List.getElem?_eq_some_iff.1 ht).1
      have e1 : (cargs ++ Array.replicate (fn.ntmps - cargs.size) Go.undef).getD t Go.undef = cargs[t] := by
        rw [Array.getD_eq_getD_getElem?, Array.getElem?_append_left hlt]; simp [hlt]
      rw [e1]
      exact hargs t v cargs[t] ht (by simp [hlt])
  refine wp_mono (code_ok (x := x) hT hn0 hm c _ _ _ _ _ w hk h hsat) ?_
  rintro ex a w' ⟨e, hp, n, hq, hs⟩
  obtain ⟨hex, hr⟩ := endA_ret' hq
  have fin : a.defers = [] ∧ ∃ v, (results fn a.tmps).run P w' = .ok v w' ∧ ∃ cv S' ρ', (Ending.returned v) = .returned cv ∧ Rel own S' ρ' post.look w' ∧ S.le S' ∧ (∀ b, S b = none → S' b ≠ none → own b) ∧
      Kept own w w' ∧ V S' ρ' post.look val cv ∧ ∀ r, r < n0 → post.look r ≠ none → (∀ j, ρ'.blk r j = ρ.blk r j) ∧ ρ'.cap r = ρ.cap r ∧ ∀ i, ρ'.rcap r i = ρ.rcap r i := by
    obtain ⟨g1, v, g2, S', ρ', g3, g4, g5, g6, g7, g8⟩ := ret_ok hr hs
    exact ⟨g1, v, g2, v, S', ρ', rfl, g3, g4, g5, g6, g7, g8⟩
  rcases hex with rfl | rfl <;> exact fin
end
end Go.Vc
namespace Go.Vc
open Go.RowKit

/-! ### The rules that the reckoner goes by -/
def memB : List Nat → Nat → Bool
  | [], _ => false
  | a :: l, d => bif a == d then true else memB l d
theorem memB_nil (d : Nat) : memB [] d = false := (rfl)
theorem memB_cons (a d : Nat) (l : List Nat) : memB (a :: l) d = bif a == d then true else memB l d := (rfl)
theorem memN_nil (d : Nat) : memN [] d = false := (rfl)
theorem memN_cons (a d : Nat) (l : List Nat) : memN (a :: l) d = bif a == d then true else memN l d := (rfl)
def fzL : List (Nat × List GOp) → Nat → List GOp
  | [], _ => []
  | (a, l) :: r, d => bif a == d then l else fzL r d
theorem fzL_nil (d : Nat) : fzL [] d = [] := (rfl)
theorem fzL_cons (a d : Nat) (l r) : fzL ((a, l) :: r) d = bif a == d then l else fzL r d := (rfl)
/-- own: slots whose new memory is to be written · fz: what happens ahead of regions · n0: the references that keep their place · ms: the functions that write what their arguments point to · mt: slots whose new lists of lists are matrices. -/
def ordL : List (Nat × List Nat) → Nat → List Nat
  | [], _ => []
  | (a, l) :: r, d => bif a == d then l else ordL r d
theorem ordL_nil (d : Nat) : ordL [] d = [] := (rfl)
theorem ordL_cons (a d : Nat) (l r) : ordL ((a, l) :: r) d = bif a == d then l else ordL r d := (rfl)
def hintX (own : List Nat) (fz : List (Nat × List GOp)) (n0 : Nat) (ms mt : List Nat) (od : List (Nat × List Nat) := []) (lt : List (Nat × List Nat) := []) : Hint := ⟨memB own, fzL fz, n0, memB ms, memB mt, ordL od, ordL lt⟩
def hintL (l : List Nat) : Hint := hintX l [] 0 [] []
theorem hintL_eq (l) : hintL l = hintX l [] 0 [] [] := (rfl)
theorem hintX_own (l r n ms mt od lt d) : (hintX l r n ms mt od lt).own d = memB l d := (rfl)
theorem hintX_fz (l r n ms mt od lt d) : (hintX l r n ms mt od lt).fz d = fzL r d := (rfl)
theorem hintX_n0 (l r n ms mt od lt) : (hintX l r n ms mt od lt).n0 = n := (rfl)
theorem hintX_ms (l r n ms mt od lt d) : (hintX l r n ms mt od lt).ms d = memB ms d := (rfl)
theorem hintX_mat (l r n ms mt od lt d) : (hintX l r n ms mt od lt).mat d = memB mt d := (rfl)
theorem hintX_lt (l r n ms mt od lt d) : (hintX l r n ms mt od lt).lt d = ordL lt d := (rfl)
theorem hintX_ord (l r n ms mt od lt d) : (hintX l r n ms mt od lt).ord d = ordL od d := (rfl)
def permS (f : Nat → Nat) (o : Option Oper) (r : List Oper) : List Oper := match o with | some o => renO f o :: r | none => r
def renA (f : Nat → Nat) (af : Array Edge) : Array Edge := af.map (fun e => { e with on := f e.on })
theorem permO_nil (l) : permO [] l = l := (rfl)
theorem permO_cons (a r l) : permO (a :: r) l = permL (a :: r) l (a :: r) := (rfl)
theorem permL_nil (q l) : permL q l [] = [] := (rfl)
theorem permL_cons (q l i r) : permL q l (i :: r) = permS (posOf q) (l[i]?) (permL q l r) := by rw [permL]; rfl
theorem permS_some (f o r) : permS f (some o) r = renO f o :: r := (rfl)
theorem renO_n (f dst op t pos af) : renO f ⟨dst, op, t, pos, af, none⟩ = ⟨dst, op, t, pos, renA f af, none⟩ := (rfl)
theorem renO_s (f dst op t pos af g b) : renO f ⟨dst, op, t, pos, af, some (g, b)⟩ = ⟨dst, op, t, pos, renA f af, some (f g, b)⟩ := (rfl)
theorem posOf_cons (a p i) : posOf (a :: p) i = bif a == i then 0 else posOf p i + 1 := (rfl)
theorem posOf_nil (i) : posOf [] i = 0 := (rfl)
theorem mkey_f (f) : mkey (.func f) = f := (rfl)
theorem mkey_t (t) : mkey (.tmp t) = 100000 + t := (rfl)
theorem buildS_some (z is vs) : buildS (some z) is vs = ⟨belowN z.length is ∧ vs.all AV.cell1 = true, .agg (setAll (z.map cst1) is vs), [], 0⟩ := (rfl)
theorem setAll_nil (cs) : setAll cs [] [] = cs := (rfl)
theorem setAll_cons (cs i is v vs) : setAll cs (i :: is) (v :: vs) = setAll (cs.set i v) is vs := (rfl)
theorem belowN_nil (n) : belowN n [] = True := (rfl)
theorem belowN_cons (n i is) : belowN n (i :: is) = (i < n ∧ belowN n is) := (rfl)
theorem regA_nil (n0 : Nat) (A e h n) : regA n0 [] A e h n = A e h n := (rfl)
theorem regA_fz (n0 : Nat) (l r A e h n) : regA n0 (.fz l :: r) A e h n = regA n0 r A (frzE (frzA (keepR (frzR l e)) h.look) e) (frzP (keepR (frzR l e)) (frzA (keepR (frzR l e)) h.look) h) n := (rfl)
theorem regA_up (n0 : Nat) (d k r A e h n) : regA n0 (.up d k :: r) A e h n = (emptyB k = true ∧ upS (e.get d) (regA n0 r A ((d, k.ref n) :: e) ((n, k) :: h) (n + 1))) := (rfl)
theorem regA_upf (n0 : Nat) (d off k r A e h n) : regA n0 (.upf d off k :: r) A e h n = (emptyB k = true ∧ upfS (e.get d) (blkOf h (e.get d)) off (fun q cs j => regA n0 r A e ((n, k) :: hset h q (.box (cs.set j (k.ref n)))) (n + 1))) := (rfl)
theorem regA_row (n0 : Nat) (d r A e h n) : regA n0 (.row d :: r) A e h n = rowS (e.get d) (blkOf h (e.get d)) (fun q row => regA n0 r A ((d, .sl n) :: trE (purN [q] []) e) ((n, .arr (.ints row)) :: trH (purN [q] []) [q] h) (n + 1)) := (rfl)
theorem regA_cut (n0 : Nat) (l r A e h n) : regA n0 (.cut l :: r) A e h n = stopA (regA n0 r A) (cutE l e) h n := (rfl)
theorem regA_ren (n0 : Nat) (d k r A e h n) : regA n0 (.ren d k :: r) A e h n = renS (e.get d) (blkOf h (e.get d)) (fun q v => (n0 ≤ q ∧ n0 ≤ k ∧ k < n ∧ (k == q) = false) ∧ regA n0 r A ((d, .sl k) :: trE (purN [q, k] []) e) ((k, .arr v) :: trH (purN [q, k] []) [q, k] h) n) := (rfl)
theorem regA_renb (n0 : Nat) (d k r A e h n) : regA n0 (.renb d k :: r) A e h n = renBS (e.get d) (blkOf h (e.get d)) (fun q o cs => (n0 ≤ q ∧ n0 ≤ k ∧ k < n ∧ (k == q) = false) ∧ regA n0 r A ((d, .bx k o) :: trE (purN [q, k] []) e) ((k, (Blk.box cs).tr (purN [q, k] [])) :: trH (purN [q, k] []) [q, k] h) n) := (rfl)
theorem regA_frb (n0 : Nat) (d r A e h n) : regA n0 (.frb d :: r) A e h n = renBS (e.get d) (blkOf h (e.get d)) (fun q o cs => cs.all AV.pure1 = true ∧ regA n0 r A ((d, .iptr (cs.drop o)) :: frzE (frzA (keepR [q]) h.look) e) (frzP (keepR [q]) (frzA (keepR [q]) h.look) h) n) := (rfl)
theorem preG_frb (d r) : preG (.frb d :: r) = .frb d :: preG r := (rfl)
theorem postG_frb (d r) : postG (.frb d :: r) = postG r := (rfl)
theorem preG_renb (d k r) : preG (.renb d k :: r) = .renb d k :: preG r := (rfl)
theorem postG_renb (d k r) : postG (.renb d k :: r) = postG r := (rfl)
theorem renBS_bx (q o cs A) : renBS (.bx q o) (some (.box cs)) A = A q o cs := (rfl)
theorem preG_ren (d k r) : preG (.ren d k :: r) = .ren d k :: preG r := (rfl)
theorem postG_ren (d k r) : postG (.ren d k :: r) = postG r := (rfl)
theorem renS_sl (q v A) : renS (.sl q) (some (.arr v)) A = A q v := (rfl)
theorem regA_skip (n0 : Nat) (r A e h n) : regA n0 (.skip :: r) A e h n = regA n0 r A e h (n + 1) := (rfl)
theorem preG_skip (r) : preG (.skip :: r) = .skip :: preG r := (rfl)
theorem postG_skip (r) : postG (.skip :: r) = postG r := (rfl)
theorem regA_drop (n0 : Nat) (l k r A e h n) : regA n0 (.drop l k :: r) A e h n = ((n0 ≤ k ∧ belowP k (frzP (keepR l) (frzA (keepR l) h.look) h)) ∧ regA n0 r A (frzE (frzA (keepR l) h.look) e) (frzP (keepR l) (frzA (keepR l) h.look) h) k) := (rfl)
theorem belowP_nil (k) : belowP k [] = True := (rfl)
theorem belowP_cons (k q b h) : belowP k ((q, b) :: h) = (q < k ∧ belowP k h) := (rfl)
theorem preG_drop (l k r) : preG (.drop l k :: r) = .drop l k :: preG r := (rfl)
theorem postG_drop (l k r) : postG (.drop l k :: r) = postG r := (rfl)
theorem cutE_nil (e) : cutE [] e = [] := (rfl)
theorem cutE_cons (t l e) : cutE (t :: l) e = (t, e.get t) :: cutE l e := (rfl)
theorem stop_intro {A : Env → Heap → Nat → Prop} {e h n} (H : A e h n) : stopA A e h n := H
@[congr] theorem stopA_congr (A : Env → Heap → Nat → Prop) {e e' : Env} {h h' : Heap} {n n' : Nat} (h2 : e = e') (h3 : h = h') (h4 : n = n') : stopA A e h n = stopA A e' h' n' := by rw [h2, h3, h4]
theorem preG_cut (l r) : preG (.cut l :: r) = .cut l :: preG r := (rfl)
theorem postG_cut (l r) : postG (.cut l :: r) = postG r := (rfl)
theorem preG_nil : preG [] = [] := (rfl)
theorem preG_post (r) : preG (.post :: r) = [] := (rfl)
theorem preG_fz (l r) : preG (.fz l :: r) = .fz l :: preG r := (rfl)
theorem preG_up (d k r) : preG (.up d k :: r) = .up d k :: preG r := (rfl)
theorem preG_upf (d o k r) : preG (.upf d o k :: r) = .upf d o k :: preG r := (rfl)
theorem preG_row (d r) : preG (.row d :: r) = .row d :: preG r := (rfl)
theorem postG_nil : postG [] = [] := (rfl)
theorem postG_post (r) : postG (.post :: r) = r := (rfl)
theorem postG_fz (l r) : postG (.fz l :: r) = postG r := (rfl)
theorem postG_up (d k r) : postG (.up d k :: r) = postG r := (rfl)
theorem postG_upf (d o k r) : postG (.upf d o k :: r) = postG r := (rfl)
theorem postG_row (d r) : postG (.row d :: r) = postG r := (rfl)
theorem emptyB_i : (emptyB (.arr (.ints [])) = true) = True := by simp [emptyB]
theorem emptyB_r : (emptyB (.arr (.rows [])) = true) = True := by simp [emptyB]
theorem emptyB_s : (emptyB (.arr (.strs [])) = true) = True := by simp [emptyB]
theorem emptyB_p : (emptyB (.arr (.pairs [])) = true) = True := by simp [emptyB]
theorem emptyB_m : (emptyB (.mat []) = true) = True := by simp [emptyB]
theorem ref_arr (n v) : Blk.ref n (.arr v) = .sl n := (rfl)
theorem ref_mat (n v) : Blk.ref n (.mat v) = .mt n := (rfl)
theorem upS_nils (A) : upS .nils A = A := (rfl)
theorem upfS_bx (q o cs off) (A : Nat → List AV → Nat → Prop) : upfS (.bx q o) (some (.box cs)) off A = upS (cs.getD (o + off) .undef) (A q cs (o + off)) := (rfl)
theorem rowS_mr (q i xss) (A : Nat → List Int → Prop) : rowS (.mr q i) (some (.mat xss)) A = A q (ix xss i) := (rfl)
theorem trE_nil (φ) : trE φ [] = [] := (rfl)
theorem trE_cons (φ t v e) : trE φ ((t, v) :: e) = (t, v.tr φ) :: trE φ e := (rfl)
theorem trH_nil (φ ns) : trH φ ns [] = [] := (rfl)
theorem trH_cons (φ ns q k h) : trH φ ns ((q, k) :: h) = bif memN ns q then trH φ ns h else (q, k.tr φ) :: trH φ ns h := (rfl)
theorem purN_sl (ns ws q) : purN ns ws (.sl q) = bif memN ns q then .undef else .sl q := (rfl)
theorem purN_mt (ns ws q) : purN ns ws (.mt q) = bif memN ns q then .undef else .mt q := (rfl)
theorem purN_mr (ns ws q i) : purN ns ws (.mr q i) = bif memN ns q || memN ws q then .undef else .mr q i := (rfl)
theorem purN_bx (ns ws q o) : purN ns ws (.bx q o) = bif memN ns q then .undef else .bx q o := (rfl)
theorem purN_pa (ns ws q i) : purN ns ws (.pa q i) = bif memN ns q then .undef else .pa q i := (rfl)
theorem purN_pm (ns ws q i j) : purN ns ws (.pm q i j) = bif memN ns q || memN ws q then .undef else .pm q i j := (rfl)
theorem purN_po (ns ws q i) : purN ns ws (.po q i) = bif memN ns q then .undef else .po q i := (rfl)
def frzR1 (v : AV) (k : List Nat) : List Nat := match v with | .sl r => r :: k | .mt r => r :: k | _ => k
theorem frzR_nil (e) : frzR [] e = [] := (rfl)
theorem frzR_cons (d l e) : frzR (d :: l) e = frzR1 (e.get d) (frzR l e) := by rw [frzR]; cases e.get d <;> rfl
theorem frzR1_sl (r k) : frzR1 (.sl r) k = r :: k := (rfl)
theorem frzR1_mt (r k) : frzR1 (.mt r) k = r :: k := (rfl)
theorem keepR_nil (r) : keepR [] r = true := (rfl)
theorem keepR_cons (q l r) : keepR (q :: l) r = bif q == r then false else keepR l r := (rfl)
theorem frzE_nil (φ) : frzE φ [] = [] := (rfl)
theorem frzE_cons (φ t v e) : frzE φ ((t, v) :: e) = (t, v.tr φ) :: frzE φ e := (rfl)
theorem frzP_nil (keep φ) : frzP keep φ [] = [] := (rfl)
theorem frzP_cons (keep φ q k h) : frzP keep φ ((q, k) :: h) = bif keep q then (q, k.tr φ) :: frzP keep φ h else frzP keep φ h := (rfl)
theorem purE_nil (r) : purE r [] = [] := (rfl)
theorem purE_cons (r t v e) : purE r ((t, v) :: e) = (t, v.tr (purA r)) :: purE r e := (rfl)
theorem purH_nil (r) : purH r [] = [] := (rfl)
theorem purH_cons (r q k h) : purH r ((q, k) :: h) = (q, k.tr (purA r)) :: purH r h := (rfl)
theorem purA_sl (r q) : purA r (.sl q) = bif q == r then .undef else .sl q := (rfl)
theorem purA_mt (r q) : purA r (.mt q) = bif q == r then .undef else .mt q := (rfl)
theorem purA_mr (r q i) : purA r (.mr q i) = bif q == r then .undef else .mr q i := (rfl)
theorem purA_bx (r q o) : purA r (.bx q o) = bif q == r then .undef else .bx q o := (rfl)
theorem purA_pa (r q i) : purA r (.pa q i) = bif q == r then .undef else .pa q i := (rfl)
theorem purA_pm (r q i j) : purA r (.pm q i j) = bif q == r then .undef else .pm q i j := (rfl)
theorem purA_po (r q i) : purA r (.po q i) = bif q == r then .undef else .po q i := (rfl)
theorem appS_sl (r A M B) : appS (.sl r) A M B = A := (rfl)
theorem appS_mt (r A M B) : appS (.mt r) A M B = M := (rfl)
theorem appS_nils (A M B) : appS .nils A M B = B := (rfl)
theorem appR_i (P ts tx r xs ys e h) (hint : Hint) : appR hint P ts tx (.sl r) (some (.arr (.ints xs))) (.ints ys) e h = ⟨hint.n0 ≤ r ∧ apP (ap P ts) 1 (xs ++ ys).length ∧ isSl P tx, purE r e, hset (purH r h) r (.arr (.ints (xs ++ ys)))⟩ := (rfl)
theorem appR_in (P ts tx r xs e h) (hint : Hint) : appR hint P ts tx (.sl r) (some (.arr (.ints xs))) .nils e h = ⟨hint.n0 ≤ r ∧ apP (ap P ts) 1 xs.length ∧ isSl P tx, purE r e, hset (purH r h) r (.arr (.ints xs))⟩ := (rfl)
theorem appR_r (P ts tx r xs ys e h) (hint : Hint) : appR hint P ts tx (.sl r) (some (.arr (.rows xs))) (.rows ys) e h = ⟨hint.n0 ≤ r ∧ apP (ap P ts) 1 (xs ++ ys).length ∧ isSl P tx, purE r e, hset (purH r h) r (.arr (.rows (xs ++ ys)))⟩ := (rfl)
theorem appR_s (P ts tx r xs ys e h) (hint : Hint) : appR hint P ts tx (.sl r) (some (.arr (.strs xs))) (.strs ys) e h = ⟨hint.n0 ≤ r ∧ apP (ap P ts) 1 (xs ++ ys).length ∧ isSl P tx, purE r e, hset (purH r h) r (.arr (.strs (xs ++ ys)))⟩ := (rfl)
theorem appR_b (P ts tx r xs ys e h) (hint : Hint) : appR hint P ts tx (.sl r) (some (.arr (.bools xs))) (.bools ys) e h = ⟨hint.n0 ≤ r ∧ apP (ap P ts) 1 (xs ++ ys).length ∧ isSl P tx, purE r e, hset (purH r h) r (.arr (.bools (xs ++ ys)))⟩ := (rfl)
theorem appR_p (P ts tx r xs ys e h) (hint : Hint) : appR hint P ts tx (.sl r) (some (.arr (.pairs xs))) (.pairs ys) e h = ⟨hint.n0 ≤ r ∧ apP (ap P ts) 2 (xs ++ ys).length ∧ isSl P tx, purE r e, hset (purH r h) r (.arr (.pairs (xs ++ ys)))⟩ := (rfl)
def appV (hint : Hint) (P : Program) (ts tx : TypeId) (r : Nat) (xss : List (List Int)) (n : Nat) (k : Option Blk) (e : Env) (h : Heap) : ResM :=
  match k with
  | some (.arr (.ints ys)) => ⟨(hint.n0 ≤ r ∧ (n == r) = false) ∧ apP (ap P ts) 1 (xss.length + 1) ∧ isSl P tx, trE (purN [r, n] []) e, (r, .mat (xss ++ [ys])) :: trH (purN [r, n] []) [n, r] h⟩
  | _ => noM
def appW (hint : Hint) (P : Program) (ts tx : TypeId) (r : Nat) (xss : List (List Int)) (n : Nat) (k : Option Blk) (e : Env) (h : Heap) : ResM :=
  match k with
  | some (.mat yss) => ⟨(hint.n0 ≤ r ∧ (n == r) = false) ∧ apP (ap P ts) 1 (xss.length + yss.length) ∧ isSl P tx, trE (purN [r, n] []) e, (r, .mat (xss ++ yss)) :: trH (purN [r, n] []) [n, r] h⟩
  | _ => noM
theorem appM_v (P ts tx r xss n e h) (hint : Hint) : appM hint P ts tx (.mt r) (some (.mat xss)) (.vec [.sl n]) e h = appV hint P ts tx r xss n (h.look n) e h := by
  show (match h.look n with | some (.arr (.ints ys)) => _ | _ => noM) = _
  rfl
theorem appV_some (P ts tx r xss n e h ys) (hint : Hint) : appV hint P ts tx r xss n (some (.arr (.ints ys))) e h = ⟨(hint.n0 ≤ r ∧ (n == r) = false) ∧ apP (ap P ts) 1 (xss.length + 1) ∧ isSl P tx, trE (purN [r, n] []) e, (r, .mat (xss ++ [ys])) :: trH (purN [r, n] []) [n, r] h⟩ := (rfl)
theorem appM_m (P ts tx r xss n e h) (hint : Hint) : appM hint P ts tx (.mt r) (some (.mat xss)) (.mt n) e h = appW hint P ts tx r xss n (h.look n) e h := by
  show (match h.look n with | some (.mat yss) => _ | _ => noM) = _
  rfl
theorem appW_some (P ts tx r xss n e h yss) (hint : Hint) : appW hint P ts tx r xss n (some (.mat yss)) e h = ⟨(hint.n0 ≤ r ∧ (n == r) = false) ∧ apP (ap P ts) 1 (xss.length + yss.length) ∧ isSl P tx, trE (purN [r, n] []) e, (r, .mat (xss ++ yss)) :: trH (purN [r, n] []) [n, r] h⟩ := (rfl)
theorem beq_ff (a b : Nat) (h : (a == b) = false) : ((a == b) = false) = True := eq_true h
theorem apP_some (k b m l) : apP (some (k, b)) m l = (k = m ∧ l * (b + 1) ≤ 140737488355328) := (rfl)
theorem appN_i (P ow n ts tx ys) : appN P ow n ts tx .nils (.ints ys) = newL ow n (apP (ap P ts) 1 ys.length ∧ isSl P tx) (some (.ints ys)) := (rfl)
theorem appN_r (P ow n ts tx ys) : appN P ow n ts tx .nils (.rows ys) = newL ow n (apP (ap P ts) 1 ys.length ∧ isSl P tx) (some (.rows ys)) := (rfl)
theorem appN_s (P ow n ts tx ys) : appN P ow n ts tx .nils (.strs ys) = newL ow n (apP (ap P ts) 1 ys.length ∧ isSl P tx) (some (.strs ys)) := (rfl)
theorem appN_p (P ow n ts tx ys) : appN P ow n ts tx .nils (.pairs ys) = newL ow n (apP (ap P ts) 2 ys.length ∧ isSl P tx) (some (.pairs ys)) := (rfl)
theorem newL_t (n p v) : newL true n p (some v) = ⟨p, .sl n, [(n, .arr v)], 1⟩ := (rfl)
theorem newL_f (n p v) : newL false n p (some v) = ⟨p, v, [], 0⟩ := (rfl)
theorem selR_t (a b) : selR true a b = a := (rfl)
theorem selR_f (a b) : selR false a b = b := (rfl)
theorem vecR_eq (P t len is vs) : vecR P t len is vs = ⟨(inOrder 0 is = true ∧ is.length = len ∧ len ≤ 1000000) ∧ apP (ap P t) 1 len ∧ vs.all AV.cell1 = true, .vec vs, [], 0⟩ := (rfl)
theorem buildMR_eq (P n t len is) : buildMR P n t len is = ⟨(len = 0 ∧ is = []) ∧ apP (ap P t) 1 0, .mt n, [(n, .mat [])], 1⟩ := (rfl)
theorem makeMR_eq (P n t k k' l c) : makeMR P n t (.int k l) (.int k' c) = ⟨(0 ≤ l ∧ l = c) ∧ apP (ap P t) 1 c.toNat ∧ sd P t = some (.slice none 0 0), .mt n, [(n, .mat (List.replicate l.toNat []))], 1⟩ := (rfl)
theorem buildR_eq (P ow n t len is vs) : buildR P ow n t len is vs = newL ow n ((inOrder 0 is = true ∧ is.length = len) ∧ (ap P t).isSome = true ∧ len ≤ 1000000) (mkL (seedL (sd P t) 0) vs) := (rfl)
theorem inOrder_nil (k) : inOrder k [] = true := (rfl)
theorem inOrder_cons (k i l) : inOrder k (i :: l) = bif k == i then inOrder (k + 1) l else false := (rfl)
theorem mkL_nil (s) : mkL s [] = s := (rfl)
theorem mkL_cons (s v l) : mkL s (v :: l) = consV v (mkL s l) := (rfl)
theorem consV_i (n xs) : consV (.int .i64 n) (some (.ints xs)) = some (.ints (n :: xs)) := (rfl)
theorem consV_b (b xs) : consV (.bool b) (some (.bools xs)) = some (.bools (b :: xs)) := (rfl)
theorem consV_s (b xs) : consV (.str b) (some (.strs xs)) = some (.strs (b :: xs)) := (rfl)
theorem consV_r (r xs) : consV (.ints r) (some (.rows xs)) = some (.rows (r :: xs)) := (rfl)
theorem consV_n (xs) : consV .nils (some (.rows xs)) = some (.rows ([] :: xs)) := (rfl)
theorem consV_p (a b xs) : consV (.agg [.int .i64 a, .int .i64 b]) (some (.pairs xs)) = some (.pairs ((a, b) :: xs)) := (rfl)
theorem seed_i (k n) : seedL (some (.int .i64 k)) n = some (.ints (List.replicate n k)) := (rfl)
theorem seed_b (k n) : seedL (some (.bool k)) n = some (.bools (List.replicate n k)) := (rfl)
theorem seed_s (k n) : seedL (some (.string k)) n = some (.strs (List.replicate n k)) := (rfl)
theorem seed_r (n) : seedL (some (.slice none 0 0)) n = some (.rows (List.replicate n [])) := (rfl)
theorem seed_p (a b n) : seedL (some (.agg ⟨[.int .i64 a, .int .i64 b]⟩)) n = some (.pairs (List.replicate n (a, b))) := (rfl)
theorem rep0 {α : Type} (x : α) : List.replicate 0 x = [] := (rfl)
def mkW (z : Option (Nat × Nat)) (l : Nat) : Prop := match z with | some (_, b) => l * (b + 1) ≤ 140737488355328 | none => False
theorem mkW_some (k b l) : mkW (some (k, b)) l = (l * (b + 1) ≤ 140737488355328) := (rfl)
theorem makeR_eq (P ow n t k k' l c) : makeR P ow n t (.int k l) (.int k' c) = newL ow n ((0 ≤ l ∧ l ≤ c) ∧ mkW (ap P t) c.toNat) (seedL (sd P t) l.toNat) := by
  show newL _ _ _ _ = newL _ _ _ _
  congr 1
  cases h : ap P t with
  | none => rfl
  | some z => obtain ⟨a, b⟩ := z; simp [apP, mkW]

section
variable (P : Program) (C : Table) (hint : Hint) (Q : AQ) (e : Env) (h : Heap) (n : Nat)
theorem codeA_skip : codeA P C hint .skip Q e h n = Q .normal e h n := (rfl)
/-- A region's operations, held back until the state is known. -/
def opsK (P : Program) (C : Table) (hint : Hint) (lt : List Nat) (l : List Oper) (K : Env → Heap → Nat → Prop) (e : Env) (h : Heap) (n : Nat) : Prop := opsR P C hint lt l e h n K
def lateK (P : Program) (C : Table) (hint : Hint) (ls all tl : List Oper) (K : Env → Heap → Nat → Prop) (e : Env) (h : Heap) (n : Nat) : Prop := lateP P C hint e ls ∧ opsA P C hint all tl e h n K
theorem lateK_eq (ls all tl) (K : Env → Heap → Nat → Prop) : lateK P C hint ls all tl K e h n = (lateP P C hint e ls ∧ opsA P C hint all tl e h n K) := (rfl)
def postK (hint : Hint) (i : Nat) (Q : AQ) (e : Env) (h : Heap) (n : Nat) : Prop := regA hint.n0 (postG (hint.fz i)) (Q .normal) e h n
theorem opsK_eq (l) (K : Env → Heap → Nat → Prop) : opsK P C hint [] l K e h n = opsA P C hint l l e h n K := (rfl)
theorem opsK_fuse (c l) (K : Env → Heap → Nat → Prop) : opsK P C hint [c] l K e h n = opsA P C hint l (l.take c) e h n (fuseP P hint (l.drop c) K) := (rfl)
theorem opsK_late (c d l) (K : Env → Heap → Nat → Prop) : opsK P C hint [c, d] l K e h n = opsA P C hint l (l.take d) e h n (lateK P C hint ((l.take d).drop c) l (l.drop d) K) := (rfl)
theorem postK_eq (i) : postK hint i Q e h n = regA hint.n0 (postG (hint.fz i)) (Q .normal) e h n := (rfl)
theorem codeA_region (i ops d) : codeA P C hint (.region i ⟨ops⟩ d) Q e h n = regA hint.n0 (preG (hint.fz i)) (opsK P C hint (hint.lt i) (permO (hint.ord i) ops) (postK hint i Q)) e h n := (rfl)
theorem codeA_seq (x y) : codeA P C hint (.seq x y) Q e h n = codeA P C hint x (thenA (codeA P C hint y Q) Q) e h n := (rfl)
theorem codeA_cond (c x y) : codeA P C hint (.cond c x y) Q e h n = condA (opnd e c) (codeA P C hint x Q e h n) (codeA P C hint y Q e h n) := (rfl)
theorem codeA_block (id b) : codeA P C hint (.block id b) Q e h n = codeA P C hint b (blockA id Q) e h n := (rfl)
theorem codeA_exit (id) : codeA P C hint (.exit id) Q e h n = Q (.exit id) e h n := (rfl)
theorem codeA_ret : codeA P C hint .ret Q e h n = Q .ret e h n := (rfl)
theorem codeA_loop (b) : codeA P C hint (.loop b) Q e h n = loopA hint.n0 (codeA P C hint b) Q e h n := (rfl)
theorem thenA_normal (K) : thenA K Q .normal e h n = K e h n := (rfl)
theorem thenA_exit (K i) : thenA K Q (.exit i) e h n = Q (.exit i) e h n := (rfl)
theorem thenA_ret (K) : thenA K Q .ret e h n = Q .ret e h n := (rfl)
theorem blockA_normal (i) : blockA i Q .normal e h n = Q .normal e h n := (rfl)
theorem blockA_ret (i) : blockA i Q .ret e h n = Q .ret e h n := (rfl)
theorem blockA_exit (i j) : blockA i Q (.exit j) e h n = if j = i then Q .normal e h n else Q (.exit j) e h n := (rfl)
theorem endA_normal (rs val new) : endA P rs val new .normal e h n = retA P rs val new e h := (rfl)
theorem endA_ret (rs val new) : endA P rs val new .ret e h n = retA P rs val new e h := (rfl)
theorem condA_bool (b A B) : condA (.bool b) A B = partB b A B := (rfl)
theorem condA_tt (A B) : condA .tt A B = A := (rfl)
theorem condA_ff (A B) : condA .ff A B = B := (rfl)
end

def selP (b : Bool) (A B : Prop) : Prop := bif b then A else B
theorem selP_t (A B) : selP true A B = A := (rfl)
theorem selP_f (A B) : selP false A B = B := (rfl)
theorem nc_add (y) : isNilc .add y = false := (rfl)
theorem nc_sub (y) : isNilc .sub y = false := (rfl)
theorem nc_mul (y) : isNilc .mul y = false := (rfl)
theorem nc_quo (y) : isNilc .quo y = false := (rfl)
theorem nc_rem (y) : isNilc .rem y = false := (rfl)
theorem nc_and (y) : isNilc .and y = false := (rfl)
theorem nc_or (y) : isNilc .or y = false := (rfl)
theorem nc_xor (y) : isNilc .xor y = false := (rfl)
theorem nc_andNot (y) : isNilc .andNot y = false := (rfl)
theorem nc_shl (y) : isNilc .shl y = false := (rfl)
theorem nc_shr (y) : isNilc .shr y = false := (rfl)
theorem nc_lss (y) : isNilc .lss y = false := (rfl)
theorem nc_leq (y) : isNilc .leq y = false := (rfl)
theorem nc_gtr (y) : isNilc .gtr y = false := (rfl)
theorem nc_geq (y) : isNilc .geq y = false := (rfl)
theorem nc_eql_t (t) : isNilc .eql (.tmp t) = false := (rfl)
theorem nc_eql_i (k n) : isNilc .eql (.const (.int k n)) = false := (rfl)
theorem nc_eql_b (b) : isNilc .eql (.const (.bool b)) = false := (rfl)
theorem nc_eql_s (b) : isNilc .eql (.const (.string b)) = false := (rfl)
theorem nc_eql_n : isNilc .eql (.const .nilIface) = true := (rfl)
theorem nc_eql_z : isNilc .eql (.const (.slice none 0 0)) = true := (rfl)
theorem nc_neq_t (t) : isNilc .neq (.tmp t) = false := (rfl)
theorem nc_neq_i (k n) : isNilc .neq (.const (.int k n)) = false := (rfl)
theorem nc_neq_b (b) : isNilc .neq (.const (.bool b)) = false := (rfl)
theorem nc_neq_s (b) : isNilc .neq (.const (.string b)) = false := (rfl)
theorem nc_neq_n : isNilc .neq (.const .nilIface) = true := (rfl)
theorem nc_neq_z : isNilc .neq (.const (.slice none 0 0)) = true := (rfl)
theorem negB_e (b) : negB .eql b = b := (rfl)
theorem negB_n (b) : negB .neq b = !b := (rfl)
theorem nilS_i (P t xs) (K : Bool → Prop) : nilS P t (.ints xs) (.const (.slice none 0 0)) K = (isSl P t ∧ ∀ b, (b = true → xs = []) → K b) := (rfl)
theorem nilS_r (P t xs) (K : Bool → Prop) : nilS P t (.rows xs) (.const (.slice none 0 0)) K = (isSl P t ∧ ∀ b, (b = true → xs = []) → K b) := (rfl)
theorem nilS_s (P t xs) (K : Bool → Prop) : nilS P t (.strs xs) (.const (.slice none 0 0)) K = (isSl P t ∧ ∀ b, (b = true → xs = []) → K b) := (rfl)
theorem nilS_e (P t) (K : Bool → Prop) : nilS P t .errI (.const .nilIface) K = (isIf P t ∧ K false) := (rfl)
theorem nilS_ni (P t) (K : Bool → Prop) : nilS P t .nilI (.const .nilIface) K = (isIf P t ∧ K true) := (rfl)
theorem nilS_n (P t) (K : Bool → Prop) : nilS P t .nils (.const (.slice none 0 0)) K = (isSl P t ∧ ∀ b, K b) := (rfl)
def callK (r : Res) (K : AV → Heap → Nat → Prop) : Prop := r.pre ∧ K r.val r.new r.cnt
theorem callK_mk (p v new c) (K : AV → Heap → Nat → Prop) : callK ⟨p, v, new, c⟩ K = (p ∧ K v new c) := (rfl)
def storK (r : ResM) (K : Env → Heap → Prop) : Prop := r.pre ∧ K r.env r.heap
theorem storK_mk (p e h) (K : Env → Heap → Prop) : storK ⟨p, e, h⟩ K = (p ∧ K e h) := (rfl)

section
variable (P : Program) (C : Table) (hint : Hint) (all rest : List Oper) (e : Env) (h : Heap) (n : Nat) (K : Env → Heap → Nat → Prop) (dst : Option Tmp) (t : TypeId) (pos : String) (af : Array Edge)
theorem opsA_nil : opsA P C hint all [] e h n K = K e h n := (rfl)
theorem opsA_g (op : Op) (j w) : opsA P C hint all (⟨dst, op, t, pos, af, some (j, w)⟩ :: rest) e h n K =
    guardD w (gdst all j) e (fun e => opsA P C hint all (⟨dst, op, t, pos, af, none⟩ :: rest) e h n K) (fun e => opsA P C hint all rest (dset e dst .skipd) h n K) := (rfl)
theorem opsA_move (x) : opsA P C hint all (⟨dst, .move x, t, pos, af, none⟩ :: rest) e h n K = opsA P C hint all rest (dset e dst (opnd e x)) h n K := by
  show (True ∧ _) = _; rw [true_and]; rfl
theorem opsA_assign (x) : opsA P C hint all (⟨dst, .assign x, t, pos, af, none⟩ :: rest) e h n K = opsA P C hint all rest (dset e dst (opnd e x)) h n K := by
  show (True ∧ _) = _; rw [true_and]; rfl
theorem opsA_pick (c a b) : opsA P C hint all (⟨dst, .pick c a b, t, pos, af, none⟩ :: rest) e h n K =
    pickS (opnd e c) (opsA P C hint all rest (dset e dst (opnd e a)) h n K) (opsA P C hint all rest (dset e dst (opnd e b)) h n K) := (rfl)
theorem opsA_store (t1 p x) : opsA P C hint all (⟨dst, .store t1 p x, t, pos, af, none⟩ :: rest) e h n K =
    storK (storeR hint (td P t1) (blkOf h (opnd e p)) (opnd e p) (opnd e x) e h) fun e h => opsA P C hint all rest (dset e dst .skipd) h n K := (rfl)
theorem opsA_bin (op x y t1 t2) : opsA P C hint all (⟨dst, .binOp op t1 x y t2, t, pos, af, none⟩ :: rest) e h n K = selP (isNilc op y)
    (nilS P t1 (opnd e x) y fun b => opsA P C hint all rest (dset e dst (.bool (negB op b))) h n K)
    (arithP P t1 op (opnd e x) (opnd e y) ∧ opsA P C hint all rest (dset e dst (arithV op (opnd e x) (opnd e y))) h n K) := by
  show (bif _ then _ else _) = _
  cases isNilc op y <;> rfl
theorem opsA_not (x t1) : opsA P C hint all (⟨dst, .unOp .not t1 x, t, pos, af, none⟩ :: rest) e h n K = (notP (opnd e x) ∧ opsA P C hint all rest (dset e dst (notV (opnd e x))) h n K) := (rfl)
theorem opsA_neg (x t1) : opsA P C hint all (⟨dst, .unOp .neg t1 x, t, pos, af, none⟩ :: rest) e h n K = (negP (opnd e x) ∧ opsA P C hint all rest (dset e dst (negV (opnd e x))) h n K) := (rfl)
theorem opsA_conv (s d x) : opsA P C hint all (⟨dst, .convert s d x, t, pos, af, none⟩ :: rest) e h n K = (convP P s (ik P d) (opnd e x) ∧ opsA P C hint all rest (dset e dst (convV (ik P d) (opnd e x))) h n K) := (rfl)
theorem opsA_ixa (x i t1) : opsA P C hint all (⟨dst, .indexAddr t1 x i, t, pos, af, none⟩ :: rest) e h n K =
    (idxP (ed P t1) (blkOf h (opnd e x)) (opnd e x) (opnd e i) ∧ opsA P C hint all rest (dset e dst (idxV (ed P t1) (opnd e x) (opnd e i))) h n K) := (rfl)
theorem opsA_sidx (x i t1) : opsA P C hint all (⟨dst, .index t1 x i, t, pos, af, none⟩ :: rest) e h n K = (sidxP P t1 (opnd e x) (opnd e i) ∧ opsA P C hint all rest (dset e dst (sidxV (opnd e x) (opnd e i))) h n K) := (rfl)
theorem opsA_load (x t1) : opsA P C hint all (⟨dst, .load t1 x, t, pos, af, none⟩ :: rest) e h n K =
    (loadP (td P t1) (blkOf h (opnd e x)) (opnd e x) ∧ opsA P C hint all rest (dset e dst (loadV (td P t1) (blkOf h (opnd e x)) (opnd e x))) h n K) := (rfl)
theorem opsA_field (x t1 f) : opsA P C hint all (⟨dst, .fieldAddr t1 x f, t, pos, af, none⟩ :: rest) e h n K =
    (fieldP (fd P t1 f) (blkOf h (opnd e x)) (opnd e x) ∧ opsA P C hint all rest (dset e dst (fieldV (fd P t1 f) (opnd e x))) h n K) := (rfl)
theorem opsA_part (x t1 f) : opsA P C hint all (⟨dst, .field t1 x f, t, pos, af, none⟩ :: rest) e h n K = (partP (fd P t1 f) (opnd e x) ∧ opsA P C hint all rest (dset e dst (partV (fd P t1 f) (opnd e x))) h n K) := (rfl)
theorem opsA_extract (x k) : opsA P C hint all (⟨dst, .extract x k, t, pos, af, none⟩ :: rest) e h n K = (extractP k (opnd e x) ∧ opsA P C hint all rest (dset e dst (extractV k (opnd e x))) h n K) := (rfl)
theorem opsA_func (f xs) : opsA P C hint all (⟨dst, .makeFunc (.func f) ⟨[]⟩ ⟨xs⟩, t, pos, af, none⟩ :: rest) e h n K = opsA P C hint all rest (dset e dst (.fn f (xs.map (opnd e)))) h n K := by
  show (True ∧ _) = _; rw [true_and]; rfl
theorem opsA_bnd (f x xs) : opsA P C hint all (⟨dst, .makeFunc (.func f) ⟨x :: xs⟩ ⟨[]⟩, t, pos, af, none⟩ :: rest) e h n K = ((((x :: xs).map (opnd e)).all AV.pureB = true) ∧ opsA P C hint all rest (dset e dst (.bnd f ((x :: xs).map (opnd e)))) h n K) := (rfl)
theorem opsA_box (t1 x) : opsA P C hint all (⟨dst, .box t1 x, t, pos, af, none⟩ :: rest) e h n K = callK (boxR (hint.own (dst.getD 0)) n (opnd e x)) fun v new c => opsA P C hint all rest (dset e dst v) (new ++ h) (n + c) K := (rfl)
theorem opsA_alloc (t1) : opsA P C hint all (⟨dst, .alloc t1, t, pos, af, none⟩ :: rest) e h n K = callK (allocR P (hint.own (dst.getD 0)) n t1) fun v new c => opsA P C hint all rest (dset e dst v) (new ++ h) (n + c) K := (rfl)
theorem opsA_len (x t1) : opsA P C hint all (⟨dst, .call ⟨.builtin .len, ⟨[x]⟩, ⟨[t1]⟩⟩, t, pos, af, none⟩ :: rest) e h n K =
    (lenP P t1 (blkOf h (opnd e x)) (opnd e x) ∧ opsA P C hint all rest (dset e dst (lenV (blkOf h (opnd e x)) (opnd e x))) h n K) := (rfl)
theorem opsA_min (x y ts) : opsA P C hint all (⟨dst, .call ⟨.builtin .min, ⟨[x, y]⟩, ts⟩, t, pos, af, none⟩ :: rest) e h n K = (minmaxP .min (opnd e x) (opnd e y) ∧ opsA P C hint all rest (dset e dst (minmaxV .min (opnd e x) (opnd e y))) h n K) := (rfl)
theorem opsA_max (x y ts) : opsA P C hint all (⟨dst, .call ⟨.builtin .max, ⟨[x, y]⟩, ts⟩, t, pos, af, none⟩ :: rest) e h n K = (minmaxP .max (opnd e x) (opnd e y) ∧ opsA P C hint all rest (dset e dst (minmaxV .max (opnd e x) (opnd e y))) h n K) := (rfl)
theorem opsA_append (s y ts tx) : opsA P C hint all (⟨dst, .call ⟨.builtin .append, ⟨[s, y]⟩, ⟨[ts, tx]⟩⟩, t, pos, af, none⟩ :: rest) e h n K = appS (opnd e s)
    (storK (appR hint P ts tx (opnd e s) (blkOf h (opnd e s)) (opnd e y) e h) fun e' h' => opsA P C hint all rest (dset e' dst (opnd e s)) h' n K)
    (storK (appM hint P ts tx (opnd e s) (blkOf h (opnd e s)) (opnd e y) e h) fun e' h' => opsA P C hint all rest (dset e' dst (opnd e s)) h' n K)
    (callK (appN P (hint.own (dst.getD 0)) n ts tx (opnd e s) (opnd e y)) fun v new c => opsA P C hint all rest (dset e dst v) (new ++ h) (n + c) K) := (rfl)
theorem opsA_lit (t1 len ps) : opsA P C hint all (⟨dst, .buildSlice t1 len ⟨ps⟩, t, pos, af, none⟩ :: rest) e h n K =
    callK (selR (hint.mat (dst.getD 0)) (buildMR P n t1 len (ps.map Prod.fst)) (selR ((ps.map fun p => opnd e p.2).all AV.pureB) (buildR P (hint.own (dst.getD 0)) n t1 len (ps.map Prod.fst) (ps.map fun p => opnd e p.2)) (vecR P t1 len (ps.map Prod.fst) (ps.map fun p => opnd e p.2)))) fun v new c => opsA P C hint all rest (dset e dst v) (new ++ h) (n + c) K := (rfl)
theorem opsA_build (t1 ps) : opsA P C hint all (⟨dst, .build t1 ⟨ps⟩, t, pos, af, none⟩ :: rest) e h n K =
    callK (buildS (flatZ P t1) (ps.map Prod.fst) (ps.map fun p => opnd e p.2)) fun v new c => opsA P C hint all rest (dset e dst v) (new ++ h) (n + c) K := (rfl)
theorem opsA_make (t1 l c) : opsA P C hint all (⟨dst, .makeSlice t1 l c, t, pos, af, none⟩ :: rest) e h n K =
    callK (selR (hint.mat (dst.getD 0)) (makeMR P n t1 (opnd e l) (opnd e c)) (makeR P (hint.own (dst.getD 0)) n t1 (opnd e l) (opnd e c))) fun v new c => opsA P C hint all rest (dset e dst v) (new ++ h) (n + c) K := (rfl)
theorem opsA_cut (t1 x lo hi) : opsA P C hint all (⟨dst, .slice t1 x lo hi none, t, pos, af, none⟩ :: rest) e h n K =
    (sliceP P t1 (opnd e x) (lo.map (opnd e)) (hi.map (opnd e)) ∧ opsA P C hint all rest (dset e dst (sliceV (opnd e x) (lo.map (opnd e)) (hi.map (opnd e)))) h n K) := (rfl)
def memK (r : ResC) (K : AV → Env → Heap → Nat → Prop) : Prop := r.pre ∧ K r.val r.env r.heap r.cnt
theorem memK_mk (p v e h c) (K : AV → Env → Heap → Nat → Prop) : memK ⟨p, v, e, h, c⟩ K = (p ∧ K v e h c) := (rfl)
theorem opsA_call (f xs ts) : opsA P C hint all (⟨dst, .call ⟨.value f, ⟨xs⟩, ts⟩, t, pos, af, none⟩ :: rest) e h n K = selP (hint.ms (mkey f))
    (memK (callM C (opnd e f) (xs.map (opnd e)) e h n) fun v e' h' c => opsA P C hint all rest (dset e' dst v) h' (n + c) K)
    (callK (frzNew (hint.own (dst.getD 0)) n (callF C h (opnd e f) (xs.map (opnd e)) n)) fun v new c => opsA P C hint all rest (dset e dst v) (new ++ h) (n + c) K) := by
  show (bif _ then _ else _) = _
  cases hint.ms (mkey f) <;> rfl
end

section
variable (P : Program) (t : TypeId) (x y i j : Int) (xs : List Int) (rs : List (List Int)) (ss : List ByteArray) (bs : List Bool) (ps : List (Int × Int)) (us : List UInt8) (s s' : ByteArray) (b b' : Bool) (n m r : Nat) (cs : List AV) (c : AV) (k : IntKind) (kb : Option Blk) (e : Env) (h : Heap) (hint : Hint)
theorem topH_nil : topH [] = 0 := (rfl)
theorem topH_cons (k) : topH ((r, k) :: h) = if topH h ≤ r then r + 1 else topH h := (rfl)
theorem frzNew_f (p v new) : frzNew false n (p, v, new) = ⟨p, v.tr (frzA (fun _ => false) new.look), [], topH new - n⟩ := (rfl)
theorem frzNew_t (p v new) : frzNew true n (p, v, new) = ⟨p, v, new, topH new - n⟩ := (rfl)
def lendK (r : Prop × AV × Heap) (b1 b2 : Bool) : Prop × AV × Heap := (r.1 ∧ b1 = true ∧ (b2 || (r.2.1.noL && Heap.noL r.2.2)) = true, r.2)
theorem lendK_mk (p v new b1 b2) : lendK (p, v, new) b1 b2 = (p ∧ b1 = true ∧ (b2 || (v.noL && Heap.noL new)) = true, v, new) := (rfl)
theorem callF_fn (C : Table) (f caps args) : callF C h (.fn f caps) args n = lendK (C.find f ((args ++ caps).map (bview h)) n) (((args ++ caps).map (bview h)).all AV.pureB) ((args ++ caps).all AV.pureB) := (rfl)
theorem callF_bnd (C : Table) (f caps args) : callF C h (.bnd f caps) args n = lendK (C.find f ((caps ++ args).map (bview h)) n) (((caps ++ args).map (bview h)).all AV.pureB) ((caps ++ args).all AV.pureB) := (rfl)
theorem bview_eq (v) : bview h v = v.tr (frzA (fun _ => false) h.look) := (rfl)
def callG (refs : List ARef) (m : Nat) (p : Prop) (v : AV) (post : Heap) (g : List Nat) (e : Env) (h : Heap) (n : Nat) : ResC :=
  ⟨p ∧ (distB (refs.map ARef.base) && refs.all (fun a => plainO (subB h a)) && Heap.plain post && rowsOK post 0 refs) = true, v.tr (backA refs m n), trE (purN g []) e, newM m n post ++ updH (purN g []) (mkUpd h post 0 refs) h, topH post - m⟩
def callD (refs : List ARef) (m : Nat) (r : Prop × AV × Heap) (e : Env) (h : Heap) (n : Nat) : ResC := callG refs m r.1 r.2.1 r.2.2 (gone r.2.2 0 refs) e h n
def callE (ra : List AV × List ARef) (F : List AV → Heap → Nat → Prop × AV × Heap) (e : Env) (h : Heap) (n : Nat) : ResC := callD ra.2 ra.2.length (F ra.1 (subH h 0 ra.2) ra.2.length) e h n
theorem callM_fn (C : Table) (f caps args) : callM C (.fn f caps) args e h n = callE (renL 0 (args ++ caps)) (C.findM f) e h n := (rfl)
theorem callE_mk (as refs F) : callE (as, refs) F e h n = callD refs refs.length (F as (subH h 0 refs) refs.length) e h n := (rfl)
theorem callD_mk (refs p v post) : callD refs m (p, v, post) e h n = callG refs m p v post (gone post 0 refs) e h n := (rfl)
theorem callG_eq (refs p v post g) : callG refs m p v post g e h n = ⟨p ∧ (distB (refs.map ARef.base) && refs.all (fun a => plainO (subB h a)) && Heap.plain post && rowsOK post 0 refs) = true, v.tr (backA refs m n), trE (purN g []) e, newM m n post ++ updH (purN g []) (mkUpd h post 0 refs) h, topH post - m⟩ := (rfl)
def aggR (r : List AV × List ARef) : AV × List ARef := (.agg r.1, r.2)
def fnR (f : FuncId) (r : List AV × List ARef) : AV × List ARef := (.fn f r.1, r.2)
theorem aggR_mk (l r) : aggR (l, r) = (.agg l, r) := (rfl)
theorem fnR_mk (f l r) : fnR f (l, r) = (.fn f l, r) := (rfl)
theorem renD_mk (a r l r') : renD (a, r) (l, r') = (a :: l, r ++ r') := (rfl)
theorem renL_nil : renL n [] = ([], []) := (rfl)
theorem renL_cons : renL n (c :: cs) = renD (ren1 n c) (renL (n + (ren1 n c).2.length) cs) := (rfl)
theorem renL0_nil : renL0 n [] = ([], []) := (rfl)
theorem renL0_cons : renL0 n (c :: cs) = renD (ren0 n c) (renL0 (n + (ren0 n c).2.length) cs) := (rfl)
theorem ren1_agg : ren1 n (.agg cs) = aggR (renL0 n cs) := (rfl)
theorem ren1_fn (f) : ren1 n (.fn f cs) = fnR f (renL0 n cs) := (rfl)
theorem base_w : ARef.base (.whole r) = r := (rfl)
theorem base_r : ARef.base (.row r i) = r := (rfl)
theorem subB_w : subB h (.whole r) = h.look r := (rfl)
def subM (k : Option Blk) (i : Int) : Option Blk := match k with | some (.mat xss) => some (.arr (.ints (ix xss i))) | _ => none
theorem subB_r : subB h (.row r i) = subM (h.look r) i := (rfl)
theorem subM_some : subM (some (.mat rs)) i = some (.arr (.ints (ix rs i))) := (rfl)
theorem subH_nil : subH h n [] = [] := (rfl)
theorem subH_cons (a l) : subH h n (a :: l) = subC n (subB h a) (subH h (n + 1) l) := (rfl)
theorem subC_some (k) : subC n (some k) h = (n, k) :: h := (rfl)
theorem plainO_some (k : Blk) : plainO (some k) = k.plain := (rfl)
theorem plain_box : Blk.plain (.box cs) = cs.all AV.pure1 := (rfl)
theorem plain_arr : Blk.plain (.arr c) = true := (rfl)
theorem plain_mat : Blk.plain (.mat rs) = true := (rfl)
theorem plainH_nil : Heap.plain [] = true := (rfl)
theorem plainH_cons (k) : Heap.plain ((r, k) :: h) = (k.plain && Heap.plain h) := (rfl)
theorem distB_nil : distB [] = true := (rfl)
theorem distB_cons (l) : distB (n :: l) = (!memN l n && distB l) := (rfl)
theorem rowO_w (k) : rowO (.whole r) k = true := by cases k <;> rfl
theorem rowO_r : rowO (.row r i) (some (.arr (.ints xs))) = true := (rfl)
theorem rowsOK_nil : rowsOK h n [] = true := (rfl)
theorem rowsOK_cons (a l) : rowsOK h n (a :: l) = (rowO a (h.look n) && rowsOK h (n + 1) l) := (rfl)
theorem updB_w (h') : updB h h' n (.whole r) = h'.look n := (rfl)
def updM (k k' : Option Blk) (j : Int) : Option Blk := match k, k' with | some (.mat xss), some (.arr (.ints ys)) => some (.mat (xss.set j.toNat ys)) | _, _ => none
theorem updB_r (h') : updB h h' n (.row r i) = updM (h.look r) (h'.look n) i := (rfl)
theorem updM_some : updM (some (.mat rs)) (some (.arr (.ints xs))) i = some (.mat (rs.set i.toNat xs)) := (rfl)
theorem mkUpd_nil (h') : mkUpd h h' n [] = [] := (rfl)
theorem mkUpd_cons (h' a l) : mkUpd h h' n (a :: l) = (a.base, updB h h' n a) :: mkUpd h h' (n + 1) l := (rfl)
theorem assoc_nil : assoc [] n = none := (rfl)
theorem assoc_cons (k l) : assoc ((m, k) :: l) n = bif m == n then some k else assoc l n := (rfl)
theorem gone_nil : gone h n [] = [] := (rfl)
theorem gone_cons (a l) : gone h n (a :: l) = goneC (h.look n) a.base (gone h (n + 1) l) := (rfl)
theorem goneC_some (k l) : goneC (some k) r l = l := (rfl)
theorem goneC_none (l) : goneC none r l = r :: l := (rfl)
theorem updC_ss (φ k k') : updC φ r k (some (some k')) h = (r, k') :: h := (rfl)
theorem updC_sn (φ k) : updC φ r k (some none) h = h := (rfl)
theorem updC_n (φ k) : updC φ r k none h = (r, k.tr φ) :: h := (rfl)
theorem updH_nil (φ l) : updH φ l [] = [] := (rfl)
theorem updH_cons (φ l k) : updH φ l ((r, k) :: h) = updC φ r k (assoc l r) (updH φ l h) := (rfl)
theorem newM_nil : newM m n [] = [] := (rfl)
theorem newM_cons (k l) : newM m n ((r, k) :: l) = if m ≤ r then (n + (r - m), k) :: newM m n l else newM m n l := by
  show (bif Nat.ble m r then _ else _) = _
  by_cases h : m ≤ r
  · rw [if_pos h, Nat.ble_eq_true_of_le h]; rfl
  · rw [if_neg h]; cases hb : Nat.ble m r with
    | true => exact absurd (Nat.le_of_ble_eq_true hb) h
    | false => rfl
def backS (a : Option ARef) (v : AV) (w : Nat → AV) (f : Nat → Int → AV) : AV := match a with | some (.whole q) => w q | some (.row q j) => f q j | none => v
theorem backR_eq (l r w f) : backR l m n r w f = backS (l[r]?) (w (n + (r - m))) w f := (rfl)
theorem backS_w (v w f) : backS (some (.whole r)) v w f = w r := (rfl)
theorem backS_r (v w f) : backS (some (.row r i)) v w f = f r i := (rfl)
theorem backS_n (v w f) : backS none v w f = v := (rfl)
theorem backA_sl (l) : backA l m n (.sl r) = backR l m n r .sl .mr := (rfl)
theorem backA_mt (l) : backA l m n (.mt r) = backR l m n r .mt fun _ _ => .undef := (rfl)
theorem backA_mr (l) : backA l m n (.mr r i) = backR l m n r (fun q => .mr q i) fun _ _ => .undef := (rfl)
theorem backA_bx (l o) : backA l m n (.bx r o) = backR l m n r (fun q => .bx q o) fun _ _ => .undef := (rfl)
def pureC (g : List AV → Prop × AV) : Contract := .p fun a _ => ((g a).1, (g a).2, [])
theorem tab_pure (C : Table) (f g v) : Table.find ((f, pureC v) :: C) g = if f = g then (fun a _ => ((v a).1, (v a).2, [])) else Table.find C g := (rfl)
theorem tab_p (C : Table) (f g v) : Table.find ((f, .p v) :: C) g = if f = g then v else Table.find C g := (rfl)
theorem tab_m (C : Table) (f g v) : Table.find ((f, .m v) :: C) g = Table.find C g := (rfl)
theorem tabM_pure (C : Table) (f g v) : Table.findM ((f, pureC v) :: C) g = Table.findM C g := (rfl)
theorem tabM_p (C : Table) (f g v) : Table.findM ((f, .p v) :: C) g = Table.findM C g := (rfl)
theorem tabM_m (C : Table) (f g v) : Table.findM ((f, .m v) :: C) g = if f = g then v else Table.findM C g := (rfl)
theorem boxR_f (v) : boxR false n v = ⟨v.isUndef = false ∧ v.pureB = true, .iptr v.cells, [], 0⟩ := (rfl)
theorem boxR_t (v) : boxR true n v = ⟨boxOK v = true, .bx n 0, [(n, .box v.cells)], 1⟩ := (rfl)
theorem boxOK_agg : boxOK (.agg cs) = cs.all AV.cell1 := (rfl)
theorem boxOK_1 (v) (h : isAgg1 v = false) : boxOK v = v.cell1 := by unfold boxOK; rw [h]; rfl
theorem env_get (q v) : Env.get ((q, v) :: e) t = if q = t then v else Env.get e t := (rfl)
theorem look_cons (q v) : Heap.look ((q, v) :: h) r = if q = r then some v else Heap.look h r := (rfl)
theorem look_nil : Heap.look [] r = none := (rfl)
theorem dset_some (d v) : dset e (some d) v = (d, v) :: e := (rfl)
theorem dset_none (v) : dset e none v = e := (rfl)
theorem o_tmp : opnd e (.tmp t) = e.get t := (rfl)
theorem o_int : opnd e (.const (.int k x)) = .int k x := (rfl)
theorem o_bool : opnd e (.const (.bool b)) = .bool b := (rfl)
theorem o_str : opnd e (.const (.string s)) = .str s := (rfl)
theorem o_nils : opnd e (.const (.slice none 0 0)) = .nils := (rfl)
theorem o_nili : opnd e (.const .nilIface) = .nilI := (rfl)
theorem o_func (f) : opnd e (.func f) = .fn f [] := (rfl)
theorem o_agg (vs) : opnd e (.const (.agg ⟨vs⟩)) = .agg (vs.map cst1) := (rfl)
theorem cst1_int : cst1 (.int k x) = .int k x := (rfl)
theorem cst1_nils : cst1 (.slice none 0 0) = .nils := (rfl)
theorem cst1_bool : cst1 (.bool b) = .bool b := (rfl)
theorem gdst_0 (o l) : gdst (o :: l) 0 = o.dst := (rfl)
theorem gdst_s (o : Oper) (l) : gdst (o :: l) (n + 1) = gdst l n := (rfl)
theorem guardD_some (w d Y N) : guardD w (some d) e Y N = guardS w d e (e.get d) Y N := (rfl)
theorem guardD_none (w Y N) : guardD w none e Y N = N e := (rfl)
theorem guardS_t (d Y N) : guardS true d e (.bool b) Y N = partB b (Y ((d, .tt) :: e)) (N ((d, .ff) :: e)) := (rfl)
theorem guardS_f (d Y N) : guardS false d e (.bool b) Y N = partB b (N ((d, .tt) :: e)) (Y ((d, .ff) :: e)) := (rfl)
theorem guardS_tt (d Y N) : guardS true d e .tt Y N = Y e := (rfl)
theorem guardS_ft (d Y N) : guardS false d e .tt Y N = N e := (rfl)
theorem guardS_tf (d Y N) : guardS true d e .ff Y N = N e := (rfl)
theorem guardS_ff (d Y N) : guardS false d e .ff Y N = Y e := (rfl)
theorem guardS_skip (w d Y N) : guardS w d e .skipd Y N = N e := (rfl)
theorem pickS_b (A B) : pickS (.bool b) A B = partB b A B := (rfl)
theorem pickS_t (A B) : pickS .tt A B = A := (rfl)
theorem pickS_f (A B) : pickS .ff A B = B := (rfl)
-- numbers
theorem v_add : arithV .add (.int .i64 x) (.int .i64 y) = .int .i64 (x + y) := (rfl)
theorem v_sub : arithV .sub (.int .i64 x) (.int .i64 y) = .int .i64 (x - y) := (rfl)
theorem v_mul : arithV .mul (.int .i64 x) (.int .i64 y) = .int .i64 (x * y) := (rfl)
theorem v_quo : arithV .quo (.int k x) (.int k y) = .int k (x / y) := (rfl)
theorem v_rem : arithV .rem (.int k x) (.int k y) = .int k (x % y) := (rfl)
theorem v_and : arithV .and (.int k x) (.int k y) = .int k (bitN .and x.toNat y.toNat : Nat) := (rfl)
theorem v_or : arithV .or (.int k x) (.int k y) = .int k (bitN .or x.toNat y.toNat : Nat) := (rfl)
theorem v_andnot : arithV .andNot (.int k x) (.int k y) = .int k (bitN .andNot x.toNat y.toNat : Nat) := (rfl)
theorem v_shl (k') : arithV .shl (.int k x) (.int k' y) = .int k (x * 2 ^ y.toNat) := (rfl)
theorem v_shr (k') : arithV .shr (.int k x) (.int k' y) = .int k (x / 2 ^ y.toNat) := (rfl)
theorem v_lss : arithV .lss (.int k x) (.int k y) = .bool (decide (x < y)) := (rfl)
theorem v_leq : arithV .leq (.int k x) (.int k y) = .bool (decide (x ≤ y)) := (rfl)
theorem v_gtr : arithV .gtr (.int k x) (.int k y) = .bool (decide (y < x)) := (rfl)
theorem v_geq : arithV .geq (.int k x) (.int k y) = .bool (decide (y ≤ x)) := (rfl)
theorem v_eql : arithV .eql (.int k x) (.int k y) = .bool (decide (x = y)) := (rfl)
theorem v_neq : arithV .neq (.int k x) (.int k y) = .bool (!decide (x = y)) := (rfl)
theorem v_eqb : arithV .eql (.bool b) (.bool b') = .bool (b == b') := (rfl)
theorem v_neb : arithV .neq (.bool b) (.bool b') = .bool (!(b == b')) := (rfl)
theorem v_eqs : arithV .eql (.str s) (.str s') = .bool (s.toList == s'.toList) := (rfl)
theorem v_nes : arithV .neq (.str s) (.str s') = .bool (!(s.toList == s'.toList)) := (rfl)
theorem v_adds : arithV .add (.str s) (.str s') = .str (s ++ s') := (rfl)
theorem v_lts : arithV .lss (.str s) (.str s') = .bool (Op.bytesLess s.toList s'.toList) := (rfl)
theorem p_add : arithP P t .add (.int .i64 x) (.int .i64 y) = RK .i64 (x + y) := by show (_ ∧ _) = _; simp
theorem p_sub : arithP P t .sub (.int .i64 x) (.int .i64 y) = RK .i64 (x - y) := by show (_ ∧ _) = _; simp
theorem p_mul : arithP P t .mul (.int .i64 x) (.int .i64 y) = RK .i64 (x * y) := by show (_ ∧ _) = _; simp
theorem p_quo : arithP P t .quo (.int k x) (.int k y) = (0 ≤ x ∧ 0 < y ∧ RK k x) := by show (_ ∧ _) = _; simp
theorem p_rem : arithP P t .rem (.int k x) (.int k y) = (0 ≤ x ∧ 0 < y) := by show (_ ∧ _) = _; simp
theorem p_and : arithP P t .and (.int k x) (.int k y) = ((0 ≤ x ∧ RK k x) ∧ 0 ≤ y ∧ RK k y) := by show (_ ∧ _) = _; simp
theorem p_or : arithP P t .or (.int k x) (.int k y) = ((0 ≤ x ∧ RK k x) ∧ 0 ≤ y ∧ RK k y) := by show (_ ∧ _) = _; simp
theorem p_andnot : arithP P t .andNot (.int k x) (.int k y) = ((0 ≤ x ∧ RK k x) ∧ 0 ≤ y ∧ RK k y) := by show (_ ∧ _) = _; simp
theorem p_shl (k') : arithP P t .shl (.int k x) (.int k' y) = ((0 ≤ y ∧ y.toNat ≤ k.bits) ∧ RK k (x * 2 ^ y.toNat)) := (rfl)
theorem p_shr (k') : arithP P t .shr (.int k x) (.int k' y) = (0 ≤ y ∧ y.toNat ≤ k.bits) := (rfl)
theorem p_lss : arithP P t .lss (.int k x) (.int k y) = True := by show (k = k) = True; simp
theorem p_leq : arithP P t .leq (.int k x) (.int k y) = True := by show (k = k) = True; simp
theorem p_gtr : arithP P t .gtr (.int k x) (.int k y) = True := by show (k = k) = True; simp
theorem p_geq : arithP P t .geq (.int k x) (.int k y) = True := by show (k = k) = True; simp
theorem p_eql : arithP P t .eql (.int k x) (.int k y) = True := by show (k = k) = True; simp
theorem p_neq : arithP P t .neq (.int k x) (.int k y) = True := by show (k = k) = True; simp
theorem p_eqb : arithP P t .eql (.bool b) (.bool b') = (P.underlying t = some .bool) := (rfl)
theorem p_neb : arithP P t .neq (.bool b) (.bool b') = (P.underlying t = some .bool) := (rfl)
theorem p_eqs : arithP P t .eql (.str s) (.str s') = True := (rfl)
theorem p_nes : arithP P t .neq (.str s) (.str s') = True := (rfl)
theorem p_adds : arithP P t .add (.str s) (.str s') = (s.size + s'.size ≤ 9223372036854775807) := (rfl)
theorem p_lts : arithP P t .lss (.str s) (.str s') = True := (rfl)
theorem v_not : notV (.bool b) = .bool (!b) := (rfl)
theorem p_not : notP (.bool b) = True := (rfl)
theorem v_neg : negV (.int k x) = .int k (0 - x) := (rfl)
theorem p_neg : negP (.int k x) = RK k (0 - x) := (rfl)
theorem v_conv (k') : convV (some k') (.int k x) = .int k' x := (rfl)
theorem p_conv (k') : convP P t (some k') (.int k x) = ((P.underlying t).isSome = true ∧ RK k' x) := (rfl)
-- memory
theorem v_ixi : idxV (some (none, m)) (.ints xs) (.int k i) = .iptr [.int .i64 (ix xs i)] := (rfl)
theorem v_ixr : idxV (some (none, m)) (.rows rs) (.int k i) = .iptr [.ints (ix rs i)] := (rfl)
theorem v_ixs : idxV (some (none, m)) (.strs ss) (.int k i) = .iptr [.str (ix ss i)] := (rfl)
theorem v_ixb : idxV (some (none, m)) (.bools bs) (.int k i) = .iptr [.bool (ix bs i)] := (rfl)
theorem v_ixp : idxV (some (none, m)) (.pairs ps) (.int k i) = .iptr [.int .i64 (ix ps i).1, .int .i64 (ix ps i).2] := (rfl)
theorem v_ixu : idxV (some (none, m)) (.bytes us) (.int k i) = .iptr [.int .u8 (ix us i).toNat] := (rfl)
theorem v_ixsl : idxV (some (none, m)) (.sl r) (.int k i) = .pa r i := (rfl)
theorem v_ixmt : idxV (some (none, m)) (.mt r) (.int k i) = .po r i := (rfl)
theorem v_ixmr : idxV (some (none, m)) (.mr r j) (.int k i) = .pm r j i := (rfl)
theorem v_ixa : idxV (some (some n, m)) (.iptr cs) (.int k i) = .iptr (cs.drop (i.toNat * m)) := (rfl)
theorem p_ixi : idxP (some (none, 1)) kb (.ints xs) (.int k i) = (0 ≤ i ∧ i < xs.length) := by show (_ ∧ _ ∧ _) = _; simp [isLst, widthOf, lenOf]
theorem p_ixr : idxP (some (none, 1)) kb (.rows rs) (.int k i) = (0 ≤ i ∧ i < rs.length) := by show (_ ∧ _ ∧ _) = _; simp [isLst, widthOf, lenOf]
theorem p_ixs : idxP (some (none, 1)) kb (.strs ss) (.int k i) = (0 ≤ i ∧ i < ss.length) := by show (_ ∧ _ ∧ _) = _; simp [isLst, widthOf, lenOf]
theorem p_ixb : idxP (some (none, 1)) kb (.bools bs) (.int k i) = (0 ≤ i ∧ i < bs.length) := by show (_ ∧ _ ∧ _) = _; simp [isLst, widthOf, lenOf]
theorem p_ixp : idxP (some (none, 2)) kb (.pairs ps) (.int k i) = (0 ≤ i ∧ i < ps.length) := by show (_ ∧ _ ∧ _) = _; simp [isLst, widthOf, lenOf]
theorem p_ixu : idxP (some (none, 1)) kb (.bytes us) (.int k i) = (0 ≤ i ∧ i < us.length) := by show (_ ∧ _ ∧ _) = _; simp [isLst, widthOf, lenOf]
theorem p_ixsl (v) : idxP (some (none, m)) (some (.arr v)) (.sl r) (.int k i) = ((0 ≤ i ∧ i < lenOf v) ∧ widthOf v = m) := (rfl)
theorem p_ixmt : idxP (some (none, 1)) (some (.mat rs)) (.mt r) (.int k i) = (0 ≤ i ∧ i < rs.length) := by show (_ ∧ _) = _; simp
theorem p_ixmr : idxP (some (none, 1)) (some (.mat rs)) (.mr r j) (.int k i) = (0 ≤ i ∧ i < (ix rs j).length) := by show (_ ∧ _) = _; simp
theorem p_ixa : idxP (some (some n, m)) kb (.iptr cs) (.int k i) = ((0 ≤ i ∧ i < n) ∧ n * m ≤ cs.length) := (rfl)
theorem w_ints : widthOf (.ints xs) = 1 := (rfl)
theorem w_rows : widthOf (.rows rs) = 1 := (rfl)
theorem w_bools : widthOf (.bools bs) = 1 := (rfl)
theorem l_ints : lenOf (.ints xs) = xs.length := (rfl)
theorem l_rows : lenOf (.rows rs) = rs.length := (rfl)
theorem l_bools : lenOf (.bools bs) = bs.length := (rfl)
theorem l_strs : lenOf (.strs ss) = ss.length := (rfl)
theorem l_pairs : lenOf (.pairs ps) = ps.length := (rfl)
theorem e_ints : elemAt (.ints xs) i = .int .i64 (ix xs i) := (rfl)
theorem e_rows : elemAt (.rows rs) i = .ints (ix rs i) := (rfl)
theorem e_bools : elemAt (.bools bs) i = .bool (ix bs i) := (rfl)
theorem e_strs : elemAt (.strs ss) i = .str (ix ss i) := (rfl)
theorem a_int : isAgg1 (.int k i) = false := (rfl)
theorem a_ints : isAgg1 (.ints xs) = false := (rfl)
theorem a_bool : isAgg1 (.bool b) = false := (rfl)
theorem a_str : isAgg1 (.str s) = false := (rfl)
theorem v_ld1 : loadV .one kb (.iptr (c :: cs)) = c := (rfl)
theorem v_ldn : loadV (.agg n) kb (.iptr cs) = .agg (cs.take n) := (rfl)
theorem v_ldb1 : loadV .one (some (.box cs)) (.bx r n) = cs.getD n .undef := (rfl)
theorem v_ldbn : loadV (.agg m) (some (.box cs)) (.bx r n) = .agg ((cs.drop n).take m) := (rfl)
theorem v_lda (v) : loadV .one (some (.arr v)) (.pa r i) = elemAt v i := (rfl)
theorem v_ldm : loadV .one (some (.mat rs)) (.pm r i j) = .int .i64 (ix (ix rs i) j) := (rfl)
theorem v_ldo : loadV .one (some (.mat rs)) (.po r i) = .mr r i := (rfl)
theorem p_ld1 : loadP .one kb (.iptr (c :: cs)) = True := (rfl)
theorem p_ldn : loadP (.agg n) kb (.iptr cs) = (n ≤ cs.length) := (rfl)
theorem p_ldb1 : loadP .one (some (.box cs)) (.bx r n) = (n < cs.length) := (rfl)
theorem p_ldbn : loadP (.agg m) (some (.box cs)) (.bx r n) = (n + m ≤ cs.length) := (rfl)
theorem p_lda (v) : loadP .one (some (.arr v)) (.pa r i) = (isAgg1 (elemAt v i) = false) := (rfl)
theorem p_ldm : loadP .one (some (.mat rs)) (.pm r i j) = True := (rfl)
theorem p_ldo : loadP .one (some (.mat rs)) (.po r i) = True := (rfl)
theorem b_iptr : blkOf h (.iptr cs) = none := (rfl)
theorem b_bx : blkOf h (.bx r n) = h.look r := (rfl)
theorem b_sl : blkOf h (.sl r) = h.look r := (rfl)
theorem b_mt : blkOf h (.mt r) = h.look r := (rfl)
theorem b_mr : blkOf h (.mr r i) = h.look r := (rfl)
theorem b_pa : blkOf h (.pa r i) = h.look r := (rfl)
theorem b_pm : blkOf h (.pm r i j) = h.look r := (rfl)
theorem b_po : blkOf h (.po r i) = h.look r := (rfl)
theorem v_fld (d) : fieldV (some (n, d)) (.iptr cs) = .iptr (cs.drop n) := (rfl)
theorem p_fld (d) : fieldP (some (n, d)) kb (.iptr cs) = True := (rfl)
theorem v_fldb (d) : fieldV (some (n, d)) (.bx r m) = .bx r (m + n) := (rfl)
theorem p_fldb (d) : fieldP (some (n, d)) (some (.box cs)) (.bx r m) = (m + n ≤ cs.length) := (rfl)
theorem v_part1 : partV (some (n, .one)) (.agg cs) = cs.getD n .undef := (rfl)
theorem p_part1 : partP (some (n, .one)) (.agg cs) = (n < cs.length) := (rfl)
theorem v_partn : partV (some (n, .agg m)) (.agg cs) = .agg ((cs.drop n).take m) := (rfl)
theorem p_partn : partP (some (n, .agg m)) (.agg cs) = (n + m ≤ cs.length) := (rfl)
theorem v_ext : extractV n (.tup cs) = cs.getD n .undef := (rfl)
theorem p_ext : extractP n (.tup cs) = (n < cs.length) := (rfl)
theorem getD_0 : (c :: cs).getD 0 .undef = c := (rfl)
theorem getD_s : (c :: cs).getD (n + 1) .undef = cs.getD n .undef := (rfl)
theorem v_leni : lenV kb (.ints xs) = .int .i64 xs.length := (rfl)
theorem v_lenr : lenV kb (.rows rs) = .int .i64 rs.length := (rfl)
theorem v_lens : lenV kb (.strs ss) = .int .i64 ss.length := (rfl)
theorem v_lenb : lenV kb (.bools bs) = .int .i64 bs.length := (rfl)
theorem v_lenp : lenV kb (.pairs ps) = .int .i64 ps.length := (rfl)
theorem v_lenu : lenV kb (.bytes us) = .int .i64 us.length := (rfl)
theorem v_lenstr : lenV kb (.str s) = .int .i64 s.size := (rfl)
theorem v_lennil : lenV kb .nils = .int .i64 0 := (rfl)
theorem v_lensl (v) : lenV (some (.arr v)) (.sl r) = .int .i64 (lenOf v) := (rfl)
theorem v_lenmt : lenV (some (.mat rs)) (.mt r) = .int .i64 rs.length := (rfl)
theorem v_lenmr : lenV (some (.mat rs)) (.mr r i) = .int .i64 (ix rs i).length := (rfl)
theorem p_leni : lenP P t kb (.ints xs) = isSl P t := (rfl)
theorem p_lenr : lenP P t kb (.rows rs) = isSl P t := (rfl)
theorem p_lens : lenP P t kb (.strs ss) = isSl P t := (rfl)
theorem p_lenb : lenP P t kb (.bools bs) = isSl P t := (rfl)
theorem p_lenp : lenP P t kb (.pairs ps) = isSl P t := (rfl)
theorem p_lenu : lenP P t kb (.bytes us) = isSl P t := (rfl)
theorem p_lenstr : lenP P t kb (.str s) = (P.underlying t = some .string) := (rfl)
theorem p_lennil : lenP P t kb .nils = isSl P t := (rfl)
theorem p_lensl (v) : lenP P t (some (.arr v)) (.sl r) = isSl P t := (rfl)
theorem p_lenmt : lenP P t (some (.mat rs)) (.mt r) = isSl P t := (rfl)
theorem p_lenmr : lenP P t (some (.mat rs)) (.mr r i) = isSl P t := (rfl)
theorem v_sidx : sidxV (.str s) (.int k i) = .int .u8 (byteAt s i).toNat := (rfl)
theorem p_sidx : sidxP P t (.str s) (.int k i) = (P.underlying t = some .string ∧ 0 ≤ i ∧ i < s.size) := (rfl)
theorem v_min : minmaxV .min (.int k x) (.int k y) = .int k (min x y) := (rfl)
theorem v_max : minmaxV .max (.int k x) (.int k y) = .int k (max x y) := (rfl)
theorem p_min : minmaxP .min (.int k x) (.int k y) = True := (rfl)
theorem p_max : minmaxP .max (.int k x) (.int k y) = True := (rfl)
-- purity
theorem pu_int : AV.pureB (.int k x) = true := (rfl)
theorem pu_bool : AV.pureB (.bool b) = true := (rfl)
theorem pu_str : AV.pureB (.str s) = true := (rfl)
theorem pu_ints : AV.pureB (.ints xs) = true := (rfl)
theorem pu_rows : AV.pureB (.rows rs) = true := (rfl)
theorem pu_strs : AV.pureB (.strs ss) = true := (rfl)
theorem pu_bools : AV.pureB (.bools bs) = true := (rfl)
theorem pu_pairs : AV.pureB (.pairs ps) = true := (rfl)
theorem pu_bytes : AV.pureB (.bytes us) = true := (rfl)
theorem pu_iptr : AV.pureB (.iptr cs) = true := (rfl)
theorem pu_bnd (f : FuncId) : AV.pureB (.bnd f cs) = true := (rfl)
theorem pu_nils : AV.pureB .nils = true := (rfl)
theorem pu_tt : AV.pureB .tt = true := (rfl)
theorem pu_ff : AV.pureB .ff = true := (rfl)
theorem pu_agg : AV.pureB (.agg cs) = cs.all AV.pure2 := (rfl)
theorem pu_tup : AV.pureB (.tup cs) = cs.all AV.pure2 := (rfl)
theorem pu_fn (f) : AV.pureB (.fn f cs) = cs.all AV.pure2 := (rfl)
theorem p1_int : AV.pure1 (.int k x) = true := (rfl)
theorem p1_bool : AV.pure1 (.bool b) = true := (rfl)
theorem p1_str : AV.pure1 (.str s) = true := (rfl)
theorem p1_ints : AV.pure1 (.ints xs) = true := (rfl)
theorem p1_rows : AV.pure1 (.rows rs) = true := (rfl)
theorem p1_strs : AV.pure1 (.strs ss) = true := (rfl)
theorem p1_bools : AV.pure1 (.bools bs) = true := (rfl)
theorem p1_nils : AV.pure1 .nils = true := (rfl)
theorem p1_iptr : AV.pure1 (.iptr cs) = true := (rfl)
theorem p1_bnd (f : FuncId) : AV.pure1 (.bnd f cs) = true := (rfl)
theorem c_agg : AV.cells (.agg cs) = cs := (rfl)
theorem c_int : AV.cells (.int k x) = [.int k x] := (rfl)
theorem c_ints : AV.cells (.ints xs) = [.ints xs] := (rfl)
theorem c_rows : AV.cells (.rows rs) = [.rows rs] := (rfl)
theorem c_bool : AV.cells (.bool b) = [.bool b] := (rfl)
theorem c_str : AV.cells (.str s) = [.str s] := (rfl)
theorem c_nils : AV.cells .nils = [.nils] := (rfl)
theorem c_sl : AV.cells (.sl r) = [.sl r] := (rfl)
theorem c_mt : AV.cells (.mt r) = [.mt r] := (rfl)
theorem c_mr : AV.cells (.mr r i) = [.mr r i] := (rfl)
theorem c_bx : AV.cells (.bx r n) = [.bx r n] := (rfl)
theorem c_strs : AV.cells (.strs ss) = [.strs ss] := (rfl)
theorem c_bools : AV.cells (.bools bs) = [.bools bs] := (rfl)
theorem c_pairs : AV.cells (.pairs ps) = [.pairs ps] := (rfl)
theorem c_bytes : AV.cells (.bytes us) = [.bytes us] := (rfl)
theorem c_nilI : AV.cells .nilI = [.nilI] := (rfl)
theorem c_errI : AV.cells .errI = [.errI] := (rfl)
theorem c_iptr : AV.cells (.iptr cs) = [.iptr cs] := (rfl)
theorem c_bnd (f : FuncId) : AV.cells (.bnd f cs) = [.bnd f cs] := (rfl)
theorem c_fn (f) : AV.cells (.fn f cs) = [.fn f cs] := (rfl)
theorem u_agg : AV.isUndef (.agg cs) = false := (rfl)
theorem u_int : AV.isUndef (.int k x) = false := (rfl)
theorem u_ints : AV.isUndef (.ints xs) = false := (rfl)
theorem u_rows : AV.isUndef (.rows rs) = false := (rfl)
theorem u_bool : AV.isUndef (.bool b) = false := (rfl)
theorem u_str : AV.isUndef (.str s) = false := (rfl)
theorem u_nils : AV.isUndef .nils = false := (rfl)
-- freezing
variable (φ : AV → AV) (H : HF) (keep : Nat → Bool)
theorem tr_int : AV.tr φ (.int k x) = .int k x := (rfl)
theorem tr_bool : AV.tr φ (.bool b) = .bool b := (rfl)
theorem tr_str : AV.tr φ (.str s) = .str s := (rfl)
theorem tr_ints : AV.tr φ (.ints xs) = .ints xs := (rfl)
theorem tr_rows : AV.tr φ (.rows rs) = .rows rs := (rfl)
theorem tr_strs : AV.tr φ (.strs ss) = .strs ss := (rfl)
theorem tr_bools : AV.tr φ (.bools bs) = .bools bs := (rfl)
theorem tr_pairs : AV.tr φ (.pairs ps) = .pairs ps := (rfl)
theorem tr_bytes : AV.tr φ (.bytes us) = .bytes us := (rfl)
theorem tr_nils : AV.tr φ .nils = .nils := (rfl)
theorem tr_nilI : AV.tr φ .nilI = .nilI := (rfl)
theorem tr_undef : AV.tr φ .undef = .undef := (rfl)
theorem tr_skipd : AV.tr φ .skipd = .skipd := (rfl)
theorem tr_tt : AV.tr φ .tt = .tt := (rfl)
theorem tr_ff : AV.tr φ .ff = .ff := (rfl)
theorem tr_iptr : AV.tr φ (.iptr cs) = .iptr cs := (rfl)
theorem tr_bnd (f : FuncId) : AV.tr φ (.bnd f cs) = .bnd f cs := (rfl)
theorem tr_agg : AV.tr φ (.agg cs) = .agg (AV.trL φ cs) := (rfl)
theorem tr_tup : AV.tr φ (.tup cs) = .tup (AV.trL φ cs) := (rfl)
theorem tr_fn (f) : AV.tr φ (.fn f cs) = .fn f (AV.trL φ cs) := (rfl)
theorem tr_sl : AV.tr φ (.sl r) = φ (.sl r) := (rfl)
theorem tr_mt : AV.tr φ (.mt r) = φ (.mt r) := (rfl)
theorem tr_mr : AV.tr φ (.mr r i) = φ (.mr r i) := (rfl)
theorem tr_bx : AV.tr φ (.bx r n) = φ (.bx r n) := (rfl)
theorem tr_pa : AV.tr φ (.pa r i) = φ (.pa r i) := (rfl)
theorem tr_pm : AV.tr φ (.pm r i j) = φ (.pm r i j) := (rfl)
theorem tr_po : AV.tr φ (.po r i) = φ (.po r i) := (rfl)
theorem tr_errI : AV.tr φ .errI = .errI := (rfl)
theorem tr_vec : AV.tr φ (.vec cs) = .vec (AV.trL φ cs) := (rfl)
theorem trL_nil : AV.trL φ [] = [] := (rfl)
theorem trL_cons : AV.trL φ (c :: cs) = AV.tr φ c :: AV.trL φ cs := (rfl)
def WHeap0 (φ : AV → AV) (h : Heap) : Heap → Prop
  | [] => True
  | (r, k') :: h' => CoO (h.look r) φ k' ∧ WHeap0 φ h h'
theorem wheap_up {φ : AV → AV} {h : Heap} {n m : Nat} (hm : n ≤ m) : ∀ {h' : Heap}, WHeap φ h n h' → WHeap φ h m h'
  | [], _ => trivial
  | (r, k) :: h', hw => ⟨⟨hw.1.1, Nat.lt_of_lt_of_le hw.1.2 hm⟩, wheap_up hm hw.2⟩
theorem wheap_ex (φ : AV → AV) (h : Heap) : ∀ h' : Heap, (∃ n', WHeap φ h n' h') = WHeap0 φ h h'
  | [] => by simp [WHeap, WHeap0]
  | (r, k) :: h' => by
    have ih := wheap_ex φ h h'
    refine propext ⟨fun ⟨n', hw⟩ => ⟨hw.1.1, by rw [← ih]; exact ⟨n', hw.2⟩⟩, fun ⟨h1, h2⟩ => ?_⟩
    rw [← ih] at h2
    obtain ⟨n', h3⟩ := h2
    exact ⟨max (r + 1) n', ⟨h1, by omega⟩, wheap_up (by omega) h3⟩
def contSl (k : Option Blk) : AV := match k with | some (.arr v) => v | _ => .undef
def contMt (k : Option Blk) : AV := match k with | some (.mat v) => .rows v | _ => .undef
theorem frzA_sl : frzA keep H (.sl r) = bif keep r then .sl r else contSl (H r) := (rfl)
theorem frzA_mt : frzA keep H (.mt r) = bif keep r then .mt r else contMt (H r) := (rfl)
def contMr (k : Option Blk) (i : Int) : AV := match k with | some (.mat v) => .ints (ix v i) | _ => .undef
theorem frzA_mr : frzA keep H (.mr r i) = bif keep r then .mr r i else contMr (H r) i := (rfl)
theorem contMr_some : contMr (some (.mat rs)) i = .ints (ix rs i) := (rfl)
theorem frzA_pa : frzA keep H (.pa r i) = bif keep r then .pa r i else .undef := (rfl)
theorem frzA_pm : frzA keep H (.pm r i j) = bif keep r then .pm r i j else .undef := (rfl)
theorem frzA_po : frzA keep H (.po r i) = bif keep r then .po r i else .undef := (rfl)
theorem frzA_bx : frzA keep H (.bx r n) = bif keep r then .bx r n else .undef := (rfl)
theorem contSl_some (v) : contSl (some (.arr v)) = v := (rfl)
theorem contMt_some : contMt (some (.mat rs)) = .rows rs := (rfl)
theorem keeps_eq : keeps h r = (h.look r).isSome := (rfl)
theorem btr_box : Blk.tr φ (.box cs) = .box (AV.trL φ cs) := (rfl)
theorem btr_arr (v) : Blk.tr φ (.arr v) = .arr v := (rfl)
theorem btr_mat : Blk.tr φ (.mat rs) = .mat rs := (rfl)
theorem coB_box (ds) : CoB (.box cs) (.box ds) = CoL cs ds := (rfl)
theorem coB_arr (v u) : CoB (.arr v) (.arr u) = (v = u) := (rfl)
theorem coB_mat (rs') : CoB (.mat rs) (.mat rs') = (rs = rs') := (rfl)
theorem coO_some (k k') : CoO (some k) φ k' = CoB (k.tr φ) k' := (rfl)
theorem wenv_nil : WEnv φ e [] = True := (rfl)
theorem wenv_cons (q v e') : WEnv φ e ((q, v) :: e') = (Co ((e.get q).tr φ) v ∧ WEnv φ e e') := (rfl)
theorem wheap_nil : WHeap φ h n [] = True := (rfl)
theorem wheap_cons (q v h') : WHeap φ h n ((q, v) :: h') = ((CoO (h.look q) φ v ∧ q < n) ∧ WHeap φ h n h') := (rfl)
theorem weak_eq (e' h') : Weak e h e' h' n = (WEnv (frzA (keeps h') h.look) e e' ∧ WHeap (frzA (keeps h') h.look) h n h') := (rfl)
theorem co_int (v) : Co (.int k x) v = (AV.int k x = v) := by simp [Co]
theorem co_bool (v) : Co (.bool b) v = (AV.bool b = v) := by simp [Co]
theorem co_str (v) : Co (.str s) v = (AV.str s = v) := by simp [Co]
theorem co_ints (v) : Co (.ints xs) v = (AV.ints xs = v) := by simp [Co]
theorem co_rows (v) : Co (.rows rs) v = (AV.rows rs = v) := by simp [Co]
theorem co_strs (v) : Co (.strs ss) v = (AV.strs ss = v) := by simp [Co]
theorem co_bools (v) : Co (.bools bs) v = (AV.bools bs = v) := by simp [Co]
theorem co_pairs (v) : Co (.pairs ps) v = (AV.pairs ps = v) := by simp [Co]
theorem co_bytes (v) : Co (.bytes us) v = (AV.bytes us = v) := by simp [Co]
theorem co_iptr (v) : Co (.iptr cs) v = (AV.iptr cs = v) := by simp [Co]
theorem co_fn (f v) : Co (.fn f cs) v = (AV.fn f cs = v) := by simp [Co]
theorem co_bnd (f v) : Co (.bnd f cs) v = (AV.bnd f cs = v) := by simp [Co]
theorem co_sl (v) : Co (.sl r) v = (AV.sl r = v) := by simp [Co]
theorem co_mt (v) : Co (.mt r) v = (AV.mt r = v) := by simp [Co]
theorem co_mr (v) : Co (.mr r i) v = (AV.mr r i = v) := by simp [Co]
theorem co_undef (v) : Co .undef v = (AV.undef = v) := by simp [Co]
theorem co_bx (v) : Co (.bx r n) v = (AV.bx r n = v) := by simp [Co]
theorem co_agg (ds) : Co (.agg cs) (.agg ds) = CoL cs ds := by simp [Co]
theorem co_tup (ds) : Co (.tup cs) (.tup ds) = CoL cs ds := by simp [Co]
theorem co_nili : Co .nils (.ints xs) = (xs = []) := by simp [Co]
theorem co_nilr : Co .nils (.rows rs) = (rs = []) := by simp [Co]
theorem co_nils : Co .nils (.strs ss) = (ss = []) := by simp [Co]
theorem co_nilp : Co .nils (.pairs ps) = (ps = []) := by simp [Co]
theorem co_nn : Co .nils .nils = True := by simp [Co]
theorem co_tt : Co .tt (.bool b) = (b = true) := by simp [Co]
theorem co_ff : Co .ff (.bool b) = (b = false) := by simp [Co]
theorem coL_nil : CoL [] [] = True := by simp [CoL]
theorem coL_cons (d ds) : CoL (c :: cs) (d :: ds) = (Co c d ∧ CoL cs ds) := by simp [CoL]
theorem retA_eq (rs val new) : retA P rs val new e h = (resPL P e h rs ∧ Co ((tupOf (resL P e h rs)).tr (frzA (keeps new) h.look)) val ∧ WHeap0 (frzA (keeps new) h.look) h new) := by
  show (_ ∧ _ ∧ _) = _
  rw [wheap_ex]
theorem wheap0_nil : WHeap0 φ h [] = True := (rfl)
theorem wheap0_cons (q v h') : WHeap0 φ h ((q, v) :: h') = (CoO (h.look q) φ v ∧ WHeap0 φ h h') := (rfl)
theorem resPL_nil : resPL P e h [] = True := (rfl)
theorem resPL_tmp (l) : resPL P e h (.tmp t :: l) = resPL P e h l := by show (True ∧ _) = _; simp
theorem resPL_cell (a l) : resPL P e h (.cell a t :: l) = (loadP (td P t) (blkOf h (e.get a)) (e.get a) ∧ resPL P e h l) := (rfl)
theorem resL_nil : resL P e h [] = [] := (rfl)
theorem resL_tmp (l) : resL P e h (.tmp t :: l) = e.get t :: resL P e h l := (rfl)
theorem resL_cell (a l) : resL P e h (.cell a t :: l) = loadV (td P t) (blkOf h (e.get a)) (e.get a) :: resL P e h l := (rfl)
theorem envOf_nil : envOf n [] = [] := (rfl)
theorem envOf_cons : envOf n (c :: cs) = (n, c) :: envOf (n + 1) cs := (rfl)
theorem tupOf_1 : tupOf [c] = c := (rfl)
theorem tupOf_2 (d) : tupOf (c :: d :: cs) = .tup (c :: d :: cs) := (rfl)
theorem tupOf_0 : tupOf [] = .tup [] := (rfl)
-- stores
theorem st_bx1 (d) : storeR hint .one (some (.box cs)) (.bx r n) d e h = ⟨n + d.cells.length ≤ cs.length ∧ d.cell1 = true, e, hset h r (.box (setCells cs n d.cells))⟩ := (rfl)
theorem st_bxn (ds) : storeR hint (.agg m) (some (.box cs)) (.bx r n) (.agg ds) e h = ⟨n + ds.length ≤ cs.length ∧ (isAgg1 (.agg ds) = true ∧ ds.length = m) ∧ ds.all AV.cell1 = true, e, hset h r (.box (setCells cs n ds))⟩ := (rfl)
theorem st_pai : storeR hint .one (some (.arr (.ints xs))) (.pa r i) (.int .i64 x) e h = ⟨True, e, hset h r (.arr (.ints (xs.set i.toNat x)))⟩ := (rfl)
theorem st_pab : storeR hint .one (some (.arr (.bools bs))) (.pa r i) (.bool b) e h = ⟨True, e, hset h r (.arr (.bools (bs.set i.toNat b)))⟩ := (rfl)
theorem st_par : storeR hint .one (some (.arr (.rows rs))) (.pa r i) (.ints xs) e h = ⟨True, e, hset h r (.arr (.rows (rs.set i.toNat xs)))⟩ := (rfl)
theorem st_pm : storeR hint .one (some (.mat rs)) (.pm r i j) (.int .i64 x) e h = ⟨True, e, hset h r (.mat (rs.set i.toNat ((ix rs i).set j.toNat x)))⟩ := (rfl)
theorem st_pst : storeR hint .one (some (.arr (.strs ss))) (.pa r i) (.str s) e h = ⟨True, e, hset h r (.arr (.strs (ss.set i.toNat s)))⟩ := (rfl)
def rowQ (hint : Hint) (r : Nat) (i : Int) (xss : List (List Int)) (n : Nat) (k : Option Blk) (e : Env) (h : Heap) : ResM := rowR hint .one r i xss n k e h
theorem st_po : storeR hint .one (some (.mat rs)) (.po r i) (.sl n) e h = rowQ hint r i rs n (h.look n) e h := (rfl)
theorem rowQ_some : rowQ hint r i rs n (some (.arr (.ints xs))) e h = ⟨hint.n0 ≤ r ∧ (n == r) = false, trE (purN [n] [r]) e, (r, .mat (rs.set i.toNat xs)) :: trH (purN [n] [r]) [n, r] h⟩ := (rfl)
theorem hset_cons (q v w) : hset ((q, v) :: h) r w = if q = r then (q, w) :: h else (q, v) :: hset h r w := (rfl)
end

theorem bndV_s (d : Int) (k n) : bndV d (some (.int k n)) = n := (rfl)
theorem bndV_n (d : Int) : bndV d none = d := (rfl)
theorem bndP_s (k n) : bndP (some (.int k n)) = True := (rfl)
theorem bndP_n : bndP none = True := (rfl)
theorem v_cuti (xs lo hi) : sliceV (.ints xs) lo hi = .ints (cutL xs (bndV 0 lo) (bndV xs.length hi)) := (rfl)
theorem v_cutr (xs lo hi) : sliceV (.rows xs) lo hi = .rows (cutL xs (bndV 0 lo) (bndV xs.length hi)) := (rfl)
theorem v_cuts (xs lo hi) : sliceV (.strs xs) lo hi = .strs (cutL xs (bndV 0 lo) (bndV xs.length hi)) := (rfl)
theorem v_cutstr (s : ByteArray) (lo hi) : sliceV (.str s) lo hi = .str (s.extract (bndV 0 lo).toNat (bndV s.size hi).toNat) := (rfl)
theorem p_cuti (P t xs lo hi) : sliceP P t (.ints xs) lo hi = (((bndP lo ∧ bndP hi) ∧ ed P t = some (none, 1)) ∧ isSl P t ∧ 0 ≤ bndV 0 lo ∧ bndV 0 lo ≤ bndV xs.length hi ∧ bndV xs.length hi ≤ xs.length) := (rfl)
theorem p_cutr (P t xs lo hi) : sliceP P t (.rows xs) lo hi = (((bndP lo ∧ bndP hi) ∧ ed P t = some (none, 1)) ∧ isSl P t ∧ 0 ≤ bndV 0 lo ∧ bndV 0 lo ≤ bndV xs.length hi ∧ bndV xs.length hi ≤ xs.length) := (rfl)
theorem p_cuts (P t xs lo hi) : sliceP P t (.strs xs) lo hi = (((bndP lo ∧ bndP hi) ∧ ed P t = some (none, 1)) ∧ isSl P t ∧ 0 ≤ bndV 0 lo ∧ bndV 0 lo ≤ bndV xs.length hi ∧ bndV xs.length hi ≤ xs.length) := (rfl)
theorem p_cutstr (P t) (s : ByteArray) (lo hi) : sliceP P t (.str s) lo hi = ((bndP lo ∧ bndP hi) ∧ P.underlying t = some .string ∧ 0 ≤ bndV 0 lo ∧ bndV 0 lo ≤ bndV s.size hi ∧ bndV s.size hi ≤ s.size) := (rfl)

/-- The ways part on a proposition. -/
def forkP (p A B : Prop) : Prop := (p → A) ∧ (¬p → B)
theorem partB_dec (p : Prop) [Decidable p] (A B) : partB (decide p) A B = forkP p A B := by
  by_cases h : p <;> simp [partB, forkP, h]
theorem partB_not (b : Bool) (A B) : partB (!b) A B = partB b B A := by cases b <;> simp [partB]
theorem fork_intro {p A B : Prop} (h1 : p → A) (h2 : ¬p → B) : forkP p A B := ⟨h1, h2⟩

def allocZ (own : Bool) (n : Nat) (z : Option Value) : Res := match z with | some z => boxR own n (cst z) | none => ⟨False, .undef, [], 0⟩
theorem allocR_eq (P own n t) : allocR P own n t = allocZ own n (zv P t) := (rfl)
theorem allocZ_some (own n z) : allocZ own n (some z) = boxR own n (cst z) := (rfl)
theorem cst_agg (vs) : cst (.agg ⟨vs⟩) = .agg (vs.map cst1) := (rfl)
theorem cst_int (k n) : cst (.int k n) = .int k n := (rfl)
theorem cst_bool (b) : cst (.bool b) = .bool b := (rfl)
theorem cst_str (b) : cst (.string b) = .str b := (rfl)
theorem cst_nils : cst (.slice none 0 0) = .nils := (rfl)

theorem setCells_eq (cs off xs) : setCells cs off xs = cs.take off ++ xs ++ cs.drop (off + xs.length) := (rfl)
theorem k1_int (k : IntKind) (x : Int) : AV.cell1 (.int k x) = true := (rfl)
theorem k1_bool (b : Bool) : AV.cell1 (.bool b) = true := (rfl)
theorem k1_str (s : ByteArray) : AV.cell1 (.str s) = true := (rfl)
theorem k1_ints (xs : List Int) : AV.cell1 (.ints xs) = true := (rfl)
theorem k1_rows (xs : List (List Int)) : AV.cell1 (.rows xs) = true := (rfl)
theorem k1_strs (xs : List ByteArray) : AV.cell1 (.strs xs) = true := (rfl)
theorem k1_bools (xs : List Bool) : AV.cell1 (.bools xs) = true := (rfl)
theorem k1_pairs (xs : List (Int × Int)) : AV.cell1 (.pairs xs) = true := (rfl)
theorem k1_nils  : AV.cell1 .nils = true := (rfl)
theorem k1_tt  : AV.cell1 .tt = true := (rfl)
theorem k1_ff  : AV.cell1 .ff = true := (rfl)
theorem k1_iptr (cs : List AV) : AV.cell1 (.iptr cs) = true := (rfl)
theorem k1_bnd (f : FuncId) (cs : List AV) : AV.cell1 (.bnd f cs) = true := (rfl)
theorem k1_sl (r : Nat) : AV.cell1 (.sl r) = true := (rfl)
theorem ag_agg (cs) : isAgg1 (.agg cs) = true := (rfl)

/-! ### What holds references -/
theorem bo_int (k : IntKind) (x : Int) : boxOK (.int k x) = true := (rfl)
theorem bo_bool (b : Bool) : boxOK (.bool b) = true := (rfl)
theorem bo_str (s : ByteArray) : boxOK (.str s) = true := (rfl)
theorem bo_ints (xs : List Int) : boxOK (.ints xs) = true := (rfl)
theorem bo_rows (xs : List (List Int)) : boxOK (.rows xs) = true := (rfl)
theorem bo_strs (xs : List ByteArray) : boxOK (.strs xs) = true := (rfl)
theorem bo_bools (xs : List Bool) : boxOK (.bools xs) = true := (rfl)
theorem bo_pairs (xs : List (Int × Int)) : boxOK (.pairs xs) = true := (rfl)
theorem bo_bytes (xs : List UInt8) : boxOK (.bytes xs) = true := (rfl)
theorem bo_iptr (cs : List AV) : boxOK (.iptr cs) = true := (rfl)
theorem bo_bnd (f : FuncId) (cs : List AV) : boxOK (.bnd f cs) = true := (rfl)
theorem bo_nils  : boxOK (.nils) = true := (rfl)
theorem bo_nilI  : boxOK (.nilI) = true := (rfl)
theorem bo_errI  : boxOK (.errI) = true := (rfl)
theorem bo_tt  : boxOK (.tt) = true := (rfl)
theorem bo_ff  : boxOK (.ff) = true := (rfl)
theorem bo_sl (r : Nat) : boxOK (.sl r) = true := (rfl)
theorem bo_mt (r : Nat) : boxOK (.mt r) = true := (rfl)
theorem bo_mr (r : Nat) (i : Int) : boxOK (.mr r i) = true := (rfl)
theorem bo_bx (r o : Nat) : boxOK (.bx r o) = true := (rfl)
theorem bo_vec (cs : List AV) : boxOK (.vec cs) = true := (rfl)
theorem bo_fn (f : FuncId) (cs : List AV) : boxOK (.fn f cs) = true := (rfl)
theorem pB_int (k : IntKind) (x : Int) : AV.pureB (.int k x) = true := (rfl)
theorem p2_int (k : IntKind) (x : Int) : AV.pure2 (.int k x) = true := (rfl)
theorem q1_int (k : IntKind) (x : Int) : AV.pure1 (.int k x) = true := (rfl)
theorem nB_int (k : IntKind) (x : Int) : AV.noL (.int k x) = true := (rfl)
theorem n2_int (k : IntKind) (x : Int) : AV.noL2 (.int k x) = true := (rfl)
theorem n1_int (k : IntKind) (x : Int) : AV.noL1 (.int k x) = true := (rfl)
theorem kk_int (k : IntKind) (x : Int) : AV.cell1 (.int k x) = true := (rfl)
theorem r0_int (n : Nat) (k : IntKind) (x : Int) : ren0 n (.int k x) = (.int k x, []) := (rfl)
theorem r1_int (n : Nat) (k : IntKind) (x : Int) : ren1 n (.int k x) = (.int k x, []) := (rfl)
theorem pB_bool (b : Bool) : AV.pureB (.bool b) = true := (rfl)
theorem p2_bool (b : Bool) : AV.pure2 (.bool b) = true := (rfl)
theorem q1_bool (b : Bool) : AV.pure1 (.bool b) = true := (rfl)
theorem nB_bool (b : Bool) : AV.noL (.bool b) = true := (rfl)
theorem n2_bool (b : Bool) : AV.noL2 (.bool b) = true := (rfl)
theorem n1_bool (b : Bool) : AV.noL1 (.bool b) = true := (rfl)
theorem kk_bool (b : Bool) : AV.cell1 (.bool b) = true := (rfl)
theorem r0_bool (n : Nat) (b : Bool) : ren0 n (.bool b) = (.bool b, []) := (rfl)
theorem r1_bool (n : Nat) (b : Bool) : ren1 n (.bool b) = (.bool b, []) := (rfl)
theorem pB_str (s : ByteArray) : AV.pureB (.str s) = true := (rfl)
theorem p2_str (s : ByteArray) : AV.pure2 (.str s) = true := (rfl)
theorem q1_str (s : ByteArray) : AV.pure1 (.str s) = true := (rfl)
theorem nB_str (s : ByteArray) : AV.noL (.str s) = true := (rfl)
theorem n2_str (s : ByteArray) : AV.noL2 (.str s) = true := (rfl)
theorem n1_str (s : ByteArray) : AV.noL1 (.str s) = true := (rfl)
theorem kk_str (s : ByteArray) : AV.cell1 (.str s) = true := (rfl)
theorem r0_str (n : Nat) (s : ByteArray) : ren0 n (.str s) = (.str s, []) := (rfl)
theorem r1_str (n : Nat) (s : ByteArray) : ren1 n (.str s) = (.str s, []) := (rfl)
theorem pB_ints (xs : List Int) : AV.pureB (.ints xs) = true := (rfl)
theorem p2_ints (xs : List Int) : AV.pure2 (.ints xs) = true := (rfl)
theorem q1_ints (xs : List Int) : AV.pure1 (.ints xs) = true := (rfl)
theorem nB_ints (xs : List Int) : AV.noL (.ints xs) = false := (rfl)
theorem n2_ints (xs : List Int) : AV.noL2 (.ints xs) = false := (rfl)
theorem n1_ints (xs : List Int) : AV.noL1 (.ints xs) = false := (rfl)
theorem kk_ints (xs : List Int) : AV.cell1 (.ints xs) = true := (rfl)
theorem r0_ints (n : Nat) (xs : List Int) : ren0 n (.ints xs) = (.ints xs, []) := (rfl)
theorem r1_ints (n : Nat) (xs : List Int) : ren1 n (.ints xs) = (.ints xs, []) := (rfl)
theorem pB_rows (xs : List (List Int)) : AV.pureB (.rows xs) = true := (rfl)
theorem p2_rows (xs : List (List Int)) : AV.pure2 (.rows xs) = true := (rfl)
theorem q1_rows (xs : List (List Int)) : AV.pure1 (.rows xs) = true := (rfl)
theorem nB_rows (xs : List (List Int)) : AV.noL (.rows xs) = false := (rfl)
theorem n2_rows (xs : List (List Int)) : AV.noL2 (.rows xs) = false := (rfl)
theorem n1_rows (xs : List (List Int)) : AV.noL1 (.rows xs) = false := (rfl)
theorem kk_rows (xs : List (List Int)) : AV.cell1 (.rows xs) = true := (rfl)
theorem r0_rows (n : Nat) (xs : List (List Int)) : ren0 n (.rows xs) = (.rows xs, []) := (rfl)
theorem r1_rows (n : Nat) (xs : List (List Int)) : ren1 n (.rows xs) = (.rows xs, []) := (rfl)
theorem pB_strs (xs : List ByteArray) : AV.pureB (.strs xs) = true := (rfl)
theorem p2_strs (xs : List ByteArray) : AV.pure2 (.strs xs) = true := (rfl)
theorem q1_strs (xs : List ByteArray) : AV.pure1 (.strs xs) = true := (rfl)
theorem nB_strs (xs : List ByteArray) : AV.noL (.strs xs) = false := (rfl)
theorem n2_strs (xs : List ByteArray) : AV.noL2 (.strs xs) = false := (rfl)
theorem n1_strs (xs : List ByteArray) : AV.noL1 (.strs xs) = false := (rfl)
theorem kk_strs (xs : List ByteArray) : AV.cell1 (.strs xs) = true := (rfl)
theorem r0_strs (n : Nat) (xs : List ByteArray) : ren0 n (.strs xs) = (.strs xs, []) := (rfl)
theorem r1_strs (n : Nat) (xs : List ByteArray) : ren1 n (.strs xs) = (.strs xs, []) := (rfl)
theorem pB_bools (xs : List Bool) : AV.pureB (.bools xs) = true := (rfl)
theorem p2_bools (xs : List Bool) : AV.pure2 (.bools xs) = true := (rfl)
theorem q1_bools (xs : List Bool) : AV.pure1 (.bools xs) = true := (rfl)
theorem nB_bools (xs : List Bool) : AV.noL (.bools xs) = false := (rfl)
theorem n2_bools (xs : List Bool) : AV.noL2 (.bools xs) = false := (rfl)
theorem n1_bools (xs : List Bool) : AV.noL1 (.bools xs) = false := (rfl)
theorem kk_bools (xs : List Bool) : AV.cell1 (.bools xs) = true := (rfl)
theorem r0_bools (n : Nat) (xs : List Bool) : ren0 n (.bools xs) = (.bools xs, []) := (rfl)
theorem r1_bools (n : Nat) (xs : List Bool) : ren1 n (.bools xs) = (.bools xs, []) := (rfl)
theorem pB_pairs (xs : List (Int × Int)) : AV.pureB (.pairs xs) = true := (rfl)
theorem p2_pairs (xs : List (Int × Int)) : AV.pure2 (.pairs xs) = true := (rfl)
theorem q1_pairs (xs : List (Int × Int)) : AV.pure1 (.pairs xs) = true := (rfl)
theorem nB_pairs (xs : List (Int × Int)) : AV.noL (.pairs xs) = false := (rfl)
theorem n2_pairs (xs : List (Int × Int)) : AV.noL2 (.pairs xs) = false := (rfl)
theorem n1_pairs (xs : List (Int × Int)) : AV.noL1 (.pairs xs) = false := (rfl)
theorem kk_pairs (xs : List (Int × Int)) : AV.cell1 (.pairs xs) = true := (rfl)
theorem r0_pairs (n : Nat) (xs : List (Int × Int)) : ren0 n (.pairs xs) = (.pairs xs, []) := (rfl)
theorem r1_pairs (n : Nat) (xs : List (Int × Int)) : ren1 n (.pairs xs) = (.pairs xs, []) := (rfl)
theorem pB_bytes (xs : List UInt8) : AV.pureB (.bytes xs) = true := (rfl)
theorem p2_bytes (xs : List UInt8) : AV.pure2 (.bytes xs) = true := (rfl)
theorem q1_bytes (xs : List UInt8) : AV.pure1 (.bytes xs) = true := (rfl)
theorem nB_bytes (xs : List UInt8) : AV.noL (.bytes xs) = false := (rfl)
theorem n2_bytes (xs : List UInt8) : AV.noL2 (.bytes xs) = false := (rfl)
theorem n1_bytes (xs : List UInt8) : AV.noL1 (.bytes xs) = false := (rfl)
theorem kk_bytes (xs : List UInt8) : AV.cell1 (.bytes xs) = true := (rfl)
theorem r0_bytes (n : Nat) (xs : List UInt8) : ren0 n (.bytes xs) = (.bytes xs, []) := (rfl)
theorem r1_bytes (n : Nat) (xs : List UInt8) : ren1 n (.bytes xs) = (.bytes xs, []) := (rfl)
theorem pB_iptr (cs : List AV) : AV.pureB (.iptr cs) = true := (rfl)
theorem pB_bnd (f : FuncId) (cs : List AV) : AV.pureB (.bnd f cs) = true := (rfl)
theorem p2_iptr (cs : List AV) : AV.pure2 (.iptr cs) = true := (rfl)
theorem p2_bnd (f : FuncId) (cs : List AV) : AV.pure2 (.bnd f cs) = true := (rfl)
theorem q1_iptr (cs : List AV) : AV.pure1 (.iptr cs) = true := (rfl)
theorem q1_bnd (f : FuncId) (cs : List AV) : AV.pure1 (.bnd f cs) = true := (rfl)
theorem nB_iptr (cs : List AV) : AV.noL (.iptr cs) = false := (rfl)
theorem nB_bnd (f : FuncId) (cs : List AV) : AV.noL (.bnd f cs) = false := (rfl)
theorem n2_iptr (cs : List AV) : AV.noL2 (.iptr cs) = false := (rfl)
theorem n2_bnd (f : FuncId) (cs : List AV) : AV.noL2 (.bnd f cs) = false := (rfl)
theorem n1_iptr (cs : List AV) : AV.noL1 (.iptr cs) = false := (rfl)
theorem n1_bnd (f : FuncId) (cs : List AV) : AV.noL1 (.bnd f cs) = false := (rfl)
theorem kk_iptr (cs : List AV) : AV.cell1 (.iptr cs) = true := (rfl)
theorem kk_bnd (f : FuncId) (cs : List AV) : AV.cell1 (.bnd f cs) = true := (rfl)
theorem r0_iptr (n : Nat) (cs : List AV) : ren0 n (.iptr cs) = (.iptr cs, []) := (rfl)
theorem r0_bnd (n : Nat) (f : FuncId) (cs : List AV) : ren0 n (.bnd f cs) = (.bnd f cs, []) := (rfl)
theorem r1_iptr (n : Nat) (cs : List AV) : ren1 n (.iptr cs) = (.iptr cs, []) := (rfl)
theorem r1_bnd (n : Nat) (f : FuncId) (cs : List AV) : ren1 n (.bnd f cs) = (.bnd f cs, []) := (rfl)
theorem pB_nils  : AV.pureB (.nils) = true := (rfl)
theorem p2_nils  : AV.pure2 (.nils) = true := (rfl)
theorem q1_nils  : AV.pure1 (.nils) = true := (rfl)
theorem nB_nils  : AV.noL (.nils) = true := (rfl)
theorem n2_nils  : AV.noL2 (.nils) = true := (rfl)
theorem n1_nils  : AV.noL1 (.nils) = true := (rfl)
theorem kk_nils  : AV.cell1 (.nils) = true := (rfl)
theorem r0_nils (n : Nat)  : ren0 n (.nils) = (.nils, []) := (rfl)
theorem r1_nils (n : Nat)  : ren1 n (.nils) = (.nils, []) := (rfl)
theorem pB_nilI  : AV.pureB (.nilI) = true := (rfl)
theorem p2_nilI  : AV.pure2 (.nilI) = true := (rfl)
theorem q1_nilI  : AV.pure1 (.nilI) = true := (rfl)
theorem nB_nilI  : AV.noL (.nilI) = true := (rfl)
theorem n2_nilI  : AV.noL2 (.nilI) = true := (rfl)
theorem n1_nilI  : AV.noL1 (.nilI) = true := (rfl)
theorem kk_nilI  : AV.cell1 (.nilI) = true := (rfl)
theorem r0_nilI (n : Nat)  : ren0 n (.nilI) = (.nilI, []) := (rfl)
theorem r1_nilI (n : Nat)  : ren1 n (.nilI) = (.nilI, []) := (rfl)
theorem pB_errI  : AV.pureB (.errI) = true := (rfl)
theorem p2_errI  : AV.pure2 (.errI) = true := (rfl)
theorem q1_errI  : AV.pure1 (.errI) = true := (rfl)
theorem nB_errI  : AV.noL (.errI) = true := (rfl)
theorem n2_errI  : AV.noL2 (.errI) = true := (rfl)
theorem n1_errI  : AV.noL1 (.errI) = true := (rfl)
theorem kk_errI  : AV.cell1 (.errI) = true := (rfl)
theorem r0_errI (n : Nat)  : ren0 n (.errI) = (.errI, []) := (rfl)
theorem r1_errI (n : Nat)  : ren1 n (.errI) = (.errI, []) := (rfl)
theorem pB_undef  : AV.pureB (.undef) = true := (rfl)
theorem p2_undef  : AV.pure2 (.undef) = true := (rfl)
theorem q1_undef  : AV.pure1 (.undef) = true := (rfl)
theorem nB_undef  : AV.noL (.undef) = true := (rfl)
theorem n2_undef  : AV.noL2 (.undef) = true := (rfl)
theorem n1_undef  : AV.noL1 (.undef) = true := (rfl)
theorem r0_undef (n : Nat)  : ren0 n (.undef) = (.undef, []) := (rfl)
theorem r1_undef (n : Nat)  : ren1 n (.undef) = (.undef, []) := (rfl)
theorem pB_skipd  : AV.pureB (.skipd) = true := (rfl)
theorem p2_skipd  : AV.pure2 (.skipd) = true := (rfl)
theorem q1_skipd  : AV.pure1 (.skipd) = true := (rfl)
theorem nB_skipd  : AV.noL (.skipd) = true := (rfl)
theorem n2_skipd  : AV.noL2 (.skipd) = true := (rfl)
theorem n1_skipd  : AV.noL1 (.skipd) = true := (rfl)
theorem r0_skipd (n : Nat)  : ren0 n (.skipd) = (.skipd, []) := (rfl)
theorem r1_skipd (n : Nat)  : ren1 n (.skipd) = (.skipd, []) := (rfl)
theorem pB_tt  : AV.pureB (.tt) = true := (rfl)
theorem p2_tt  : AV.pure2 (.tt) = true := (rfl)
theorem q1_tt  : AV.pure1 (.tt) = true := (rfl)
theorem nB_tt  : AV.noL (.tt) = true := (rfl)
theorem n2_tt  : AV.noL2 (.tt) = true := (rfl)
theorem n1_tt  : AV.noL1 (.tt) = true := (rfl)
theorem kk_tt  : AV.cell1 (.tt) = true := (rfl)
theorem r0_tt (n : Nat)  : ren0 n (.tt) = (.tt, []) := (rfl)
theorem r1_tt (n : Nat)  : ren1 n (.tt) = (.tt, []) := (rfl)
theorem pB_ff  : AV.pureB (.ff) = true := (rfl)
theorem p2_ff  : AV.pure2 (.ff) = true := (rfl)
theorem q1_ff  : AV.pure1 (.ff) = true := (rfl)
theorem nB_ff  : AV.noL (.ff) = true := (rfl)
theorem n2_ff  : AV.noL2 (.ff) = true := (rfl)
theorem n1_ff  : AV.noL1 (.ff) = true := (rfl)
theorem kk_ff  : AV.cell1 (.ff) = true := (rfl)
theorem r0_ff (n : Nat)  : ren0 n (.ff) = (.ff, []) := (rfl)
theorem r1_ff (n : Nat)  : ren1 n (.ff) = (.ff, []) := (rfl)
theorem pB_sl (r : Nat) : AV.pureB (.sl r) = false := (rfl)
theorem p2_sl (r : Nat) : AV.pure2 (.sl r) = false := (rfl)
theorem q1_sl (r : Nat) : AV.pure1 (.sl r) = false := (rfl)
theorem nB_sl (r : Nat) : AV.noL (.sl r) = true := (rfl)
theorem n2_sl (r : Nat) : AV.noL2 (.sl r) = true := (rfl)
theorem n1_sl (r : Nat) : AV.noL1 (.sl r) = true := (rfl)
theorem kk_sl (r : Nat) : AV.cell1 (.sl r) = true := (rfl)
theorem pB_mt (r : Nat) : AV.pureB (.mt r) = false := (rfl)
theorem p2_mt (r : Nat) : AV.pure2 (.mt r) = false := (rfl)
theorem q1_mt (r : Nat) : AV.pure1 (.mt r) = false := (rfl)
theorem nB_mt (r : Nat) : AV.noL (.mt r) = true := (rfl)
theorem n2_mt (r : Nat) : AV.noL2 (.mt r) = true := (rfl)
theorem n1_mt (r : Nat) : AV.noL1 (.mt r) = true := (rfl)
theorem kk_mt (r : Nat) : AV.cell1 (.mt r) = true := (rfl)
theorem pB_mr (r : Nat) (i : Int) : AV.pureB (.mr r i) = false := (rfl)
theorem p2_mr (r : Nat) (i : Int) : AV.pure2 (.mr r i) = false := (rfl)
theorem q1_mr (r : Nat) (i : Int) : AV.pure1 (.mr r i) = false := (rfl)
theorem nB_mr (r : Nat) (i : Int) : AV.noL (.mr r i) = true := (rfl)
theorem n2_mr (r : Nat) (i : Int) : AV.noL2 (.mr r i) = true := (rfl)
theorem n1_mr (r : Nat) (i : Int) : AV.noL1 (.mr r i) = true := (rfl)
theorem kk_mr (r : Nat) (i : Int) : AV.cell1 (.mr r i) = true := (rfl)
theorem pB_bx (r o : Nat) : AV.pureB (.bx r o) = false := (rfl)
theorem p2_bx (r o : Nat) : AV.pure2 (.bx r o) = false := (rfl)
theorem q1_bx (r o : Nat) : AV.pure1 (.bx r o) = false := (rfl)
theorem nB_bx (r o : Nat) : AV.noL (.bx r o) = true := (rfl)
theorem n2_bx (r o : Nat) : AV.noL2 (.bx r o) = true := (rfl)
theorem n1_bx (r o : Nat) : AV.noL1 (.bx r o) = true := (rfl)
theorem kk_bx (r o : Nat) : AV.cell1 (.bx r o) = true := (rfl)
theorem pB_vec (cs : List AV) : AV.pureB (.vec cs) = false := (rfl)
theorem p2_vec (cs : List AV) : AV.pure2 (.vec cs) = false := (rfl)
theorem q1_vec (cs : List AV) : AV.pure1 (.vec cs) = false := (rfl)
theorem nB_vec (cs : List AV) : AV.noL (.vec cs) = false := (rfl)
theorem n2_vec (cs : List AV) : AV.noL2 (.vec cs) = false := (rfl)
theorem n1_vec (cs : List AV) : AV.noL1 (.vec cs) = false := (rfl)
theorem kk_vec (cs : List AV) : AV.cell1 (.vec cs) = true := (rfl)
theorem pB_agg (cs : List AV) : AV.pureB (.agg cs) = cs.all AV.pure2 := (rfl)
theorem p2_agg (cs : List AV) : AV.pure2 (.agg cs) = cs.all AV.pure1 := (rfl)
theorem q1_agg (cs : List AV) : AV.pure1 (.agg cs) = false := (rfl)
theorem nB_agg (cs : List AV) : AV.noL (.agg cs) = cs.all AV.noL2 := (rfl)
theorem n2_agg (cs : List AV) : AV.noL2 (.agg cs) = cs.all AV.noL1 := (rfl)
theorem n1_agg (cs : List AV) : AV.noL1 (.agg cs) = false := (rfl)
theorem pB_tup (cs : List AV) : AV.pureB (.tup cs) = cs.all AV.pure2 := (rfl)
theorem p2_tup (cs : List AV) : AV.pure2 (.tup cs) = cs.all AV.pure1 := (rfl)
theorem q1_tup (cs : List AV) : AV.pure1 (.tup cs) = false := (rfl)
theorem nB_tup (cs : List AV) : AV.noL (.tup cs) = cs.all AV.noL2 := (rfl)
theorem n2_tup (cs : List AV) : AV.noL2 (.tup cs) = false := (rfl)
theorem n1_tup (cs : List AV) : AV.noL1 (.tup cs) = false := (rfl)
theorem pB_fn (f : FuncId) (cs : List AV) : AV.pureB (.fn f cs) = cs.all AV.pure2 := (rfl)
theorem p2_fn (f : FuncId) (cs : List AV) : AV.pure2 (.fn f cs) = cs.all AV.pure1 := (rfl)
theorem q1_fn (f : FuncId) (cs : List AV) : AV.pure1 (.fn f cs) = false := (rfl)
theorem nB_fn (f : FuncId) (cs : List AV) : AV.noL (.fn f cs) = cs.all AV.noL2 := (rfl)
theorem n2_fn (f : FuncId) (cs : List AV) : AV.noL2 (.fn f cs) = cs.all AV.noL1 := (rfl)
theorem n1_fn (f : FuncId) (cs : List AV) : AV.noL1 (.fn f cs) = false := (rfl)
theorem kk_fn (f : FuncId) (cs : List AV) : AV.cell1 (.fn f cs) = true := (rfl)
theorem r0_sl (n r : Nat) : ren0 n (.sl r) = (.sl n, [.whole r]) := (rfl)
theorem r0_mt (n r : Nat) : ren0 n (.mt r) = (.mt n, [.whole r]) := (rfl)
theorem r0_bx (n r o : Nat) : ren0 n (.bx r o) = (.bx n o, [.whole r]) := (rfl)
theorem r0_mr (n r : Nat) (i : Int) : ren0 n (.mr r i) = (.sl n, [.row r i]) := (rfl)
theorem r1_sl (n r : Nat) : ren1 n (.sl r) = (.sl n, [.whole r]) := (rfl)
theorem r1_mt (n r : Nat) : ren1 n (.mt r) = (.mt n, [.whole r]) := (rfl)
theorem r1_bx (n r o : Nat) : ren1 n (.bx r o) = (.bx n o, [.whole r]) := (rfl)
theorem r1_mr (n r : Nat) (i : Int) : ren1 n (.mr r i) = (.sl n, [.row r i]) := (rfl)
theorem r0_fn (n : Nat) (f : FuncId) (cs : List AV) : ren0 n (.fn f cs) = (bif cs.all AV.pure2 then .fn f cs else .undef, []) := (rfl)
theorem r0_agg (n : Nat) (cs : List AV) : ren0 n (.agg cs) = (bif cs.all AV.pure2 then .agg cs else .undef, []) := (rfl)
theorem nb_ints (xs : List Int) : Blk.noL (.arr (.ints xs)) = true := (rfl)
theorem nb_strs (xs : List ByteArray) : Blk.noL (.arr (.strs xs)) = true := (rfl)
theorem nb_bools (xs : List Bool) : Blk.noL (.arr (.bools xs)) = true := (rfl)
theorem nb_pairs (xs : List (Int × Int)) : Blk.noL (.arr (.pairs xs)) = true := (rfl)
theorem nb_bytes (xs : List UInt8) : Blk.noL (.arr (.bytes xs)) = true := (rfl)
theorem nb_rows (xs : List (List Int)) : Blk.noL (.arr (.rows xs)) = false := (rfl)
theorem nb_mat (xs : List (List Int)) : Blk.noL (.mat xs) = true := (rfl)
theorem nb_box (cs : List AV) : Blk.noL (.box cs) = cs.all AV.noL1 := (rfl)
theorem nH_nil  : Heap.noL [] = true := (rfl)
theorem nH_cons (r : Nat) (k : Blk) (h : Heap) : Heap.noL ((r, k) :: h) = (k.noL && Heap.noL h) := (rfl)

/-! ### Tables -/
theorem TabOK.nil (P : Program) : TabOK P [] := ⟨TableOK.nil _, fun _ _ h => by cases h⟩
theorem TabOK.cons {P : Program} {C : Table} {f : FuncId} {fn : Func} {c : Contract} (hf : P.funcs[f]? = some fn) (hb : (fn.body.isSome && !(fn.name == "runtime.NumGoroutine")) = true)
    (h : CtrOK P f c) (hC : TabOK P C) : TabOK P ((f, c) :: C) := by
  refine ⟨TableOK.cons h hC.spec, fun q c hm => ?_⟩
  cases hm with
  | head =>
    simp only [Bool.and_eq_true, Bool.not_eq_true'] at hb
    exact ⟨fn, hf, hb.1, hb.2⟩
  | tail _ hm => exact hC.call q c hm
theorem TabOK.append {P : Program} {C D : Table} (h : TabOK P C) (k : TabOK P D) : TabOK P (C ++ D) :=
  ⟨fun f c hm => (List.mem_append.1 hm).elim (h.spec f c) (k.spec f c), fun f c hm => (List.mem_append.1 hm).elim (h.call f c) (k.call f c)⟩
theorem CtrOK.pure {P : Program} {f : FuncId} {g : List AV → Prop × AV} (h : ∀ args, (g args).1 → SpecOK P f args (g args).2 []) : CtrOK P f (pureC g) :=
  fun args n hp => ⟨h args hp, fun r hr => (hr rfl).elim⟩
theorem TabOK.pure {P : Program} {C : Table} {f : FuncId} {fn : Func} {g : List AV → Prop × AV} (hf : P.funcs[f]? = some fn) (hb : (fn.body.isSome && !(fn.name == "runtime.NumGoroutine")) = true)
    (h : ∀ args, (g args).1 → SpecOK P f args (g args).2 []) (hC : TabOK P C) : TabOK P ((f, pureC g) :: C) := .cons hf hb (.pure h) hC

/-! ### A law -/
theorem SpecOK.below {P : Program} {f : FuncId} {args : List AV} (h : SpecOK P f args (.bool true) []) {S : Store} {w : World} {cargs : Array Value} (hS : StoreIn S w) (hsz : cargs.size = args.length)
    (hargs : ∀ (j : Nat) x v, args[j]? = some x → cargs[j]? = some v → Sees S x v) : Calls P f cargs w fun e w' => e = .returned (.bool true) ∧ Below w.heap.size w w' := by
  refine (h S w cargs hS hsz hargs).mono ?_
  rintro e w' ⟨cv, S', ρ', rfl, _, _, _, hk, hv⟩
  exact ⟨by rw [hv.bool_inv], ⟨hk.os, hk.tape, hk.output, hk.size, fun k hb => hk.block k hb (by omega)⟩⟩
/-- All that is there. -/
def allS (w : World) : Store := fun b => match w.heap[b]? with
  | some (.cells c _ _) => some c
  | _ => none
theorem allS_in (w : World) (ha : Amb (allS w) := by first | exact trivial | assumption) : StoreIn (allS w) w := by
  refine ⟨ha, ?_⟩
  intro b c hb
  unfold allS at hb
  split at hb
  · rename_i c' el fr he; cases hb; exact ⟨el, fr, he⟩
  · cases hb

/-! ### Loops -/
/-- At a round's end. -/
def LoopEnd {G : Type} (n0 : Nat) (E : G → Env) (Hp : G → Heap) (N : Nat) (φ : G → Prop) (μ : G → Nat) (m : Nat) (e : Env) (h : Heap) (n : Nat) : Prop :=
  WeakTo n0 (fun e h n => ∃ m', m' < m ∧ ∃ g, φ g ∧ μ g = m' ∧ e = E g ∧ h = Hp g ∧ n = N) e h n
theorem LoopEnd.intro {G : Type} {n0 : Nat} {E : G → Env} {Hp : G → Heap} {N : Nat} {φ : G → Prop} {μ : G → Nat} {m : Nat} {e : Env} {h : Heap} {n : Nat} (g : G) (hφ : φ g) (hμ : μ g < m) (hn : n0 ≤ N) (hw : Weak e h (E g) (Hp g) N) : LoopEnd n0 E Hp N φ μ m e h n :=
  ⟨_, _, _, ⟨hn, hw⟩, _, hμ, g, hφ, rfl, rfl, rfl, rfl⟩
/-- A loop: the state at its head as a function of some ghost. -/
theorem loop_intro {n0 : Nat} {P : Program} {C : Table} {hint : Hint} {b : Code} {Q : AQ} {e : Env} {h : Heap} {n : Nat} {G : Type} (E : G → Env) (Hp : G → Heap) (N : Nat) (φ : G → Prop) (μ : G → Nat) (g0 : G) (h0 : φ g0) (hn : n0 ≤ N) (hw : Weak e h (E g0) (Hp g0) N)
    (hr : ∀ g, φ g → codeA P C hint b (thenA (LoopEnd n0 E Hp N φ μ (μ g)) Q) (E g) (Hp g) N) : loopA n0 (codeA P C hint b) Q e h n := by
  refine ⟨fun m e h n => ∃ g, φ g ∧ μ g = m ∧ e = E g ∧ h = Hp g ∧ n = N, μ g0, ⟨_, _, _, ⟨hn, hw⟩, g0, h0, rfl, rfl, rfl, rfl⟩, ?_⟩
  rintro m e h n ⟨g, hg, rfl, rfl, rfl, rfl⟩
  exact hr g hg

/-! ### What is looked at first -/
@[congr] theorem storK_congr {r r' : ResM} (K : Env → Heap → Prop) (h : r = r') : storK r K = storK r' K := by rw [h]
@[congr] theorem callK_congr {r r' : Res} (K : AV → Heap → Nat → Prop) (h : r = r') : callK r K = callK r' K := by rw [h]
@[congr] theorem memK_congr {r r' : ResC} (K : AV → Env → Heap → Nat → Prop) (h : r = r') : memK r K = memK r' K := by rw [h]
@[congr] theorem condA_congr {v v' : AV} (A B : Prop) (h : v = v') : condA v A B = condA v' A B := by rw [h]
@[congr] theorem pickS_congr {v v' : AV} (A B : Prop) (h : v = v') : pickS v A B = pickS v' A B := by rw [h]
@[congr] theorem appS_congr {v v' : AV} (A M B : Prop) (h : v = v') : appS v A M B = appS v' A M B := by rw [h]
@[congr] theorem selP_congr {b b' : Bool} (A B : Prop) (h : b = b') : selP b A B = selP b' A B := by rw [h]
@[congr] theorem nilS_congr {P : Program} {t : TypeId} {v v' : AV} {y : Operand} (K : Bool → Prop) (h : v = v') : nilS P t v y K = nilS P t v' y K := by rw [h]
@[congr] theorem upS_congr {v v' : AV} (A : Prop) (h : v = v') : upS v A = upS v' A := by rw [h]
@[congr] theorem upfS_congr {v v' : AV} {k k' : Option Blk} (off : Nat) (A : Nat → List AV → Nat → Prop) (h : v = v') (h2 : k = k') : upfS v k off A = upfS v' k' off A := by rw [h, h2]
@[congr] theorem renS_congr {v v' : AV} {k k' : Option Blk} (A : Nat → AV → Prop) (h : v = v') (h2 : k = k') : renS v k A = renS v' k' A := by rw [h, h2]
@[congr] theorem fuseS_congr {v v' y y' p p' i i' : AV} {k k' : Option Blk} (A : Nat → Int → List (List Int) → List Int → Prop) (h : v = v') (h2 : k = k') (h3 : y = y') (h4 : p = p') (h5 : i = i') : fuseS v k y p i A = fuseS v' k' y' p' i' A := by rw [h, h2, h3, h4, h5]
@[congr] theorem rowS_congr {v v' : AV} {k k' : Option Blk} (A : Nat → List Int → Prop) (h : v = v') (h2 : k = k') : rowS v k A = rowS v' k' A := by rw [h, h2]
@[congr] theorem guardD_congr {d d' : Option Tmp} (w : Bool) (e : Env) (Y N : Env → Prop) (h : d = d') : guardD w d e Y N = guardD w d' e Y N := by rw [h]
@[congr] theorem guardS_congr {v v' : AV} (w : Bool) (d : Tmp) (e : Env) (Y N : Env → Prop) (h : v = v') : guardS w d e v Y N = guardS w d e v' Y N := by rw [h]
@[congr] theorem selR_congr {b b' : Bool} (A B : Res) (h : b = b') : selR b A B = selR b' A B := by rw [h]
@[congr] theorem regA_congr {n0 n0' : Nat} {l l' : List GOp} {e e' : Env} {h h' : Heap} {n n' : Nat} (A : Env → Heap → Nat → Prop) (h0 : n0 = n0') (h1 : l = l') (h2 : e = e') (h3 : h = h') (h4 : n = n') : regA n0 l A e h n = regA n0' l' A e' h' n' := by rw [h0, h1, h2, h3, h4]
@[congr] theorem opsA_congr {P : Program} {C : Table} {hint : Hint} {all l : List Oper} {e e' : Env} {h h' : Heap} {n n' : Nat} (K : Env → Heap → Nat → Prop) (h2 : e = e') (h3 : h = h') (h4 : n = n') : opsA P C hint all l e h n K = opsA P C hint all l e' h' n' K := by rw [h2, h3, h4]
@[congr] theorem loopA_congr {n0 : Nat} (B : AQ → Env → Heap → Nat → Prop) (Q : AQ) {e e' : Env} {h h' : Heap} {n n' : Nat} (h2 : e = e') (h3 : h = h') (h4 : n = n') : loopA n0 B Q e h n = loopA n0 B Q e' h' n' := by rw [h2, h3, h4]

attribute [go_sem ↓] codeA_skip codeA_region codeA_seq codeA_cond codeA_block codeA_exit codeA_ret codeA_loop thenA_normal thenA_exit thenA_ret blockA_normal blockA_ret blockA_exit endA_normal endA_ret
/-! ### Late operations, once more -/
def lateV (u v : AV) : Prop := u = v ∧ u.pureB = true
theorem fuseP_eq (P : Program) (hint : Hint) (d1 ts : Tmp) (y t1 tx g1 g2 g3) (d2 : Tmp) (t2 p k g4 g5 g6 t3 a b g7 g8 g9) (K : Env → Heap → Nat → Prop) (e h n) :
    fuseP P hint [⟨some d1, .call ⟨.builtin .append, ⟨[.tmp ts, y]⟩, ⟨[t1, tx]⟩⟩, g1, g2, g3, none⟩, ⟨some d2, .indexAddr t2 p k, g4, g5, g6, none⟩, ⟨none, .store t3 a b, g7, g8, g9, none⟩] K e h n =
    fuseS (e.get ts) (blkOf h (e.get ts)) (opnd e y) (opnd e p) (opnd e k) (fun r i xss ys =>
      (hint.n0 ≤ r ∧ apP (ap P t1) 1 ((ix xss i).length + ys.length) ∧ isSl P tx ∧ ed P t2 = some (none, 1) ∧ td P t3 = .one) ∧
        K ((d2, .undef) :: (d1, .undef) :: trE (purN [] [r]) e) ((r, .mat (xss.set i.toNat (ix xss i ++ ys))) :: trH (purN [] [r]) [r] h) n) := (rfl)
theorem fuseS_eq (r i xss ys r' kk i' A) : fuseS (.mr r i) (some (.mat xss)) (.ints ys) (.mt r') (.int kk i') A = ((r' = r ∧ i' = i) ∧ A r i xss ys) := (rfl)
theorem lateV_self (u) : lateV u u = (u.pureB = true) := by unfold lateV; simp
def pureO (e : Env) (y : Operand) : Prop := match y with | .tmp t => (e.get t).pureB = true | _ => True
theorem pureO_tmp (e t) : pureO e (.tmp t) = ((e.get t).pureB = true) := (rfl)
theorem pureO_const (e c) : pureO e (.const c) = True := (rfl)
def pureOo (e : Env) (y : Option Operand) : Prop := match y with | some y => pureO e y | none => True
theorem pureOo_some (e y) : pureOo e (some y) = pureO e y := (rfl)
theorem pureOo_none (e) : pureOo e none = True := (rfl)
def pureOl (e : Env) : List (Nat × Operand) → Prop | [] => True | p :: r => pureO e p.2 ∧ pureOl e r
theorem pureOl_nil (e) : pureOl e [] = True := (rfl)
theorem pureOl_cons (e p r) : pureOl e (p :: r) = (pureO e p.2 ∧ pureOl e r) := (rfl)
section
variable (P : Program) (C : Table) (hint : Hint) (e : Env) (d : Tmp) (t : TypeId) (pos : String) (af : Array Edge)
theorem lateAt_eq {o : Oper} {p : Prop} {v : AV} {nw : Heap} {k : Nat} {pr : Prop} (hd : o.dst = some d) (hv : evalH P C hint o e [] 0 = ⟨p, v, nw, k⟩) (hpr : (∀ t ∈ tmpsOf o, (e.get t).pureB = true) ↔ pr) : LateAt P C hint e o = (p ∧ lateV (e.get d) v ∧ pr) := by
  unfold LateAt lateV
  rw [hv, hd, hpr]
  apply propext
  constructor
  · rintro ⟨h1, h2, h3⟩; exact ⟨h1, h2 d rfl, h3⟩
  · rintro ⟨h1, h2, h3⟩; exact ⟨h1, fun q hq => by cases hq; exact h2, h3⟩
theorem prL {o : Oper} : (∀ t ∈ tmpsOf o, (e.get t).pureB = true) ↔ ∀ y ∈ o.op.operands.toList, pureO e y := by
  unfold tmpsOf
  generalize o.op.operands.toList = l
  induction l with
  | nil => simp
  | cons y l ih =>
    rw [List.forall_mem_cons, ← ih]
    cases y <;> simp [pureO]
theorem late_nil : lateP P C hint e [] = True := (rfl)
theorem late_move (x l) : lateP P C hint e (⟨some d, .move x, t, pos, af, none⟩ :: l) = ((True ∧ lateV (e.get d) (opnd e x) ∧ pureO e x) ∧ lateP P C hint e l) := by
  show (LateAt P C hint e _ ∧ _) = _
  exact congrArg (· ∧ _) (lateAt_eq P C hint e d rfl rfl (by rw [prL]; simp [Op.operands]))
theorem late_assign (x l) : lateP P C hint e (⟨some d, .assign x, t, pos, af, none⟩ :: l) = ((True ∧ lateV (e.get d) (opnd e x) ∧ pureO e x) ∧ lateP P C hint e l) := by
  show (LateAt P C hint e _ ∧ _) = _
  exact congrArg (· ∧ _) (lateAt_eq P C hint e d rfl rfl (by rw [prL]; simp [Op.operands]))
theorem late_extract (x k l) : lateP P C hint e (⟨some d, .extract x k, t, pos, af, none⟩ :: l) = ((extractP k (opnd e x) ∧ lateV (e.get d) (extractV k (opnd e x)) ∧ pureO e x) ∧ lateP P C hint e l) := by
  show (LateAt P C hint e _ ∧ _) = _
  exact congrArg (· ∧ _) (lateAt_eq P C hint e d rfl rfl (by rw [prL]; simp [Op.operands]))
theorem late_bin (op t1 x y t2 l) : lateP P C hint e (⟨some d, .binOp op t1 x y t2, t, pos, af, none⟩ :: l) = ((arithP P t1 op (opnd e x) (opnd e y) ∧ lateV (e.get d) (arithV op (opnd e x) (opnd e y)) ∧ pureO e x ∧ pureO e y) ∧ lateP P C hint e l) := by
  show (LateAt P C hint e _ ∧ _) = _
  exact congrArg (· ∧ _) (lateAt_eq P C hint e d rfl rfl (by rw [prL]; simp [Op.operands]))
theorem late_cut (t1 x lo hi l) : lateP P C hint e (⟨some d, .slice t1 x lo hi none, t, pos, af, none⟩ :: l) = ((sliceP P t1 (opnd e x) (lo.map (opnd e)) (hi.map (opnd e)) ∧ lateV (e.get d) (sliceV (opnd e x) (lo.map (opnd e)) (hi.map (opnd e))) ∧ pureO e x ∧ pureOo e lo ∧ pureOo e hi) ∧ lateP P C hint e l) := by
  show (LateAt P C hint e _ ∧ _) = _
  refine congrArg (· ∧ _) (lateAt_eq P C hint e d rfl rfl ?_)
  rw [prL]
  cases lo <;> cases hi <;> simp [Op.operands, pureOo]
theorem late_lit (t1 len ps l) : lateP P C hint e (⟨some d, .buildSlice t1 len ⟨ps⟩, t, pos, af, none⟩ :: l) = ((callK (selR (hint.mat d) (buildMR P 0 t1 len (ps.map Prod.fst)) (selR ((ps.map fun p => opnd e p.2).all AV.pureB) (buildR P (hint.own d) 0 t1 len (ps.map Prod.fst) (ps.map fun p => opnd e p.2)) (vecR P t1 len (ps.map Prod.fst) (ps.map fun p => opnd e p.2)))) (fun v _ _ => lateV (e.get d) v) ∧ pureOl e ps) ∧ lateP P C hint e l) := by
  show (LateAt P C hint e _ ∧ _) = _
  refine congrArg (· ∧ _) ?_
  have hpr : (∀ t' ∈ tmpsOf ⟨some d, .buildSlice t1 len ⟨ps⟩, t, pos, af, none⟩, (e.get t').pureB = true) ↔ pureOl e ps := by
    rw [prL]
    simp only [Op.operands]
    induction ps with
    | nil => simp [pureOl]
    | cons p r ih => simp only [pureOl]; rw [← ih]; simp
  rw [lateAt_eq P C hint e d (nw := (evalH P C hint ⟨some d, .buildSlice t1 len ⟨ps⟩, t, pos, af, none⟩ e [] 0).new) (k := (evalH P C hint ⟨some d, .buildSlice t1 len ⟨ps⟩, t, pos, af, none⟩ e [] 0).cnt) rfl rfl hpr]
  unfold callK
  rw [and_assoc]; rfl
end
attribute [go_sem] regA_frb preG_frb postG_frb regA_renb preG_renb postG_renb renBS_bx pu_bnd p1_bnd c_bnd tr_bnd k1_bnd bo_bnd pB_bnd p2_bnd q1_bnd nB_bnd n2_bnd n1_bnd kk_bnd r0_bnd r1_bnd co_bnd opsA_bnd callF_bnd opsK_fuse fuseP_eq fuseS_eq regA_ren preG_ren postG_ren renS_sl opsK_eq opsK_late lateK_eq hintX_lt late_nil late_move late_assign late_extract late_bin late_cut late_lit lateV_self pureO_tmp pureO_const pureOo_some pureOo_none pureOl_nil pureOl_cons postK_eq ordL_nil ordL_cons hintX_ord permO_nil permO_cons permL_nil permL_cons permS_some renO_n renO_s posOf_cons posOf_nil opsA_build buildS_some setAll_nil setAll_cons belowN_nil belowN_cons nc_add nc_sub nc_mul nc_quo nc_rem nc_and nc_or nc_xor nc_andNot nc_shl nc_shr nc_lss nc_leq nc_gtr nc_geq nc_eql_t nc_eql_i nc_eql_b nc_eql_s nc_eql_n nc_eql_z nc_neq_t nc_neq_i nc_neq_b nc_neq_s nc_neq_n nc_neq_z negB_e negB_n nilS_i nilS_r nilS_s nilS_n nilS_e nilS_ni boxOK_agg bo_int bo_bool bo_str bo_ints bo_rows bo_strs bo_bools bo_pairs bo_bytes bo_iptr bo_nils bo_nilI bo_errI bo_tt bo_ff bo_sl bo_mt bo_mr bo_bx bo_vec bo_fn topH_nil topH_cons c_sl c_mt c_mr c_bx c_strs c_bools c_pairs c_bytes c_nilI c_errI c_iptr c_fn wheap0_nil wheap0_cons condA_bool condA_tt condA_ff callK_mk storK_mk frzNew_f frzNew_t callF_fn boxR_f boxR_t env_get look_cons look_nil dset_some dset_none o_tmp o_int o_bool o_str o_nils o_nili o_func o_agg cst1_int cst1_nils cst1_bool gdst_0 gdst_s guardD_some guardD_none guardS_t guardS_f guardS_tt guardS_ft guardS_tf guardS_ff guardS_skip pickS_b pickS_t pickS_f v_add v_sub v_mul v_quo v_rem v_and v_or v_andnot v_shl v_shr v_lss v_leq v_gtr v_geq v_eql v_neq v_eqb v_neb v_eqs v_nes v_adds v_lts p_add p_sub p_mul p_quo p_rem p_and p_or p_andnot p_shl p_shr p_lss p_leq p_gtr p_geq p_eql p_neq p_eqb p_neb p_eqs p_nes p_adds p_lts v_not p_not v_neg p_neg v_conv p_conv v_ixi v_ixr v_ixs v_ixb v_ixp v_ixu v_ixsl v_ixmt v_ixmr v_ixa p_ixi p_ixr p_ixs p_ixb p_ixp p_ixu p_ixsl p_ixmt p_ixmr p_ixa w_ints w_rows w_bools l_ints l_rows l_bools l_strs l_pairs e_ints e_rows e_bools e_strs a_int a_ints a_bool a_str v_ld1 v_ldn v_ldb1 v_ldbn v_lda v_ldm v_ldo p_ld1 p_ldn p_ldb1 p_ldbn p_lda p_ldm p_ldo b_iptr b_bx b_sl b_mt b_mr b_pa b_pm b_po v_fld p_fld v_fldb p_fldb v_part1 p_part1 v_partn p_partn v_ext p_ext getD_0 getD_s v_leni v_lenr v_lens v_lenb v_lenp v_lenu v_lenstr v_lennil v_lensl v_lenmt v_lenmr p_leni p_lenr p_lens p_lenb p_lenp p_lenu p_lenstr p_lennil p_lensl p_lenmt p_lenmr v_sidx p_sidx v_min v_max p_min p_max pu_int pu_bool pu_str pu_ints pu_rows pu_strs pu_bools pu_pairs pu_bytes pu_iptr pu_nils pu_tt pu_ff pu_agg pu_tup pu_fn p1_int p1_bool p1_str p1_ints p1_rows p1_strs p1_bools p1_nils p1_iptr c_agg c_int c_ints c_rows c_bool c_str c_nils u_agg u_int u_ints u_rows u_bool u_str u_nils tr_int tr_bool tr_str tr_ints tr_rows tr_strs tr_bools tr_pairs tr_bytes tr_nils tr_nilI tr_undef tr_skipd tr_tt tr_ff tr_iptr tr_agg tr_tup tr_fn tr_sl tr_mt tr_mr tr_bx trL_nil trL_cons frzA_sl frzA_mt frzA_bx contSl_some contMt_some keeps_eq btr_box btr_arr btr_mat coB_box coB_arr coB_mat coO_some wenv_nil wenv_cons wheap_nil wheap_cons co_int co_bool co_str co_ints co_rows co_strs co_bools co_pairs co_bytes co_iptr co_fn co_sl co_mt co_bx co_agg co_tup co_nili co_nilr co_nils co_nilp co_nn co_tt co_ff coL_nil coL_cons resPL_nil resPL_tmp resPL_cell resL_nil resL_tmp resL_cell tupOf_1 tupOf_2 tupOf_0 st_bx1 st_bxn st_pai st_pab st_par st_pm hset_cons envOf_nil envOf_cons retA_eq memB_nil memB_cons fzL_nil fzL_cons frzR_nil frzR_cons frzR1_sl frzR1_mt keepR_nil keepR_cons frzE_nil frzE_cons frzP_nil frzP_cons purE_nil purE_cons purH_nil purH_cons purA_sl purA_mt purA_mr purA_bx purA_pa purA_pm purA_po appS_sl appS_nils appR_i appR_in appR_r appR_s appR_p apP_some appN_i appN_r appN_s appN_p newL_t newL_f buildR_eq inOrder_nil inOrder_cons mkL_nil mkL_cons consV_i consV_b consV_s consV_r consV_n consV_p seed_i seed_b seed_s seed_r seed_p rep0 mkW_some makeR_eq bndV_s bndV_n bndP_s bndP_n v_cuti v_cutr v_cuts v_cutstr p_cuti p_cutr p_cuts p_cutstr weak_eq partB_dec partB_not allocR_eq allocZ_some cst_agg cst_int cst_bool cst_str cst_nils setCells_eq k1_int k1_bool k1_str k1_ints k1_rows k1_strs k1_bools k1_pairs k1_nils k1_tt k1_ff k1_iptr k1_sl ag_agg opsA_nil opsA_g opsA_move opsA_assign opsA_pick opsA_store opsA_bin opsA_not opsA_neg opsA_conv opsA_ixa opsA_sidx opsA_load opsA_field opsA_part opsA_extract opsA_func opsA_box opsA_alloc opsA_len opsA_min opsA_max opsA_call regA_nil opsA_append opsA_lit opsA_make opsA_cut memN_nil memN_cons hintL_eq hintX_own hintX_fz hintX_n0 hintX_ms hintX_mat mkey_f mkey_t regA_fz regA_up regA_upf regA_row regA_cut regA_drop belowP_nil belowP_cons preG_drop postG_drop regA_skip preG_skip postG_skip cutE_nil cutE_cons preG_cut postG_cut preG_nil preG_post preG_fz preG_up preG_upf preG_row postG_nil postG_post postG_fz postG_up postG_upf postG_row emptyB_i emptyB_r emptyB_s emptyB_p emptyB_m ref_arr ref_mat upS_nils upfS_bx rowS_mr trE_nil trE_cons trH_nil trH_cons purN_sl purN_mt purN_mr purN_bx purN_pa purN_pm purN_po appS_mt appR_b appM_v appV_some appM_m appW_some selR_t selR_f vecR_eq buildMR_eq makeMR_eq selP_t selP_f memK_mk lendK_mk bview_eq callM_fn callE_mk callD_mk callG_eq aggR_mk fnR_mk renD_mk renL_nil renL_cons renL0_nil renL0_cons ren1_agg ren1_fn base_w base_r subB_w subB_r subM_some subH_nil subH_cons subC_some plainO_some plain_box plain_arr plain_mat plainH_nil plainH_cons distB_nil distB_cons rowO_w rowO_r rowsOK_nil rowsOK_cons updB_w updB_r updM_some mkUpd_nil mkUpd_cons assoc_nil assoc_cons gone_nil gone_cons goneC_some goneC_none updC_ss updC_sn updC_n updH_nil updH_cons newM_nil newM_cons backR_eq backS_w backS_r backS_n backA_sl backA_mt backA_mr backA_bx tab_pure tab_p tab_m tabM_pure tabM_p tabM_m tr_pa tr_pm tr_po tr_errI tr_vec frzA_mr contMr_some frzA_pa frzA_pm frzA_po co_mr co_undef st_pst st_po rowQ_some pB_int p2_int q1_int nB_int n2_int n1_int kk_int r0_int r1_int pB_bool p2_bool q1_bool nB_bool n2_bool n1_bool kk_bool r0_bool r1_bool pB_str p2_str q1_str nB_str n2_str n1_str kk_str r0_str r1_str pB_ints p2_ints q1_ints nB_ints n2_ints n1_ints kk_ints r0_ints r1_ints pB_rows p2_rows q1_rows nB_rows n2_rows n1_rows kk_rows r0_rows r1_rows pB_strs p2_strs q1_strs nB_strs n2_strs n1_strs kk_strs r0_strs r1_strs pB_bools p2_bools q1_bools nB_bools n2_bools n1_bools kk_bools r0_bools r1_bools pB_pairs p2_pairs q1_pairs nB_pairs n2_pairs n1_pairs kk_pairs r0_pairs r1_pairs pB_bytes p2_bytes q1_bytes nB_bytes n2_bytes n1_bytes kk_bytes r0_bytes r1_bytes pB_iptr p2_iptr q1_iptr nB_iptr n2_iptr n1_iptr kk_iptr r0_iptr r1_iptr pB_nils p2_nils q1_nils nB_nils n2_nils n1_nils kk_nils r0_nils r1_nils pB_nilI p2_nilI q1_nilI nB_nilI n2_nilI n1_nilI kk_nilI r0_nilI r1_nilI pB_errI p2_errI q1_errI nB_errI n2_errI n1_errI kk_errI r0_errI r1_errI pB_undef p2_undef q1_undef nB_undef n2_undef n1_undef r0_undef r1_undef pB_skipd p2_skipd q1_skipd nB_skipd n2_skipd n1_skipd r0_skipd r1_skipd pB_tt p2_tt q1_tt nB_tt n2_tt n1_tt kk_tt r0_tt r1_tt pB_ff p2_ff q1_ff nB_ff n2_ff n1_ff kk_ff r0_ff r1_ff pB_sl p2_sl q1_sl nB_sl n2_sl n1_sl kk_sl pB_mt p2_mt q1_mt nB_mt n2_mt n1_mt kk_mt pB_mr p2_mr q1_mr nB_mr n2_mr n1_mr kk_mr pB_bx p2_bx q1_bx nB_bx n2_bx n1_bx kk_bx pB_vec p2_vec q1_vec nB_vec n2_vec n1_vec kk_vec pB_agg p2_agg q1_agg nB_agg n2_agg n1_agg pB_tup p2_tup q1_tup nB_tup n2_tup n1_tup pB_fn p2_fn q1_fn nB_fn n2_fn n1_fn kk_fn r0_sl r0_mt r0_bx r0_mr r1_sl r1_mt r1_bx r1_mr r0_fn r0_agg nb_ints nb_strs nb_bools nb_pairs nb_bytes nb_rows nb_mat nb_box nH_nil nH_cons
end Go.Vc
namespace Go.Vc
open Go.RowKit

/-! ### Contracts that make memory -/
section
variable {P : Program}

theorem spec_shift {f : FuncId} {args : List AV} {val : AV} {new : Heap} (n : Nat) (h : SpecOK P f args val new) (hp : Heap.plain new = true) : SpecOK P f args (val.tr (backA [] 0 n)) (newM 0 n new) := by
  intro S w cargs hS hsz hargs
  refine (h S w cargs hS hsz hargs).mono ?_
  rintro e w' ⟨cv, S', ρ', rfl, h1, h2, h3, h4, h5⟩
  let ρ2 : Rho := ⟨fun q j => ρ'.blk (q - n) j, fun q => ρ'.cap (q - n), fun q j => ρ'.rcap (q - n) j⟩
  have look : ∀ q, (newM 0 n new).look q = if n ≤ q then new.look (q - n) else none := fun q => by rw [newM_look]; rfl
  have lookn : ∀ q, n ≤ q → (newM 0 n new).look q = new.look (q - n) := fun q hq => by rw [look, if_pos hq]
  have ge : ∀ q j, foot ρ2 (newM 0 n new).look q j → n ≤ q ∧ foot ρ' new.look (q - n) j := fun q j hf => by
    by_cases hq : n ≤ q
    · exact ⟨hq, foot_ren (lookn q hq) rfl (fun _ => rfl) hf⟩
    · unfold foot at hf; rw [look, if_neg hq] at hf; exact hf.elim
  refine ⟨cv, S', ρ2, rfl, ⟨h1.stab, h1.amb, fun q k hq => ?_, fun q j hf => ?_, fun q j q' j' g1 g2 e1 => ?_⟩, h2, h3, h4, ?_⟩
  · by_cases hn : n ≤ q
    · rw [lookn q hn] at hq
      exact (h1.blk _ k hq).at (Heap.plain_look hp hq) (fun _ => rfl) rfl (fun _ => rfl)
    · rw [look, if_neg hn] at hq; cases hq
  · exact h1.owned _ _ (ge q j hf).2
  · obtain ⟨a1, a2⟩ := ge q j g1
    obtain ⟨b1, b2⟩ := ge q' j' g2
    obtain ⟨c1, c2⟩ := h1.sep _ _ _ _ a2 b2 e1
    exact ⟨by omega, c2⟩
  · refine h5.tr (fun _ _ h => h) (fun a1 cv1 hra hv => hv.back (m := 0) rfl (fun i r k hi => by simp at hi) (fun i r j ys hi => by simp at hi) (fun i r j k hi => by simp at hi) (fun i k _ hk => ?_) hra)
    have e1 : n + (i - 0) - n = i := by omega
    exact ⟨by rw [lookn _ (by omega), e1]; exact hk, fun j => by show ρ'.blk _ j = _; rw [e1], by show ρ'.cap _ = _; rw [e1], fun j => by show ρ'.rcap _ j = _; rw [e1]⟩

/-- What is made is the caller's to write; the references are counted from 0 on. -/
def shK (n : Nat) (r : Prop × AV × Heap) : Prop × AV × Heap := (r.1, r.2.1.tr (backA [] 0 n), newM 0 n r.2.2)
def ownC (g : List AV → Prop × AV × Heap) : Contract := .p fun a n => shK n (g a)
theorem CtrOK.own {f : FuncId} {g : List AV → Prop × AV × Heap} (h : ∀ args, (g args).1 → SpecOK P f args (g args).2.1 (g args).2.2 ∧ Heap.plain (g args).2.2 = true) : CtrOK P f (ownC g) := by
  intro args n hp
  obtain ⟨h1, h2⟩ := h args hp
  refine ⟨spec_shift n h1 h2, fun r hr => ?_⟩
  have e : (shK n (g args)).2.2 = newM 0 n (g args).2.2 := rfl
  rw [e, newM_look] at hr
  split at hr
  · assumption
  · exact (hr rfl).elim
/-- A function that writes what its arguments point to, k references in all. -/
def mutC (k : Nat) (g : List AV → Heap → Prop × AV × Heap) : Contract := .m fun a h n => (n = k ∧ (g a h).1, (g a h).2)
theorem CtrOK.mut {f : FuncId} {k : Nat} {g : List AV → Heap → Prop × AV × Heap} (h : ∀ args pre, (∀ r, pre.look r ≠ none → r < k) → (g args pre).1 → SpecM P f args pre k (g args pre).2.1 (g args pre).2.2) : CtrOK P f (mutC k g) := by
  rintro args pre n hpre ⟨rfl, hp⟩
  exact h args pre hpre hp
end
/-- The references are below k. -/
def upTo : Nat → Heap → Bool
  | _, [] => true
  | k, (r, _) :: h => Nat.ble (r + 1) k && upTo k h
theorem upTo_look {k : Nat} : ∀ {h : Heap}, upTo k h = true → ∀ r, h.look r ≠ none → r < k
  | [], _, r, hr => (hr rfl).elim
  | (q, b) :: h, hu, r, hr => by
    simp only [upTo, Bool.and_eq_true] at hu
    simp only [Heap.look] at hr
    split at hr
    · rename_i e; subst e; exact Nat.le_of_ble_eq_true hu.1
    · exact upTo_look hu.2 r hr
/-! Shapes -/
def ShapeL : Heap → Heap → Prop
  | [], _ => True
  | (r, k) :: h, post => (∀ k', post.look r = some k' → SameShape k k') ∧ ShapeL h post
theorem shapes : ∀ {pre post : Heap}, ShapeL pre post → ∀ r k k', pre.look r = some k → post.look r = some k' → SameShape k k'
  | [], _, _, r, k, k', h, _ => by cases h
  | (q, b) :: pre, post, hs, r, k, k', h, h' => by
    simp only [Heap.look] at h
    split at h
    · rename_i e; subst e; cases h; exact hs.1 k' h'
    · exact shapes hs.2 r k k' h h'
theorem ss_ints {xs ys : List Int} (h : xs.length = ys.length) : SameShape (.arr (.ints xs)) (.arr (.ints ys)) := .arr _ _ _ _ 1 rfl rfl (by simpa using h)
theorem ss_rows {xs ys : List (List Int)} (h : xs.length = ys.length) : SameShape (.arr (.rows xs)) (.arr (.rows ys)) := .arr _ _ _ _ 1 rfl rfl (by simpa using h)
theorem ss_strs {xs ys : List ByteArray} (h : xs.length = ys.length) : SameShape (.arr (.strs xs)) (.arr (.strs ys)) := .arr _ _ _ _ 1 rfl rfl (by simpa using h)
theorem ss_bools {xs ys : List Bool} (h : xs.length = ys.length) : SameShape (.arr (.bools xs)) (.arr (.bools ys)) := .arr _ _ _ _ 1 rfl rfl (by simpa using h)
theorem ss_pairs {xs ys : List (Int × Int)} (h : xs.length = ys.length) : SameShape (.arr (.pairs xs)) (.arr (.pairs ys)) := .arr _ _ _ _ 2 rfl rfl (by simpa using h)
theorem ss_box {cs ds : List AV} (h : cs.length = ds.length) : SameShape (.box cs) (.box ds) := .box _ _ h
theorem ss_mat {a b : List (List Int)} (h : a.map List.length = b.map List.length) : SameShape (.mat a) (.mat b) := by
  refine .mat _ _ (by simpa using congrArg List.length h) (fun i x y hx hy => ?_)
  have e1 : (a.map List.length)[i]? = some x.length := by rw [List.getElem?_map, hx]; rfl
  have e2 : (b.map List.length)[i]? = some y.length := by rw [List.getElem?_map, hy]; rfl
  rw [h, e2] at e1
  exact (Option.some.inj e1).symm
theorem tab_own (C : Table) (f g v) : Table.find ((f, ownC v) :: C) g = if f = g then (fun a n => shK n (v a)) else Table.find C g := (rfl)
theorem tab_mut (C : Table) (f g k v) : Table.find ((f, mutC k v) :: C) g = Table.find C g := (rfl)
theorem tabM_own (C : Table) (f g v) : Table.findM ((f, ownC v) :: C) g = Table.findM C g := (rfl)
theorem tabM_mut (C : Table) (f g k v) : Table.findM ((f, mutC k v) :: C) g = if f = g then (fun a h n => (n = k ∧ (v a h).1, (v a h).2)) else Table.findM C g := (rfl)
theorem shK_mk (n p v new) : shK n (p, v, new) = (p, v.tr (backA [] 0 n), newM 0 n new) := (rfl)
attribute [go_sem] tab_own tab_mut tabM_own tabM_mut shK_mk
end Go.Vc
namespace Go.Vc
open Go.RowKit Go.ChangeShapes Go.WideShapes Go.Deep Go.Joins

/-! ### What is read of an argument is seen -/
section
variable {H : Type} {enc : TypeId × Value → H} {P : Program} {w : World} {base : Nat} {held : Bool}

theorem cell_at {b o : Nat} {i : Nat} {v : Value} (h : w.cell? (Addr.add ⟨b, o, none⟩ i) = some v) : ∃ c, allS w b = some c ∧ c[o + i]? = some v := by
  rw [add_none] at h
  unfold World.cell? at h
  simp only at h
  split at h
  · rename_i c el fr hb
    simp at h
    exact ⟨c, by simp [allS, hb], h⟩
  · cases h
theorem cell_here {a : Addr} {v : Value} (h : w.cell? (a.add 0) = some v) : ∃ b o c, a = ⟨b, o, none⟩ ∧ allS w b = some c ∧ c[o]? = some v := by
  obtain ⟨b, o, s⟩ := a
  cases s with
  | none =>
    obtain ⟨c, h1, h2⟩ := cell_at h
    exact ⟨b, o, c, rfl, h1, h2⟩
  | some s =>
    exfalso
    have hs : Addr.add ⟨b, o, some s⟩ 0 = ⟨b, o, some s⟩ := by unfold Addr.add; simp
    rw [hs] at h
    unfold World.cell? at h
    simp only at h
    split at h
    · simp at h
    · cases h

theorem wf_RK {n : Int} (h : (Lit.int .i64 n).wf = true) : RK .i64 n := by
  simpa [Lit.wf, RK] using h

theorem ints_seen {a : Option Addr} {len cap : Nat} (zs : List Int) (hl : len ≤ cap) (hz : len ≤ zs.length) (hc : ∀ x, a = some x → ∀ c, c < len → w.cell? (x.add c) = some (.int .i64 (zs.getD c 0))) (hn : a = none → len = 0) : Sees (allS w) (.ints (zs.take len)) (.slice a len cap) := by
  have e0 : len = ((zs.take len).map AV.i).length := by simp; omega
  by_cases h0 : len = 0
  · subst h0
    have := Sees.lst (S := allS w) (.ints []) [] 1 a cap rfl (Nat.zero_le _) 0 0 #[] (fun _ _ => Go.undef) (fun h => (h rfl).elim) (fun x hx => by cases hx) (fun i x j y hx => by simp at hx) (fun i x j y hx => by simp at hx)
    simpa using this
  · cases a with
    | none => exact (h0 (hn rfl)).elim
    | some x =>
      obtain ⟨b, o, c, rfl, hS, _⟩ := cell_here (hc x rfl 0 (by omega))
      have hcell : ∀ i, i < len → c[o + i]? = some (.int .i64 (zs.getD i 0)) := fun i hi => by
        obtain ⟨c', hS', hc'⟩ := cell_at (hc _ rfl i hi)
        rw [hS] at hS'; cases hS'
        exact hc'
      have key : ∀ i x, ((zs.take len).map AV.i)[i]? = some x → i < len ∧ x = .i (zs.getD i 0) := fun i x hx => by
        have hi := (List.getElem?_eq_some_iff.1 hx).1
        simp at hi
        refine ⟨by omega, ?_⟩
        rw [List.getElem?_map, List.getElem?_take, if_pos (by omega)] at hx
        have : zs[i]? = some zs[i] := by simp
        rw [this] at hx
        simp at hx
        rw [← hx, List.getD_eq_getElem?_getD, this]; rfl
      have := Sees.lst (S := allS w) (.ints (zs.take len)) ((zs.take len).map .i) 1 (some ⟨b, o, none⟩) cap rfl (by simp; omega) b o c (fun i _ => .int .i64 (zs.getD i 0)) (fun _ => ⟨rfl, hS⟩) (fun x hx => by obtain ⟨n, _, rfl⟩ := List.mem_map.1 hx; rfl)
        (fun i x j y hx hy => by
          obtain ⟨hi, rfl⟩ := key i x hx
          cases j with
          | zero => rw [Nat.mul_one, Nat.add_zero]; exact hcell i hi
          | succ j => simp [AV.cells] at hy)
        (fun i x j y hx hy => by
          obtain ⟨hi, rfl⟩ := key i x hx
          cases j with
          | zero => simp [AV.cells] at hy; subst hy; exact .int _ _
          | succ j => simp [AV.cells] at hy)
      rw [← e0] at this
      exact this

theorem sees_ints {t e : TypeId} {fuel : Nat} {v : Value} {x : DataW H × List MemPlace} (ht : P.underlying t = some (.slice e)) (he : P.underlying e = some (.int .i64)) (hc : P.cellsOf e = 1)
    (h : DataW.trod enc P w base (fun _ => true) held fuel t [v] = some x) : ∃ xs : List Int, xs.length ≤ 9223372036854775807 ∧ (∀ n ∈ xs, RK .i64 n) ∧ Sees (allS w) (.ints xs) v := by
  rcases open_ints ht he hc h with ⟨hcs, _⟩ | ⟨a, len, cap, zs, hcs, _, hl, hm, hz, _, hcell, hwz⟩
  · simp at hcs; subst hcs
    exact ⟨[], by simp, fun n hn => by (cases hn), sees_nil rfl _⟩
  · simp at hcs; subst hcs
    simp only [if_true] at hz
    have hmx : maxLen = 9223372036854775807 := by decide
    refine ⟨zs.take len, by simp; omega, fun n hn => wf_RK (hwz n (List.mem_of_mem_take hn)), ints_seen zs hl (by omega) (fun x hx c hc' => ?_) (fun h => by cases h)⟩
    cases hx
    exact hcell c (by omega)

theorem sees_rows {t e q : TypeId} {fuel : Nat} {v : Value} {x : DataW H × List MemPlace} (ht : P.underlying t = some (.slice e)) (he : P.underlying e = some (.slice q)) (hq : P.underlying q = some (.int .i64)) (ce : P.cellsOf e = 1) (cq : P.cellsOf q = 1)
    (h : DataW.trod enc P w base (fun _ => true) held fuel t [v] = some x) : ∃ xs : List (List Int), xs.length ≤ 9223372036854775807 ∧ (∀ r ∈ xs, r.length ≤ 9223372036854775807 ∧ ∀ n ∈ r, RK .i64 n) ∧ Sees (allS w) (.rows xs) v := by
  have hmx : maxLen = 9223372036854775807 := by decide
  rcases open_int_rows ht he hq ce cq h with ⟨hcs, _⟩ | ⟨a, len, cap, A, L, C, Z, hcs, _, hl, hm, _, hr⟩
  · simp at hcs; subst hcs
    exact ⟨[], by simp, fun n hn => by (cases hn), sees_nil rfl _⟩
  · simp at hcs; subst hcs
    let xs := (List.range len).map fun r => (Z r).take (L r)
    have hxl : xs.length = len := by simp [xs]
    have hrow : ∀ r, r < len → Sees (allS w) (.ints ((Z r).take (L r))) (.slice (A r) (L r) (C r)) := fun r hr' => by
      obtain ⟨_, h1, h2, h3, h4, h5, h6⟩ := hr r (by omega)
      exact ints_seen (Z r) h1 (by omega) (fun x hx c hc => (h6 x hx).2 c (by omega)) (fun hn => by have := h5 hn; omega)
    refine ⟨xs, by rw [hxl]; omega, fun r hrm => ?_, ?_⟩
    · obtain ⟨i, hi, rfl⟩ := List.mem_map.1 hrm
      have hi := List.mem_range.1 hi
      obtain ⟨_, h1, h2, h3, h4, h5, h6⟩ := hr i (by omega)
      exact ⟨by simp; omega, fun n hn => wf_RK (h4 n (List.mem_of_mem_take hn))⟩
    · by_cases h0 : len = 0
      · subst h0
        have e : xs = [] := List.length_eq_zero_iff.1 hxl
        rw [e]
        have := Sees.lst (S := allS w) (.rows []) [] 1 (some a) cap rfl (Nat.zero_le _) 0 0 #[] (fun _ _ => Go.undef) (fun h => (h rfl).elim) (fun x hx => by cases hx) (fun i x j y hx => by simp at hx) (fun i x j y hx => by simp at hx)
        simpa using this
      · obtain ⟨b, o, c, rfl, hS, _⟩ := cell_here (hr 0 (by omega)).1
        have hcell : ∀ i, i < len → c[o + i]? = some (.slice (A i) (L i) (C i)) := fun i hi => by
          obtain ⟨c', hS', hc'⟩ := cell_at (hr i (by omega)).1
          rw [hS] at hS'; cases hS'
          exact hc'
        have key : ∀ i x, (xs.map AV.ints)[i]? = some x → i < len ∧ x = .ints ((Z i).take (L i)) := fun i x hx => by
          have hi := (List.getElem?_eq_some_iff.1 hx).1
          simp [hxl] at hi
          refine ⟨hi, ?_⟩
          simp [xs, hi] at hx
          exact hx.symm
        have := Sees.lst (S := allS w) (.rows xs) (xs.map .ints) 1 (some ⟨b, o, none⟩) cap rfl (by simp [hxl]; omega) b o c (fun i _ => .slice (A i) (L i) (C i)) (fun _ => ⟨rfl, hS⟩) (fun x hx => by obtain ⟨n, _, rfl⟩ := List.mem_map.1 hx; rfl)
          (fun i x j y hx hy => by
            obtain ⟨hi, rfl⟩ := key i x hx
            cases j with
            | zero => rw [Nat.mul_one, Nat.add_zero]; exact hcell i hi
            | succ j => simp [AV.cells] at hy)
          (fun i x j y hx hy => by
            obtain ⟨hi, rfl⟩ := key i x hx
            cases j with
            | zero => simp [AV.cells] at hy; subst hy; exact hrow i hi
            | succ j => simp [AV.cells] at hy)
        simpa [hxl] using this

theorem sees_Ints {t e : TypeId} {v : Value} {d : DataW H} {p : List MemPlace} (ht : P.underlying t = some (.slice e)) (he : P.underlying e = some (.int .i64)) (hc : P.cellsOf e = 1) (hv : ∃ a n c, v = .slice a n c)
    (h : DataW.Trod enc P w base (fun _ => true) held t v d p) : ∃ xs : List Int, xs.length ≤ 9223372036854775807 ∧ (∀ n ∈ xs, RK .i64 n) ∧ Sees (allS w) (.ints xs) v := by
  obtain ⟨a, n, c, rfl⟩ := hv
  obtain ⟨fuel, hf⟩ := h
  exact sees_ints ht he hc (by simpa [Value.cells] using hf)

/-- A struct of a list and a list of lists. -/
theorem sees_field {r : Reach} {b0 : Nat} {t e1 e2 q : TypeId} {f0 f1 : Go.Field} {v : Value} {d : DataW H} {p : List MemPlace} (hs : P.underlying t = some (.struct #[f0, f1])) (hone : oneCellFields P #[f0, f1] = true) (hC : P.cellsOf t = 2)
    (h0 : P.underlying f0.type = some (.slice e1)) (h1 : P.underlying e1 = some (.int .i64)) (c1 : P.cellsOf e1 = 1) (g0 : P.underlying f1.type = some (.slice e2)) (g1 : P.underlying e2 = some (.slice q)) (g2 : P.underlying q = some (.int .i64)) (ce : P.cellsOf e2 = 1) (cq : P.cellsOf q = 1)
    (hv : Value.okWide P w r b0 t v) (h : DataW.Trod enc P w base (fun _ => true) held t v d p) :
    ∃ (o : List Int) (dd : List (List Int)), (o.length ≤ 9223372036854775807 ∧ ∀ n ∈ o, RK .i64 n) ∧ (dd.length ≤ 9223372036854775807 ∧ ∀ r ∈ dd, r.length ≤ 9223372036854775807 ∧ ∀ n ∈ r, RK .i64 n) ∧ Sees (allS w) (.agg [.ints o, .rows dd]) v := by
  obtain ⟨v0, v1, y0, y1, n, rfl, rfl, rfl, t0, t1⟩ := open_agg2 hs hone hC hv h
  obtain ⟨o, o1, o2, o3⟩ := sees_ints h0 h1 c1 t0
  obtain ⟨dd, d1, d2, d3⟩ := sees_rows g0 g1 g2 ce cq t1
  refine ⟨o, dd, ⟨o1, o2⟩, ⟨d1, d2⟩, .agg _ _ rfl (fun j x v hx hv => ?_)⟩
  rcases j with _ | _ | j
  · simp at hx hv; subst hx; subst hv; exact o3
  · simp at hx hv; subst hx; subst hv; exact d3
  · simp at hx
end
attribute [go_sem] cond_true cond_false List.map_cons List.map_nil List.append_nil List.cons_append List.nil_append true_and and_true Nat.zero_add Nat.add_zero List.drop_zero List.drop_succ_cons List.take_succ_cons List.take_zero List.all_cons List.all_nil Bool.and_true Bool.true_and Bool.and_false Bool.false_and Bool.or_true Bool.true_or Bool.or_false Bool.false_or Bool.not_false Bool.not_true Option.getD_some List.length_cons List.length_nil Option.isSome_none Option.isSome_some eq_self exists_const List.toList_toArray partB_true partB_false RK_i64 RK_u64 RK_u8 LoopEnd List.getElem?_cons_zero List.getElem?_cons_succ List.getElem?_nil Nat.sub_zero Nat.le_refl Int.toNat_natCast List.set_cons_zero List.set_cons_succ List.getD_cons_zero List.getD_cons_succ Nat.sub_self Option.map_some Option.map_none List.length_append
end Go.Vc
