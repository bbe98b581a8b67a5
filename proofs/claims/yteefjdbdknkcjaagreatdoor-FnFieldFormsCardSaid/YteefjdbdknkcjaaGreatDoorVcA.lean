/- An abstract run of the model's code, with proofs that it is sound: whatever order a region draws, whatever capacity an append draws. Conditions: none. Part one. -/
import Derived.Lib.ItoaNum
import Derived.Calls
import Derived.Orders
import Derived.RowKit3
import Derived.Below
import Derived.KernelRfl
import GoSem.Dispatch
import Derived.Laws.Sem
import Derived.Laws.Cells
import Derived.Laws.Entries
import Derived.Laws.Slices
import Derived.Laws.Small
import Derived.Laws.Strings
import Derived.Laws.Build
import Derived.ChangeKeysEq
import Derived.Laws.StructEq
import Derived.IntWalk
import Derived.Laws.BytesArg
import Derived.Deep.AppendSrc
import Derived.Deep.Upon
import Derived.Laws.MakeOwn
import Derived.Laws.Strings2
import Derived.Laws.Tables
set_option linter.unusedSimpArgs false
set_option linter.unusedVariables false
namespace Go.Vc
open Go.RowKit
inductive AV where
  | int (k : IntKind) (n : Int)
  | bool (b : Bool)
  | str (s : ByteArray)
  | ints (xs : List Int)
  | rows (xs : List (List Int))
  | strs (xs : List ByteArray)
  | bools (xs : List Bool)
  | pairs (xs : List (Int × Int))
  | bytes (xs : List UInt8)
  | vec (cs : List AV)
  | agg (cs : List AV)
  | tup (vs : List AV)
  | fn (f : FuncId) (caps : List AV)
  | bnd (f : FuncId) (bs : List AV)
  | iptr (cs : List AV)
  | nils
  | nilI
  | errI
  | undef
  | skipd
  | tt
  | ff
  | sl (r : Nat)
  | mt (r : Nat)
  | mr (r : Nat) (i : Int)
  | bx (r off : Nat)
  | pa (r : Nat) (i : Int)
  | pm (r : Nat) (i j : Int)
  | po (r : Nat) (i : Int)
  deriving Inhabited
abbrev AV.i (n : Int) : AV := .int .i64 n
abbrev AV.pair (p : Int × Int) : AV := .agg [.int .i64 p.1, .int .i64 p.2]
abbrev AV.byte (b : UInt8) : AV := .int .u8 b.toNat
def AV.elems : AV -> Option (List AV × Nat)
  | .ints xs => some (xs.map .i, 1)
  | .rows xs => some (xs.map .ints, 1)
  | .strs xs => some (xs.map .str, 1)
  | .bools xs => some (xs.map .bool, 1)
  | .pairs xs => some (xs.map .pair, 2)
  | .bytes xs => some (xs.map .byte, 1)
  | _ => none
def AV.cells : AV -> List AV
  | .agg cs => cs
  | v => [v]
abbrev Store := Nat -> Option (Array Value)
inductive Sees (S : Store) : AV -> Value -> Prop
  | int (k n) : Sees S (.int k n) (.int k n)
  | bool (b) : Sees S (.bool b) (.bool b)
  | str (s) : Sees S (.str s) (.string s)
  | nils (a) : Sees S .nils (.slice a 0 0)
  | nilI : Sees S .nilI .nilIface
  | errI (t v) : Sees S .errI (.iface t v)
  | undef (v) : Sees S .undef v
  | skipd : Sees S .skipd Go.undef
  | tt : Sees S .tt (.bool true)
  | ff : Sees S .ff (.bool false)
  | lst (v xs m a cap) (he : v.elems = some (xs, m)) (hcap : xs.length <= cap) (b off c) (vals : Nat -> Nat -> Value)
      (hrow : xs ≠ [] -> a = some ⟨b, off, none⟩ /\ S b = some c)
      (hm : ∀ x, x ∈ xs -> x.cells.length = m)
      (hc : ∀ i x j y, xs[i]? = some x -> x.cells[j]? = some y -> c[off + i * m + j]? = some (vals i j))
      (hs : ∀ i x j y, xs[i]? = some x -> x.cells[j]? = some y -> Sees S y (vals i j)) : Sees S v (.slice a xs.length cap)
  | agg (cs vs) (hl : vs.size = cs.length) (h : ∀ (j : Nat) x v, cs[j]? = some x -> vs[j]? = some v -> Sees S x v) : Sees S (.agg cs) (.agg vs)
  | tup (cs vs) (hl : vs.size = cs.length) (h : ∀ (j : Nat) x v, cs[j]? = some x -> vs[j]? = some v -> Sees S x v) : Sees S (.tup cs) (.tuple vs)
  | fn (f cs vs) (hl : vs.size = cs.length) (h : ∀ (j : Nat) x v, cs[j]? = some x -> vs[j]? = some v -> Sees S x v) : Sees S (.fn f cs) (.func (.func f) #[] vs)
  | bnd (f cs vs) (hl : vs.size = cs.length) (h : ∀ (j : Nat) x v, cs[j]? = some x -> vs[j]? = some v -> Sees S x v) : Sees S (.bnd f cs) (.func (.func f) vs #[])
  | iptr (cs b off c) (vals : Nat -> Value) (hS : S b = some c) (hc : ∀ j x, cs[j]? = some x -> c[off + j]? = some (vals j))
      (hs : ∀ j x, cs[j]? = some x -> Sees S x (vals j)) : Sees S (.iptr cs) (.pointer (some ⟨b, off, none⟩))
def Store.le (S S' : Store) : Prop := ∀ b c, S b = some c -> S' b = some c
def DR : Prop := False
def Amb (S : Store) : Prop := S 3 = some (Lib.pow10Tab.map fun z => Value.int .u64 z).toArray /\ (∃ (c : Array Value) (m : Int), S 0 = some c /\ c[0]? = some (.int .i64 m)) /\ (∃ (t : TypeId) (a : Addr), S 1 = some #[.iface t (.pointer (some a))]) /\ ∃ (t : TypeId) (a : Addr), S 2 = some #[.iface t (.pointer (some a))]
theorem Amb.mono {S S' : Store} (h : S.le S') (a : Amb S) : Amb S' :=
  ⟨h _ _ a.1, let ⟨c, m, hc, hm⟩ := a.2.1; ⟨c, m, h _ _ hc, hm⟩, let ⟨t, x, hx⟩ := a.2.2.1; ⟨t, x, h _ _ hx⟩, let ⟨t, x, hx⟩ := a.2.2.2; ⟨t, x, h _ _ hx⟩⟩
theorem Sees.mono {S S' : Store} (h : S.le S') {v : AV} {cv : Value} (hs : Sees S v cv) : Sees S' v cv := by
  induction hs with
  | int k n => exact .int k n
  | bool b => exact .bool b
  | str s => exact .str s
  | nils a => exact .nils a
  | nilI => exact .nilI
  | errI t v => exact .errI t v
  | undef v => exact .undef v
  | skipd => exact .skipd
  | tt => exact .tt
  | ff => exact .ff
  | lst v xs m a cap he hcap b off c vals hrow hm hc hs ih => exact .lst v xs m a cap he hcap b off c vals (fun hne => ⟨(hrow hne).1, h _ _ (hrow hne).2⟩) hm hc (fun i x j y h1 h2 => ih i x j y h1 h2)
  | agg cs vs hl _ ih => exact .agg cs vs hl ih
  | tup cs vs hl _ ih => exact .tup cs vs hl ih
  | fn f cs vs hl _ ih => exact .fn f cs vs hl ih
  | bnd f cs vs hl _ ih => exact .bnd f cs vs hl ih
  | iptr cs b off c vals hS hc _ ih => exact .iptr cs b off c vals (h _ _ hS) hc ih
inductive Blk where
  | box (cs : List AV)
  | arr (v : AV)
  | mat (xss : List (List Int))
abbrev Heap := List (Nat × Blk)
abbrev HF := Nat -> Option Blk
def Heap.look : Heap -> HF
  | [], _ => none
  | (k, v) :: h, r => if k = r then some v else Heap.look h r
structure Rho where
  blk : Nat -> Nat -> Nat
  cap : Nat -> Nat
  rcap : Nat -> Nat -> Nat
def RowAt (ρ : Rho) (r i : Nat) (row : List Int) (cv : Value) : Prop :=
  ∃ a, row.length <= ρ.rcap r i /\ cv = .slice a row.length (ρ.rcap r i) /\ (ρ.rcap r i ≠ 0 -> a = some ⟨ρ.blk r (i + 1), 0, none⟩)
inductive V (S : Store) (ρ : Rho) (H : HF) : AV -> Value -> Prop
  | pure (v cv) (h : Sees S v cv) : V S ρ H v cv
  | vec (cs a b off c) (vals : Nat -> Value) (cap) (hrow : cs ≠ [] -> a = some ⟨b, off, none⟩ /\ S b = some c) (hcap : cs.length <= cap) (hc : ∀ (j : Nat) x, cs[j]? = some x -> c[off + j]? = some (vals j)) (h : ∀ (j : Nat) x, cs[j]? = some x -> V S ρ H x (vals j)) : V S ρ H (.vec cs) (.slice a cs.length cap)
  | agg (cs vs) (hl : vs.size = cs.length) (h : ∀ (j : Nat) x v, cs[j]? = some x -> vs[j]? = some v -> V S ρ H x v) : V S ρ H (.agg cs) (.agg vs)
  | tup (cs vs) (hl : vs.size = cs.length) (h : ∀ (j : Nat) x v, cs[j]? = some x -> vs[j]? = some v -> V S ρ H x v) : V S ρ H (.tup cs) (.tuple vs)
  | fn (f cs vs) (hl : vs.size = cs.length) (h : ∀ (j : Nat) x v, cs[j]? = some x -> vs[j]? = some v -> V S ρ H x v) : V S ρ H (.fn f cs) (.func (.func f) #[] vs)
  | sl (r v xs m a) (hr : H r = some (.arr v)) (he : v.elems = some (xs, m)) (ha : ρ.cap r ≠ 0 -> a = some ⟨ρ.blk r 0, 0, none⟩) : V S ρ H (.sl r) (.slice a xs.length (ρ.cap r))
  | mt (r xss a) (hr : H r = some (.mat xss)) (ha : ρ.cap r ≠ 0 -> a = some ⟨ρ.blk r 0, 0, none⟩) : V S ρ H (.mt r) (.slice a xss.length (ρ.cap r))
  | mr (r i xss row cv) (hr : H r = some (.mat xss)) (h0 : 0 <= i) (hi : xss[i.toNat]? = some row) (h : RowAt ρ r i.toNat row cv) : V S ρ H (.mr r i) cv
  | bx (r off cs) (hr : H r = some (.box cs)) (ho : off <= cs.length) : V S ρ H (.bx r off) (.pointer (some ⟨ρ.blk r 0, off, none⟩))
  | pa (r i v xs m) (hr : H r = some (.arr v)) (he : v.elems = some (xs, m)) (h0 : 0 <= i) (hi : i.toNat < xs.length) : V S ρ H (.pa r i) (.pointer (some ⟨ρ.blk r 0, i.toNat * m, none⟩))
  | pm (r i j xss row) (hr : H r = some (.mat xss)) (h0 : 0 <= i) (hi : xss[i.toNat]? = some row) (hj0 : 0 <= j) (hj : j.toNat < row.length) : V S ρ H (.pm r i j) (.pointer (some ⟨ρ.blk r (i.toNat + 1), j.toNat, none⟩))
  | po (r i xss) (hr : H r = some (.mat xss)) (h0 : 0 <= i) (hi : i.toNat < xss.length) : V S ρ H (.po r i) (.pointer (some ⟨ρ.blk r 0, i.toNat, none⟩))
mutual
def AV.tr (φ : AV -> AV) : AV -> AV
  | .vec cs => .vec (AV.trL φ cs)
  | .agg cs => .agg (AV.trL φ cs)
  | .tup vs => .tup (AV.trL φ vs)
  | .fn f cs => .fn f (AV.trL φ cs)
  | .bnd f cs => .bnd f cs
  | .sl r => φ (.sl r)
  | .mt r => φ (.mt r)
  | .mr r i => φ (.mr r i)
  | .bx r o => φ (.bx r o)
  | .pa r i => φ (.pa r i)
  | .pm r i j => φ (.pm r i j)
  | .po r i => φ (.po r i)
  | .int k n => .int k n
  | .bool b => .bool b
  | .str s => .str s
  | .ints xs => .ints xs
  | .rows xs => .rows xs
  | .strs xs => .strs xs
  | .bools xs => .bools xs
  | .pairs xs => .pairs xs
  | .bytes xs => .bytes xs
  | .iptr cs => .iptr cs
  | .nils => .nils
  | .nilI => .nilI
  | .errI => .errI
  | .undef => .undef
  | .skipd => .skipd
  | .tt => .tt
  | .ff => .ff
def AV.trL (φ : AV -> AV) : List AV -> List AV
  | [] => []
  | v :: l => AV.tr φ v :: AV.trL φ l
end
end Go.Vc
namespace Go.Vc
open Go.RowKit
theorem AV.trL_eq (φ : AV -> AV) (l : List AV) : AV.trL φ l = l.map (AV.tr φ) := by
  induction l with
  | nil => rfl
  | cons v l ih => simp [AV.trL, ih]
theorem AV.trL_id {φ : AV -> AV} {l : List AV} (h : ∀ (j : Nat) x, l[j]? = some x -> AV.tr φ x = x) : AV.trL φ l = l := by
  rw [AV.trL_eq]
  apply List.ext_getElem? 
  intro j
  rw [List.getElem?_map]
  cases hx : l[j]? with
  | none => rfl
  | some x => simp [h j x hx]
theorem Sees.tr_id {S : Store} (φ : AV -> AV) {v : AV} {cv : Value} (hs : Sees S v cv) : v.tr φ = v := by
  induction hs with
  | lst v xs m a cap he hcap b off c vals hrow hm hc hs ih => cases v <;> simp [AV.elems] at he <;> rfl
  | agg cs vs hl h ih =>
    show AV.agg (AV.trL φ cs) = _
    rw [AV.trL_id]
    intro j x hx
    have hj : j < vs.size := by rw [hl]; exact (List.getElem?_eq_some_iff.1 hx).1
    exact ih j x vs[j] hx (by simp [hj])
  | tup cs vs hl h ih =>
    show AV.tup (AV.trL φ cs) = _
    rw [AV.trL_id]
    intro j x hx
    have hj : j < vs.size := by rw [hl]; exact (List.getElem?_eq_some_iff.1 hx).1
    exact ih j x vs[j] hx (by simp [hj])
  | fn f cs vs hl h ih =>
    show AV.fn f (AV.trL φ cs) = _
    rw [AV.trL_id]
    intro j x hx
    have hj : j < vs.size := by rw [hl]; exact (List.getElem?_eq_some_iff.1 hx).1
    exact ih j x vs[j] hx (by simp [hj])
  | _ => rfl
def AV.isRef : AV -> Bool
  | .sl _ | .mt _ | .mr _ _ | .bx _ _ | .pa _ _ | .pm _ _ _ | .po _ _ => true
  | _ => false
theorem V.tr {S S' : Store} {ρ ρ' : Rho} {H H' : HF} {φ : AV -> AV} (hS : S.le S') (hφ : ∀ a cv, a.isRef = true -> V S ρ H a cv -> V S' ρ' H' (φ a) cv)
    {v : AV} {cv : Value} (h : V S ρ H v cv) : V S' ρ' H' (v.tr φ) cv := by
  induction h with
  | pure v cv h => rw [h.tr_id]; exact .pure _ _ (h.mono hS)
  | vec cs a b off c vals cap hrow hcap hc h ih =>
    show V S' ρ' H' (.vec (AV.trL φ cs)) _
    rw [AV.trL_eq]
    have e : cs.length = (cs.map (AV.tr φ)).length := by simp
    rw [e]
    refine .vec _ a b off c vals cap (fun hne => ?_) (by simpa using hcap) (fun j x hx => ?_) (fun j x hx => ?_)
    · have := hrow (by simpa using hne); exact ⟨this.1, hS _ _ this.2⟩
    · rw [List.getElem?_map] at hx
      obtain ⟨y, hy, rfl⟩ := Option.map_eq_some_iff.1 hx
      exact hc j y hy
    · rw [List.getElem?_map] at hx
      obtain ⟨y, hy, rfl⟩ := Option.map_eq_some_iff.1 hx
      exact ih j y hy
  | agg cs vs hl h ih =>
    show V S' ρ' H' (.agg (AV.trL φ cs)) _
    rw [AV.trL_eq]
    refine .agg _ _ (by simpa using hl) (fun j x v hx hv => ?_)
    rw [List.getElem?_map] at hx
    obtain ⟨y, hy, rfl⟩ := Option.map_eq_some_iff.1 hx
    exact ih j y v hy hv
  | tup cs vs hl h ih =>
    show V S' ρ' H' (.tup (AV.trL φ cs)) _
    rw [AV.trL_eq]
    refine .tup _ _ (by simpa using hl) (fun j x v hx hv => ?_)
    rw [List.getElem?_map] at hx
    obtain ⟨y, hy, rfl⟩ := Option.map_eq_some_iff.1 hx
    exact ih j y v hy hv
  | fn f cs vs hl h ih =>
    show V S' ρ' H' (.fn f (AV.trL φ cs)) _
    rw [AV.trL_eq]
    refine .fn f _ _ (by simpa using hl) (fun j x v hx hv => ?_)
    rw [List.getElem?_map] at hx
    obtain ⟨y, hy, rfl⟩ := Option.map_eq_some_iff.1 hx
    exact ih j y v hy hv
  | sl r v xs m a hr he ha => exact hφ (.sl r) _ rfl (.sl r v xs m a hr he ha)
  | mt r xss a hr ha => exact hφ (.mt r) _ rfl (.mt r xss a hr ha)
  | mr r i xss row cv hr h0 hi h => exact hφ (.mr r i) _ rfl (.mr r i xss row cv hr h0 hi h)
  | bx r off cs hr ho => exact hφ (.bx r off) _ rfl (.bx r off cs hr ho)
  | pa r i v xs m hr he h0 hi => exact hφ (.pa r i) _ rfl (.pa r i v xs m hr he h0 hi)
  | pm r i j xss row hr h0 hi hj0 hj => exact hφ (.pm r i j) _ rfl (.pm r i j xss row hr h0 hi hj0 hj)
  | po r i xss hr h0 hi => exact hφ (.po r i) _ rfl (.po r i xss hr h0 hi)
theorem AV.tr_id (v : AV) : v.tr id = v := by
  suffices h : (∀ v : AV, v.tr id = v) from h v
  intro v
  refine AV.rec (motive_1 := fun v => v.tr id = v) (motive_2 := fun l => AV.trL id l = l) ?_ ?_ ?_ ?_ ?_ ?_ ?_ ?_ ?_ ?_ ?_ ?_ ?_ ?_ ?_ ?_ ?_ ?_ ?_ ?_ ?_ ?_ ?_ ?_ ?_ ?_ ?_ ?_ ?_ ?_ ?_ v <;> intros <;> simp_all [AV.tr, AV.trL]
theorem V.keep {S S' : Store} {ρ ρ' : Rho} {H H' : HF} (hS : S.le S') (hφ : ∀ a cv, a.isRef = true -> V S ρ H a cv -> V S' ρ' H' a cv)
    {v : AV} {cv : Value} (h : V S ρ H v cv) : V S' ρ' H' v cv := by
  have := h.tr (φ := id) hS hφ
  rwa [AV.tr_id] at this
structure RhoKeep (ρ ρ' : Rho) (H H' : HF) : Prop where
  heap : ∀ r k, H r = some k -> H' r = some k
  blk : ∀ r k j, H r = some k -> ρ'.blk r j = ρ.blk r j
  cap : ∀ r k, H r = some k -> ρ'.cap r = ρ.cap r
  rcap : ∀ r k i, H r = some k -> ρ'.rcap r i = ρ.rcap r i
theorem RhoKeep.refl (ρ : Rho) (H : HF) : RhoKeep ρ ρ H H := ⟨fun _ _ h => h, fun _ _ _ _ => rfl, fun _ _ _ => rfl, fun _ _ _ _ => rfl⟩
theorem RhoKeep.trans {ρ ρ' ρ'' : Rho} {H H' H'' : HF} (h : RhoKeep ρ ρ' H H') (k : RhoKeep ρ' ρ'' H' H'') : RhoKeep ρ ρ'' H H'' :=
  ⟨fun r b hb => k.heap r b (h.heap r b hb), fun r b j hb => (k.blk r b j (h.heap r b hb)).trans (h.blk r b j hb), fun r b hb => (k.cap r b (h.heap r b hb)).trans (h.cap r b hb), fun r b i hb => (k.rcap r b i (h.heap r b hb)).trans (h.rcap r b i hb)⟩
theorem RowAt.keep {ρ ρ' : Rho} {r i : Nat} {row : List Int} {cv : Value} (h : RowAt ρ r i row cv) (hb : ρ'.blk r (i + 1) = ρ.blk r (i + 1)) (hc : ρ'.rcap r i = ρ.rcap r i) : RowAt ρ' r i row cv := by
  obtain ⟨a, h0, h1, h2⟩ := h
  exact ⟨a, by rw [hc]; exact h0, by rw [hc]; exact h1, fun hne => by rw [hb]; exact h2 (by rw [<- hc]; exact hne)⟩
theorem RowAt.rcap_ne {ρ : Rho} {r i : Nat} {row : List Int} {cv : Value} (h : RowAt ρ r i row cv) {j : Nat} (hj : j < row.length) : ρ.rcap r i ≠ 0 := by
  obtain ⟨a, h0, _⟩ := h; omega
theorem V.ext {S S' : Store} {ρ ρ' : Rho} {H H' : HF} (hS : S.le S') (hk : RhoKeep ρ ρ' H H') {v : AV} {cv : Value} (h : V S ρ H v cv) : V S' ρ' H' v cv := by
  refine h.keep hS (fun a cv hra hv => ?_)
  cases hv with
  | pure _ _ h => exact .pure _ _ (h.mono hS)
  | vec => cases hra
  | agg => cases hra
  | tup => cases hra
  | fn => cases hra
  | sl r v xs m a hr he ha =>
    have := V.sl (S := S') (ρ := ρ') (H := H') r v xs m a (hk.heap _ _ hr) he (by rw [hk.blk _ _ _ hr, hk.cap _ _ hr]; exact ha)
    rwa [hk.cap _ _ hr] at this
  | mt r xss a hr ha =>
    have := V.mt (S := S') (ρ := ρ') (H := H') r xss a (hk.heap _ _ hr) (by rw [hk.blk _ _ _ hr, hk.cap _ _ hr]; exact ha)
    rwa [hk.cap _ _ hr] at this
  | mr r i xss row cv hr h0 hi h => exact .mr r i xss row cv (hk.heap _ _ hr) h0 hi (h.keep (hk.blk _ _ _ hr) (hk.rcap _ _ _ hr))
  | bx r off cs hr ho => have := V.bx (S := S') (ρ := ρ') (H := H') r off cs (hk.heap _ _ hr) ho; rwa [hk.blk _ _ _ hr] at this
  | pa r i v xs m hr he h0 hi => have := V.pa (S := S') (ρ := ρ') (H := H') r i v xs m (hk.heap _ _ hr) he h0 hi; rwa [hk.blk _ _ _ hr] at this
  | pm r i j xss row hr h0 hi hj0 hj => have := V.pm (S := S') (ρ := ρ') (H := H') r i j xss row (hk.heap _ _ hr) h0 hi hj0 hj; rwa [hk.blk _ _ _ hr] at this
  | po r i xss hr h0 hi => have := V.po (S := S') (ρ := ρ') (H := H') r i xss (hk.heap _ _ hr) h0 hi; rwa [hk.blk _ _ _ hr] at this
def CellsIn (w : World) (b : Nat) (c : Array Value) : Prop := ∃ el fr, w.heap[b]? = some (.cells c el fr)
def OwnCells (w : World) (b : Nat) (c : Array Value) : Prop := ∃ el, w.heap[b]? = some (.cells c el (0, 0))
theorem OwnCells.cellsIn {w : World} {b : Nat} {c : Array Value} (h : OwnCells w b c) : CellsIn w b c := let ⟨el, he⟩ := h; ⟨el, _, he⟩
theorem CellsIn.lt {w : World} {b : Nat} {c : Array Value} (h : CellsIn w b c) : b < w.heap.size := by
  obtain ⟨el, fr, he⟩ := h
  exact (Array.getElem?_eq_some_iff.1 he).1
theorem CellsIn.cell {w : World} {b : Nat} {c : Array Value} (h : CellsIn w b c) (o : Nat) : w.cell? ⟨b, o, none⟩ = c[o]? := by
  obtain ⟨el, fr, he⟩ := h
  simp [World.cell?, he]
theorem OwnCells.frozen {w : World} {b : Nat} {c : Array Value} (h : OwnCells w b c) (o : Nat) (s : Option Nat) : w.frozen? ⟨b, o, s⟩ = false := by
  obtain ⟨el, he⟩ := h
  simp [World.frozen?, he]
def ArrIs (S : Store) (c : Array Value) (xs : List AV) (m : Nat) : Prop :=
  (∀ x, x ∈ xs -> x.cells.length = m) /\ ∀ (i : Nat) x (j : Nat) y, xs[i]? = some x -> x.cells[j]? = some y -> ∃ cv, c[i * m + j]? = some cv /\ Sees S y cv
def BlkRel (S : Store) (ρ : Rho) (H : HF) (w : World) (r : Nat) : Blk -> Prop
  | .box cs => ∃ c, OwnCells w (ρ.blk r 0) c /\ c.size = cs.length /\ ∀ (j : Nat) x v, cs[j]? = some x -> c[j]? = some v -> V S ρ H x v
  | .arr v => ∃ xs m c, v.elems = some (xs, m) /\ (ρ.cap r ≠ 0 -> OwnCells w (ρ.blk r 0) c) /\ c.size = ρ.cap r * m /\ xs.length <= ρ.cap r /\ ArrIs S c xs m
  | .mat xss => ∃ c, (ρ.cap r ≠ 0 -> OwnCells w (ρ.blk r 0) c) /\ c.size = ρ.cap r /\ xss.length <= ρ.cap r /\
      ∀ (i : Nat) row, xss[i]? = some row -> (∃ cv, c[i]? = some cv /\ RowAt ρ r i row cv) /\
        (ρ.rcap r i ≠ 0 -> ∃ d, OwnCells w (ρ.blk r (i + 1)) d /\ d.size = ρ.rcap r i /\ ∀ (j : Nat) (n : Int), row[j]? = some n -> d[j]? = some (Value.int .i64 n))
def foot (ρ : Rho) (H : HF) (r j : Nat) : Prop :=
  match H r with
  | none => False
  | some (.mat xss) => (j = 0 /\ ρ.cap r ≠ 0) \/ ∃ i row, j = i + 1 /\ xss[i]? = some row /\ ρ.rcap r i ≠ 0
  | some (.arr _) => j = 0 /\ ρ.cap r ≠ 0
  | some (.box _) => j = 0
structure Rel (own : Nat -> Prop) (S : Store) (ρ : Rho) (H : HF) (w : World) : Prop where
  stab : ∀ b c, S b = some c -> CellsIn w b c
  amb : Amb S
  blk : ∀ r k, H r = some k -> BlkRel S ρ H w r k
  owned : ∀ r j, foot ρ H r j -> own (ρ.blk r j) /\ S (ρ.blk r j) = none
  sep : ∀ r j r' j', foot ρ H r j -> foot ρ H r' j' -> ρ.blk r j = ρ.blk r' j' -> r = r' /\ j = j'
structure Kept (own : Nat -> Prop) (W w : World) : Prop where
  os : w.os = W.os
  tape : w.tape = W.tape
  output : w.output = W.output
  size : W.heap.size <= w.heap.size
  block : ∀ (b : Nat), b < W.heap.size -> ¬ own b -> w.heap[b]? = W.heap[b]?
  drawn : DR -> W.drawn <= w.drawn
theorem Kept.refl (own : Nat -> Prop) (w : World) : Kept own w w := ⟨rfl, rfl, rfl, Nat.le_refl _, fun _ _ _ => rfl, fun _ => Nat.le_refl _⟩
theorem Kept.trans {own : Nat -> Prop} {a b c : World} (h : Kept own a b) (k : Kept own b c) : Kept own a c :=
  ⟨k.os.trans h.os, k.tape.trans h.tape, k.output.trans h.output, Nat.le_trans h.size k.size, fun i hi ho => (k.block i (Nat.lt_of_lt_of_le hi h.size) ho).trans (h.block i hi ho), fun d => Nat.le_trans (h.drawn d) (k.drawn d)⟩
theorem Kept.drew {own : Nat -> Prop} {a w : World} (h : Kept own a w) (n : Nat) (hn : w.drawn <= n := by first | exact Nat.le_refl _ | exact Nat.le_add_right _ _ | exact Nat.le_succ _ | assumption) : Kept own a { w with drawn := n } := ⟨h.os, h.tape, h.output, h.size, h.block, fun d => Nat.le_trans (h.drawn d) hn⟩
theorem Kept.alloc {own : Nat -> Prop} {a w : World} (h : Kept own a w) (o : Obj) : Kept own a { w with heap := w.heap.push o } :=
  h.trans ⟨rfl, rfl, rfl, by simp, fun b hb _ => by simp only [Array.getElem?_push]; rw [if_neg (by omega)], fun _ => Nat.le_refl _⟩
theorem foot_box {ρ : Rho} {H : HF} {r : Nat} {cs : List AV} (h : H r = some (.box cs)) : foot ρ H r 0 := by
  unfold foot; rw [h]
theorem foot_arr {ρ : Rho} {H : HF} {r : Nat} {v : AV} (h : H r = some (.arr v)) (hc : ρ.cap r ≠ 0) : foot ρ H r 0 := by
  unfold foot; rw [h]; exact ⟨rfl, hc⟩
theorem foot_mat {ρ : Rho} {H : HF} {r : Nat} {v : List (List Int)} (h : H r = some (.mat v)) (hc : ρ.cap r ≠ 0) : foot ρ H r 0 := by
  unfold foot; rw [h]; exact .inl ⟨rfl, hc⟩
theorem foot_row {ρ : Rho} {H : HF} {r i : Nat} {xss : List (List Int)} {row : List Int} (h : H r = some (.mat xss)) (hi : xss[i]? = some row) (hne : ρ.rcap r i ≠ 0) : foot ρ H r (i + 1) := by
  unfold foot; rw [h]; exact .inr ⟨i, row, rfl, hi, hne⟩
theorem Rel.foot_cells {own : Nat -> Prop} {S : Store} {ρ : Rho} {H : HF} {w : World} (h : Rel own S ρ H w) {r j : Nat} (hf : foot ρ H r j) : ∃ c, OwnCells w (ρ.blk r j) c := by
  unfold foot at hf
  cases hr : H r with
  | none => rw [hr] at hf; exact hf.elim
  | some k =>
    rw [hr] at hf
    have hb := h.blk r k hr
    cases k with
    | box cs => obtain rfl := hf; obtain ⟨c, hc, _⟩ := hb; exact ⟨c, hc⟩
    | arr v => obtain ⟨rfl, hcap⟩ := hf; obtain ⟨xs, m, c, _, hc, _⟩ := hb; exact ⟨c, hc hcap⟩
    | mat xss =>
      obtain ⟨c, hc, _, _, hrows⟩ := hb
      rcases hf with ⟨rfl, hcap⟩ | ⟨i, row, rfl, hi, hne⟩
      · exact ⟨c, hc hcap⟩
      · obtain ⟨d, hd, _⟩ := (hrows i row hi).2 hne
        exact ⟨d, hd⟩
theorem Rel.foot_lt {own : Nat -> Prop} {S : Store} {ρ : Rho} {H : HF} {w : World} (h : Rel own S ρ H w) {r j : Nat} (hf : foot ρ H r j) : ρ.blk r j < w.heap.size :=
  let ⟨_, hc⟩ := h.foot_cells hf; hc.cellsIn.lt
theorem Rel.world {own : Nat -> Prop} {S : Store} {ρ : Rho} {H : HF} {w w' : World} (h : Rel own S ρ H w)
    (hw : ∀ (b : Nat) o, w.heap[b]? = some o -> w'.heap[b]? = some o) : Rel own S ρ H w' := by
  have own' : ∀ b c, OwnCells w b c -> OwnCells w' b c := fun b c ⟨el, he⟩ => ⟨el, hw _ _ he⟩
  refine ⟨fun b c hb => ?_, h.amb, fun r k hr => ?_, h.owned, h.sep⟩
  · obtain ⟨el, fr, he⟩ := h.stab b c hb
    exact ⟨el, fr, hw _ _ he⟩
  · have hb := h.blk r k hr
    cases k with
    | box cs => obtain ⟨c, hc, r⟩ := hb; exact ⟨c, own' _ _ hc, r⟩
    | arr v => obtain ⟨xs, m, c, he, hc, r⟩ := hb; exact ⟨xs, m, c, he, fun h0 => own' _ _ (hc h0), r⟩
    | mat xss =>
      obtain ⟨c, hc, h1, h2, h3⟩ := hb
      refine ⟨c, fun h0 => own' _ _ (hc h0), h1, h2, fun i row hi => ⟨(h3 i row hi).1, fun hne => ?_⟩⟩
      obtain ⟨d, hd, r⟩ := (h3 i row hi).2 hne
      exact ⟨d, own' _ _ hd, r⟩
theorem Rel.drew {own : Nat -> Prop} {S : Store} {ρ : Rho} {H : HF} {w : World} (h : Rel own S ρ H w) (n : Nat) : Rel own S ρ H { w with drawn := n } := h.world (fun _ _ h => h)
theorem Rel.push {own : Nat -> Prop} {S : Store} {ρ : Rho} {H : HF} {w : World} (h : Rel own S ρ H w) (o : Obj) : Rel own S ρ H { w with heap := w.heap.push o } :=
  h.world (fun b o' hb => by
    have : b < w.heap.size := (Array.getElem?_eq_some_iff.1 hb).1
    simp only [Array.getElem?_push]; rw [if_neg (by omega)]; exact hb)
structure Grow (own : Nat -> Prop) (S : Store) (ρ : Rho) (H : HF) (w : World) (S' : Store) (ρ' : Rho) (H' : HF) (w' : World) : Prop where
  rel : Rel own S' ρ' H' w'
  store : S.le S'
  fresh : ∀ b, S b = none -> S' b ≠ none -> own b
  keep : RhoKeep ρ ρ' H H'
  kept : Kept own w w'
theorem Grow.refl {own : Nat -> Prop} {S : Store} {ρ : Rho} {H : HF} {w : World} (h : Rel own S ρ H w) : Grow own S ρ H w S ρ H w :=
  ⟨h, fun _ _ h => h, fun _ h1 h2 => absurd h1 h2, .refl _ _, .refl _ _⟩
theorem Grow.trans {own : Nat -> Prop} {S S' S'' : Store} {ρ ρ' ρ'' : Rho} {H H' H'' : HF} {w w' w'' : World} (h : Grow own S ρ H w S' ρ' H' w') (k : Grow own S' ρ' H' w' S'' ρ'' H'' w'') :
    Grow own S ρ H w S'' ρ'' H'' w'' :=
  ⟨k.rel, fun b c hb => k.store b c (h.store b c hb), fun b h1 h2 => by
    by_cases hS : S' b = none
    · exact k.fresh b hS h2
    · exact h.fresh b h1 hS, h.keep.trans k.keep, h.kept.trans k.kept⟩
theorem Grow.v {own : Nat -> Prop} {S : Store} {ρ : Rho} {H : HF} {w : World} {S' : Store} {ρ' : Rho} {H' : HF} {w' : World} (h : Grow own S ρ H w S' ρ' H' w')
    {v : AV} {cv : Value} (hv : V S ρ H v cv) : V S' ρ' H' v cv := hv.ext h.store h.keep
end Go.Vc
namespace Go.Vc
open Go.RowKit
def ix {α : Type} [Inhabited α] (xs : List α) (i : Int) : α := xs.getD i.toNat default
theorem ix_get {α : Type} [Inhabited α] {xs : List α} {i : Int} (h : i.toNat < xs.length) : xs[i.toNat]? = some (ix xs i) := by
  simp [ix, h]
def elemAt : AV -> Int -> AV
  | .ints xs, i => .i (ix xs i)
  | .rows xs, i => .ints (ix xs i)
  | .strs xs, i => .str (ix xs i)
  | .bools xs, i => .bool (ix xs i)
  | .pairs xs, i => .pair (ix xs i)
  | .bytes xs, i => .byte (ix xs i)
  | _, _ => .undef
def lenOf : AV -> Nat
  | .ints xs => xs.length
  | .rows xs => xs.length
  | .strs xs => xs.length
  | .bools xs => xs.length
  | .pairs xs => xs.length
  | .bytes xs => xs.length
  | _ => 0
theorem elems_len {v : AV} {xs : List AV} {m : Nat} (h : v.elems = some (xs, m)) : xs.length = lenOf v := by
  cases v <;> simp [AV.elems] at h <;> obtain ⟨rfl, rfl⟩ := h <;> simp [lenOf]
theorem elems_at {v : AV} {xs : List AV} {m : Nat} (h : v.elems = some (xs, m)) {i : Int} (hi : i.toNat < xs.length) : xs[i.toNat]? = some (elemAt v i) := by
  cases v <;> simp [AV.elems] at h <;> obtain ⟨rfl, rfl⟩ := h <;> simp at hi <;> simp [elemAt, ix, hi]
section inv
variable {S : Store} {ρ : Rho} {H : HF} {cv : Value}
theorem V.int_inv {k : IntKind} {n : Int} (h : V S ρ H (.int k n) cv) : cv = .int k n := by
  cases h with | pure _ _ h => cases h with | int => rfl | lst _ _ _ _ _ he => simp [AV.elems] at he
theorem V.bool_inv {b : Bool} (h : V S ρ H (.bool b) cv) : cv = .bool b := by
  cases h with | pure _ _ h => cases h with | bool => rfl | lst _ _ _ _ _ he => simp [AV.elems] at he
theorem V.str_inv {b : ByteArray} (h : V S ρ H (.str b) cv) : cv = .string b := by
  cases h with | pure _ _ h => cases h with | str => rfl | lst _ _ _ _ _ he => simp [AV.elems] at he
theorem V.nils_inv (h : V S ρ H .nils cv) : ∃ a, cv = .slice a 0 0 := by
  cases h with | pure _ _ h => cases h with | nils a => exact ⟨a, rfl⟩ | lst _ _ _ _ _ he => simp [AV.elems] at he
theorem V.skipd_inv (h : V S ρ H .skipd cv) : cv = Go.undef := by
  cases h with | pure _ _ h => cases h with | skipd => rfl | lst _ _ _ _ _ he => simp [AV.elems] at he
theorem V.tt_inv (h : V S ρ H .tt cv) : cv = .bool true := by
  cases h with | pure _ _ h => cases h with | tt => rfl | lst _ _ _ _ _ he => simp [AV.elems] at he
theorem V.ff_inv (h : V S ρ H .ff cv) : cv = .bool false := by
  cases h with | pure _ _ h => cases h with | ff => rfl | lst _ _ _ _ _ he => simp [AV.elems] at he
theorem V.nilI_inv (h : V S ρ H .nilI cv) : cv = .nilIface := by
  cases h with | pure _ _ h => cases h with | nilI => rfl | lst _ _ _ _ _ he => simp [AV.elems] at he
theorem V.errI_inv (h : V S ρ H .errI cv) : ∃ t v, cv = .iface t v := by
  cases h with | pure _ _ h => cases h with | errI t v => exact ⟨t, v, rfl⟩ | lst _ _ _ _ _ he => simp [AV.elems] at he
theorem V.lst_inv {v : AV} {xs : List AV} {m : Nat} (he : v.elems = some (xs, m)) (h : V S ρ H v cv) :
    ∃ a cap b off c, cv = .slice a xs.length cap /\ (xs ≠ [] -> a = some ⟨b, off, none⟩ /\ S b = some c) /\ (∀ x, x ∈ xs -> x.cells.length = m) /\
      ∀ (i : Nat) x (j : Nat) y, xs[i]? = some x -> x.cells[j]? = some y -> ∃ u, c[off + i * m + j]? = some u /\ Sees S y u := by
  cases h with
  | pure _ _ h =>
    cases h with
    | lst _ xs' m' a cap he' hcap b off c vals hrow hm hc hs =>
      rw [he] at he'
      simp only [Option.some.injEq, Prod.mk.injEq] at he'
      obtain ⟨rfl, rfl⟩ := he'
      exact ⟨a, cap, b, off, c, rfl, hrow, hm, fun i x j y h1 h2 => ⟨_, hc i x j y h1 h2, hs i x j y h1 h2⟩⟩
    | _ => simp [AV.elems] at he
  | _ => simp [AV.elems] at he
theorem V.lst_cap {v : AV} {xs : List AV} {m : Nat} (he : v.elems = some (xs, m)) (h : V S ρ H v cv) :
    ∃ a cap b off c, cv = .slice a xs.length cap /\ xs.length <= cap /\ (xs ≠ [] -> a = some ⟨b, off, none⟩ /\ S b = some c) /\ (∀ x, x ∈ xs -> x.cells.length = m) /\
      ∀ (i : Nat) x (j : Nat) y, xs[i]? = some x -> x.cells[j]? = some y -> ∃ u, c[off + i * m + j]? = some u /\ Sees S y u := by
  cases h with
  | pure _ _ h =>
    cases h with
    | lst _ xs' m' a cap he' hcap b off c vals hrow hm hc hs =>
      rw [he] at he'
      simp only [Option.some.injEq, Prod.mk.injEq] at he'
      obtain ⟨rfl, rfl⟩ := he'
      exact ⟨a, cap, b, off, c, rfl, hcap, hrow, hm, fun i x j y h1 h2 => ⟨_, hc i x j y h1 h2, hs i x j y h1 h2⟩⟩
    | _ => simp [AV.elems] at he
  | _ => simp [AV.elems] at he
theorem V.iptr_inv {cs : List AV} (h : V S ρ H (.iptr cs) cv) : ∃ b off c, cv = .pointer (some ⟨b, off, none⟩) /\ S b = some c /\ ∀ (j : Nat) x, cs[j]? = some x -> ∃ u, c[off + j]? = some u /\ Sees S x u := by
  cases h with
  | pure _ _ h =>
    cases h with
    | iptr _ b off c vals hS hc hs => exact ⟨b, off, c, rfl, hS, fun j x hx => ⟨_, hc j x hx, hs j x hx⟩⟩
    | lst _ _ _ _ _ he => simp [AV.elems] at he
theorem V.agg_inv {cs : List AV} (h : V S ρ H (.agg cs) cv) : ∃ vs, cv = .agg vs /\ vs.size = cs.length /\ ∀ (j : Nat) x v, cs[j]? = some x -> vs[j]? = some v -> V S ρ H x v := by
  cases h with
  | pure _ _ h =>
    cases h with
    | agg _ vs hl h => exact ⟨vs, rfl, hl, fun j x v h1 h2 => .pure _ _ (h j x v h1 h2)⟩
    | lst _ _ _ _ _ he => simp [AV.elems] at he
  | agg _ vs hl h => exact ⟨vs, rfl, hl, h⟩
theorem V.tup_inv {cs : List AV} (h : V S ρ H (.tup cs) cv) : ∃ vs, cv = .tuple vs /\ vs.size = cs.length /\ ∀ (j : Nat) x v, cs[j]? = some x -> vs[j]? = some v -> V S ρ H x v := by
  cases h with
  | pure _ _ h =>
    cases h with
    | tup _ vs hl h => exact ⟨vs, rfl, hl, fun j x v h1 h2 => .pure _ _ (h j x v h1 h2)⟩
    | lst _ _ _ _ _ he => simp [AV.elems] at he
  | tup _ vs hl h => exact ⟨vs, rfl, hl, h⟩
theorem V.fn_inv {f : FuncId} {cs : List AV} (h : V S ρ H (.fn f cs) cv) : ∃ vs, cv = .func (.func f) #[] vs /\ vs.size = cs.length /\ ∀ (j : Nat) x v, cs[j]? = some x -> vs[j]? = some v -> V S ρ H x v := by
  cases h with
  | pure _ _ h =>
    cases h with
    | fn _ _ vs hl h => exact ⟨vs, rfl, hl, fun j x v h1 h2 => .pure _ _ (h j x v h1 h2)⟩
    | lst _ _ _ _ _ he => simp [AV.elems] at he
  | fn _ _ vs hl h => exact ⟨vs, rfl, hl, h⟩
theorem V.bnd_inv {f : FuncId} {cs : List AV} (h : V S ρ H (.bnd f cs) cv) : ∃ vs, cv = .func (.func f) vs #[] /\ vs.size = cs.length /\ ∀ (j : Nat) x v, cs[j]? = some x -> vs[j]? = some v -> V S ρ H x v := by
  cases h with
  | pure _ _ h =>
    cases h with
    | bnd _ _ vs hl h => exact ⟨vs, rfl, hl, fun j x v h1 h2 => .pure _ _ (h j x v h1 h2)⟩
    | lst _ _ _ _ _ he => simp [AV.elems] at he
theorem V.sl_inv {r : Nat} (h : V S ρ H (.sl r) cv) : ∃ v xs m a, cv = .slice a xs.length (ρ.cap r) /\ H r = some (.arr v) /\ v.elems = some (xs, m) /\ (ρ.cap r ≠ 0 -> a = some ⟨ρ.blk r 0, 0, none⟩) := by
  cases h with
  | pure _ _ h => cases h with | lst _ _ _ _ _ he => simp [AV.elems] at he
  | sl _ v xs m a hr he ha => exact ⟨v, xs, m, a, rfl, hr, he, ha⟩
theorem V.mt_inv {r : Nat} (h : V S ρ H (.mt r) cv) : ∃ xss a, cv = .slice a xss.length (ρ.cap r) /\ H r = some (.mat xss) /\ (ρ.cap r ≠ 0 -> a = some ⟨ρ.blk r 0, 0, none⟩) := by
  cases h with
  | pure _ _ h => cases h with | lst _ _ _ _ _ he => simp [AV.elems] at he
  | mt _ xss a hr ha => exact ⟨xss, a, rfl, hr, ha⟩
theorem V.mr_inv {r : Nat} {i : Int} (h : V S ρ H (.mr r i) cv) : ∃ xss row, H r = some (.mat xss) /\ 0 <= i /\ xss[i.toNat]? = some row /\ RowAt ρ r i.toNat row cv := by
  cases h with
  | pure _ _ h => cases h with | lst _ _ _ _ _ he => simp [AV.elems] at he
  | mr _ _ xss row _ hr h0 hi h => exact ⟨xss, row, hr, h0, hi, h⟩
theorem V.bx_inv {r off : Nat} (h : V S ρ H (.bx r off) cv) : ∃ cs, cv = .pointer (some ⟨ρ.blk r 0, off, none⟩) /\ H r = some (.box cs) /\ off <= cs.length := by
  cases h with
  | pure _ _ h => cases h with | lst _ _ _ _ _ he => simp [AV.elems] at he
  | bx _ _ cs hr ho => exact ⟨cs, rfl, hr, ho⟩
theorem V.pa_inv {r : Nat} {i : Int} (h : V S ρ H (.pa r i) cv) : ∃ v xs m, cv = .pointer (some ⟨ρ.blk r 0, i.toNat * m, none⟩) /\ H r = some (.arr v) /\ v.elems = some (xs, m) /\ 0 <= i /\ i.toNat < xs.length := by
  cases h with
  | pure _ _ h => cases h with | lst _ _ _ _ _ he => simp [AV.elems] at he
  | pa _ _ v xs m hr he h0 hi => exact ⟨v, xs, m, rfl, hr, he, h0, hi⟩
theorem V.pm_inv {r : Nat} {i j : Int} (h : V S ρ H (.pm r i j) cv) : ∃ xss row, cv = .pointer (some ⟨ρ.blk r (i.toNat + 1), j.toNat, none⟩) /\ H r = some (.mat xss) /\ 0 <= i /\ xss[i.toNat]? = some row /\ 0 <= j /\ j.toNat < row.length := by
  cases h with
  | pure _ _ h => cases h with | lst _ _ _ _ _ he => simp [AV.elems] at he
  | pm _ _ _ xss row hr h0 hi hj0 hj => exact ⟨xss, row, rfl, hr, h0, hi, hj0, hj⟩
theorem V.po_inv {r : Nat} {i : Int} (h : V S ρ H (.po r i) cv) : ∃ xss, cv = .pointer (some ⟨ρ.blk r 0, i.toNat, none⟩) /\ H r = some (.mat xss) /\ 0 <= i /\ i.toNat < xss.length := by
  cases h with
  | pure _ _ h => cases h with | lst _ _ _ _ _ he => simp [AV.elems] at he
  | po _ _ xss hr h0 hi => exact ⟨xss, rfl, hr, h0, hi⟩
end inv
abbrev Env := List (Nat × AV)
def Env.get : Env -> Nat -> AV
  | [], _ => .undef
  | (k, v) :: e, t => if k = t then v else Env.get e t
def cst1 : Value -> AV
  | .int k n => .int k n
  | .bool b => .bool b
  | .string s => .str s
  | .slice _ 0 0 => .nils
  | .nilIface => .nilI
  | _ => .undef
def cst : Value -> AV
  | .agg ⟨cs⟩ => .agg (cs.map cst1)
  | v => cst1 v
def opnd (e : Env) : Operand -> AV
  | .tmp t => e.get t
  | .const v => cst v
  | .func f => .fn f []
  | .global _ => .undef
theorem cst1_v (S : Store) (v : Value) : Sees S (cst1 v) v := by
  unfold cst1
  split
  · exact .int _ _
  · exact .bool _
  · exact .str _
  · exact .nils _
  · exact .nilI
  · exact .undef _
theorem cst_v (S : Store) (ρ : Rho) (H : HF) (v : Value) : V S ρ H (cst v) v := by
  unfold cst
  split
  · rename_i cs
    refine .pure _ _ (.agg _ _ (by simp) (fun j x v hx hv => ?_))
    simp only [List.getElem?_map] at hx
    obtain ⟨u, hu, rfl⟩ := Option.map_eq_some_iff.1 hx
    have : v = u := by simp at hv; rw [hu] at hv; exact (Option.some.inj hv).symm
    subst this
    exact cst1_v S v
  · exact .pure _ _ (cst1_v S v)
def EnvRel (S : Store) (ρ : Rho) (H : HF) (e : Env) (a : Act) : Prop := ∀ t, V S ρ H (e.get t) (a.tmps.getD t Go.undef)
theorem EnvRel.opnd {S : Store} {ρ : Rho} {H : HF} {e : Env} {a : Act} (h : EnvRel S ρ H e a) (x : Operand) : V S ρ H (opnd e x) (a.eval x) := by
  cases x with
  | tmp t => exact h t
  | const v => exact cst_v S ρ H v
  | global g => exact .pure _ _ (.undef _)
  | func f => exact .pure _ _ (.fn f [] #[] rfl (by simp))
def addH (new : Heap) (H : HF) : HF := fun r => match new.look r with | some b => some b | none => H r
def OpOK (P : Program) (own : Nat -> Prop) (o : Oper) (e : Env) (hF : HF) (v : AV) (new : Heap) : Prop :=
  ∀ (S : Store) (ρ : Rho) (H : HF) (a : Act) (w : World), (∀ b, w.heap.size <= b -> own b) -> (∀ r k, H r = some k -> hF r = some k) -> Rel own S ρ H w ->
    (∀ x, x ∈ o.op.operands -> V S ρ H (opnd e x) (a.eval x)) -> (∀ r, new.look r ≠ none -> H r = none) ->
    ∀ (next : Act -> World -> Prop) (Q : Exit -> Act -> World -> Prop),
      (∀ cv S' ρ' w', Grow own S ρ H w S' ρ' (addH new H) w' -> V S' ρ' (addH new H) v cv -> next (a.put o.dst cv) w') -> o.wp P a w next Q
theorem OpOK.ofRun {P : Program} {own : Nat -> Prop} {o : Oper} {e : Env} {hF : HF} {v : AV}
    (h : ∀ (S : Store) (ρ : Rho) (H : HF) (a : Act) (w : World), (∀ r k, H r = some k -> hF r = some k) -> Rel own S ρ H w -> (∀ x, x ∈ o.op.operands -> V S ρ H (opnd e x) (a.eval x)) ->
      ∃ cv, (execOp a.eval o).run P w = .ok (.value cv) w /\ V S ρ H v cv) : OpOK P own o e hF v [] := by
  intro S ρ H a w _ hsub hrel hx _ next Q hK
  obtain ⟨cv, hrun, hv⟩ := h S ρ H a w hsub hrel hx
  unfold Oper.wp
  rw [hrun]
  exact hK cv S ρ w (.refl hrel) hv
end Go.Vc
namespace Go.Vc
open Go.RowKit
def RK (k : IntKind) (n : Int) : Prop := k.min <= n /\ n <= k.max
theorem RK_i64 (n : Int) : RK .i64 n = (-9223372036854775808 <= n /\ n <= 9223372036854775807) := by simp [RK, IntKind.min, IntKind.max, IntKind.signed, IntKind.bits]
theorem RK_u64 (n : Int) : RK .u64 n = (0 <= n /\ n <= 18446744073709551615) := by simp [RK, IntKind.min, IntKind.max, IntKind.signed, IntKind.bits]
theorem RK_u8 (n : Int) : RK .u8 n = (0 <= n /\ n <= 255) := by simp [RK, IntKind.min, IntKind.max, IntKind.signed, IntKind.bits]
theorem wrap_RK {k : IntKind} {n : Int} (h : RK k n) : k.wrap n = n := by
  cases k <;> simp only [RK, IntKind.min, IntKind.max, IntKind.wrap, IntKind.signed, IntKind.bits] at * <;> simp at * <;> (try split) <;> omega
def bitN (op : BinOp) (x y : Nat) : Nat :=
  match op with
  | .and => x &&& y
  | .or => x ||| y
  | .xor => x ^^^ y
  | .andNot => x ^^^ (x &&& y)
  | _ => 0
def arithV (op : BinOp) (a b : AV) : AV :=
  match op, a, b with
  | .add, .int .u64 x, .int _ y => .int .u64 (IntKind.u64.wrap (x + y))
  | .sub, .int .u64 x, .int _ y => .int .u64 (IntKind.u64.wrap (x - y))
  | .mul, .int .u64 x, .int _ y => .int .u64 (IntKind.u64.wrap (x * y))
  | .add, .int k x, .int _ y => .int k (x + y)
  | .sub, .int k x, .int _ y => .int k (x - y)
  | .mul, .int k x, .int _ y => .int k (x * y)
  | .quo, .int k x, .int _ y => .int k (x / y)
  | .rem, .int k x, .int _ y => .int k (x % y)
  | .and, .int k x, .int _ y => .int k (bitN .and x.toNat y.toNat : Nat)
  | .or, .int k x, .int _ y => .int k (bitN .or x.toNat y.toNat : Nat)
  | .xor, .int k x, .int _ y => .int k (bitN .xor x.toNat y.toNat : Nat)
  | .andNot, .int k x, .int _ y => .int k (bitN .andNot x.toNat y.toNat : Nat)
  | .shl, .int k x, .int _ y => .int k (x * 2 ^ y.toNat)
  | .shr, .int k x, .int _ y => .int k (x / 2 ^ y.toNat)
  | .lss, .int _ x, .int _ y => .bool (decide (x < y))
  | .leq, .int _ x, .int _ y => .bool (decide (x <= y))
  | .gtr, .int _ x, .int _ y => .bool (decide (y < x))
  | .geq, .int _ x, .int _ y => .bool (decide (y <= x))
  | .eql, .int _ x, .int _ y => .bool (decide (x = y))
  | .neq, .int _ x, .int _ y => .bool (!decide (x = y))
  | .eql, .bool x, .bool y => .bool (x == y)
  | .neq, .bool x, .bool y => .bool (!(x == y))
  | .add, .str x, .str y => .str (x ++ y)
  | .eql, .str x, .str y => .bool (x.toList == y.toList)
  | .neq, .str x, .str y => .bool (!(x.toList == y.toList))
  | .lss, .str x, .str y => .bool (Op.bytesLess x.toList y.toList)
  | .neq, .agg [.int .i64 a, .int .i64 b], .agg [.int .i64 c, .int .i64 d] => .bool (!(decide (a = c) && decide (b = d)))
  | .eql, .nilI, .nilI => .bool true
  | .neq, .nilI, .nilI => .bool false
  | .eql, .errI, .nilI => .bool false
  | .neq, .errI, .nilI => .bool true
  | _, _, _ => .undef
def pairT (P : Program) (t : TypeId) : Prop := ∃ e, P.underlying t = some (.array 2 e) /\ (P.info? e).isSome = true /\ P.cellsOf e = 1 /\ P.underlying e = some (.int .i64) /\ P.plainKey e = true /\ P.eqGuardType P.depth t = false
def arithP (P : Program) (t : TypeId) (op : BinOp) (a b : AV) : Prop :=
  match op, a, b with
  | .add, .int .u64 _, .int k' _ => k' = .u64
  | .sub, .int .u64 _, .int k' _ => k' = .u64
  | .mul, .int .u64 _, .int k' _ => k' = .u64
  | .add, .int k x, .int k' y => k = k' /\ RK k (x + y)
  | .sub, .int k x, .int k' y => k = k' /\ RK k (x - y)
  | .mul, .int k x, .int k' y => k = k' /\ RK k (x * y)
  | .quo, .int k x, .int k' y => k = k' /\ 0 <= x /\ 0 < y /\ RK k x
  | .rem, .int k x, .int k' y => k = k' /\ 0 <= x /\ 0 < y
  | .and, .int k x, .int k' y => k = k' /\ (0 <= x /\ RK k x) /\ 0 <= y /\ RK k y
  | .or, .int k x, .int k' y => k = k' /\ (0 <= x /\ RK k x) /\ 0 <= y /\ RK k y
  | .xor, .int k x, .int k' y => k = k' /\ (0 <= x /\ RK k x) /\ 0 <= y /\ RK k y
  | .andNot, .int k x, .int k' y => k = k' /\ (0 <= x /\ RK k x) /\ 0 <= y /\ RK k y
  | .shl, .int k x, .int _ y => (0 <= y /\ y.toNat <= k.bits) /\ RK k (x * 2 ^ y.toNat)
  | .shr, .int k x, .int _ y => (0 <= y /\ y.toNat <= k.bits)
  | .lss, .int k _, .int k' _ => k = k'
  | .leq, .int k _, .int k' _ => k = k'
  | .gtr, .int k _, .int k' _ => k = k'
  | .geq, .int k _, .int k' _ => k = k'
  | .eql, .int k _, .int k' _ => k = k'
  | .neq, .int k _, .int k' _ => k = k'
  | .eql, .bool _, .bool _ => P.underlying t = some .bool
  | .neq, .bool _, .bool _ => P.underlying t = some .bool
  | .add, .str x, .str y => x.size + y.size <= 9223372036854775807
  | .eql, .str _, .str _ => True
  | .neq, .str _, .str _ => True
  | .lss, .str _, .str _ => True
  | .neq, .agg [.int .i64 _, .int .i64 _], .agg [.int .i64 _, .int .i64 _] => pairT P t
  | _, _, _ => False
theorem ofInt_toNat {n : Nat} {x : Int} (h0 : 0 <= x) (h : x < 2 ^ n) : (BitVec.ofInt n x).toNat = x.toNat := by
  rw [BitVec.toNat_ofInt]
  rw [Int.emod_eq_of_lt h0 (by exact_mod_cast h)]
theorem bits_lt {k : IntKind} {x : Int} (h0 : 0 <= x) (h : RK k x) : x < 2 ^ k.bits := by
  cases k <;> simp [RK, IntKind.max, IntKind.signed, IntKind.bits] at * <;> omega
theorem RK_small {k : IntKind} {x : Int} (h0 : 0 <= x) (n : Nat) (hn : (n : Int) <= x) (h : RK k x) : RK k n := by
  cases k <;> simp [RK, IntKind.max, IntKind.min, IntKind.signed, IntKind.bits] at * <;> omega
section
variable {P : Program} {w : World}
theorem RK_lt2 {k : IntKind} {x : Int} (h0 : 0 <= x) (h : RK k x) : x.toNat < 2 ^ (if k.signed then k.bits - 1 else k.bits) := by
  cases k <;> simp [RK, IntKind.max, IntKind.min, IntKind.signed, IntKind.bits] at * <;> omega
theorem RK_of_lt2 {k : IntKind} {n : Nat} (h : n < 2 ^ (if k.signed then k.bits - 1 else k.bits)) : RK k n := by
  cases k <;> simp [RK, IntKind.max, IntKind.min, IntKind.signed, IntKind.bits] at * <;> omega
theorem run_bits (op : BinOp) (hop : op = .and \/ op = .or \/ op = .xor \/ op = .andNot) {k : IntKind} {x y : Int} (hx : 0 <= x) (hxk : RK k x) (hy : 0 <= y) (hyk : RK k y) :
    (Op.intBits op k x y).run P w = .ok (.int k (bitN op x.toNat y.toNat : Nat)) w := by
  have ex := ofInt_toNat hx (bits_lt hx hxk)
  have ey := ofInt_toNat hy (bits_lt hy hyk)
  have lx := RK_lt2 hx hxk
  have ly := RK_lt2 hy hyk
  rcases hop with rfl | rfl | rfl | rfl
  · have e : (BitVec.ofInt k.bits x &&& BitVec.ofInt k.bits y).toNat = x.toNat &&& y.toNat := by rw [BitVec.toNat_and, ex, ey]
    simp only [Op.intBits, Sem.run_pure, e, bitN]
    rw [wrap_RK (RK_of_lt2 (Nat.and_lt_two_pow _ ly))]
  · have e : (BitVec.ofInt k.bits x ||| BitVec.ofInt k.bits y).toNat = x.toNat ||| y.toNat := by rw [BitVec.toNat_or, ex, ey]
    simp only [Op.intBits, Sem.run_pure, e, bitN]
    rw [wrap_RK (RK_of_lt2 (Nat.or_lt_two_pow lx ly))]
  · have e : (BitVec.ofInt k.bits x ^^^ BitVec.ofInt k.bits y).toNat = x.toNat ^^^ y.toNat := by rw [BitVec.toNat_xor, ex, ey]
    simp only [Op.intBits, Sem.run_pure, e, bitN]
    rw [wrap_RK (RK_of_lt2 (Nat.xor_lt_two_pow lx ly))]
  · have e : (BitVec.ofInt k.bits x &&& ~~~BitVec.ofInt k.bits y).toNat = x.toNat ^^^ (x.toNat &&& y.toNat) := by
      have : BitVec.ofInt k.bits x &&& ~~~BitVec.ofInt k.bits y = BitVec.ofInt k.bits x ^^^ (BitVec.ofInt k.bits x &&& BitVec.ofInt k.bits y) := by
        ext i hi
        simp
        cases (BitVec.ofInt k.bits x)[i] <;> cases (BitVec.ofInt k.bits y)[i] <;> rfl
      rw [this, BitVec.toNat_xor, BitVec.toNat_and, ex, ey]
    simp only [Op.intBits, Sem.run_pure, e, bitN]
    rw [wrap_RK (RK_of_lt2 (Nat.xor_lt_two_pow lx (Nat.and_lt_two_pow _ ly)))]
theorem run_shift {op : BinOp} {k yk : IntKind} {x y : Int} (hy : 0 <= y) (hb : y.toNat <= k.bits) :
    (op = .shl -> RK k (x * 2 ^ y.toNat) -> (Op.shift op k x yk y).run P w = .ok (.int k (x * 2 ^ y.toNat)) w) /\
    (op = .shr -> (Op.shift op k x yk y).run P w = .ok (.int k (x / 2 ^ y.toNat)) w) := by
  have h1 : ¬ y < 0 := by omega
  constructor
  · rintro rfl h
    simp [Op.shift, h1, Nat.min_eq_left hb, wrap_RK h]
  · rintro rfl
    simp only [Op.shift, h1, if_false, Nat.min_eq_left hb, Sem.run_pure]
    rw [Int.fdiv_eq_ediv_of_nonneg _ (by exact_mod_cast Nat.zero_le _)]
end
end Go.Vc
namespace Go.Vc
open Go.RowKit
section
variable {P : Program} {S : Store} {ρ : Rho} {H : HF} {w : World}
theorem v_int (k n) : V S ρ H (.int k n) (.int k n) := .pure _ _ (.int _ _)
theorem v_bool (b) : V S ρ H (.bool b) (.bool b) := .pure _ _ (.bool _)
theorem v_str (b) : V S ρ H (.str b) (.string b) := .pure _ _ (.str _)
theorem run_binOp_int (op : BinOp) (t : TypeId) (k : IntKind) (x y : Int) (hs : op ≠ .shl) (hr : op ≠ .shr) : (binOp op t (.int k x) (.int k y)).run P w =
    (match op with
    | .add | .sub | .mul => Op.intArith op k x y
    | .quo | .rem => Op.intDiv op k x y
    | .and | .or | .xor | .andNot => Op.intBits op k x y
    | _ => Op.intCmp op x y : Sem Value).run P w := by
  cases op <;> first | (exact (hs rfl).elim) | (exact (hr rfl).elim) | simp [binOp]
theorem run_binOp_string (op : BinOp) (t : TypeId) (x y : ByteArray) : (binOp op t (.string x) (.string y)).run P w = (Op.stringOp op x y).run P w := by
  cases op <;> rfl
theorem run_eq_pair {t : TypeId} (h : pairT P t) {vs us : Array Value} {a b c d : Int} (h0 : vs[0]? = some (.int .i64 a)) (h1 : vs[1]? = some (.int .i64 b)) (g0 : us[0]? = some (.int .i64 c)) (g1 : us[1]? = some (.int .i64 d)) :
    (Op.equalIn 10000 t (.agg vs) (.agg us)).run P w = .ok (decide (a = c) && decide (b = d)) w := by
  obtain ⟨e, hu, hi, hc, he, hp, _⟩ := h
  obtain ⟨i, hi⟩ := Option.isSome_iff_exists.1 hi
  rw [run_equalIn_array w 9999 vs us hu hi, hc, show List.range 2 = [0, 1] from rfl]
  simp only [Op.eqItems, Sem.run_bind, Nat.zero_mul, Nat.one_mul, run_part_plain w hp h0, run_part_plain w hp h1, run_part_plain w hp g0, run_part_plain w hp g1, Result.andThen_ok, run_equalIn_int w 9998 e .i64 .i64 _ _ he, Sem.run_ite, Sem.run_pure]
  by_cases h2 : a = c <;> by_cases h3 : b = d <;> simp [h2, h3]
theorem binOp_ok {t : TypeId} {op : BinOp} {a b : AV} {va vb : Value} (h : arithP P t op a b) (ha : V S ρ H a va) (hb : V S ρ H b vb) :
    ∃ cv, (binOp op t va vb).run P w = .ok cv w /\ V S ρ H (arithV op a b) cv := by
  unfold arithP at h
  split at h
  · subst h; rw [ha.int_inv, hb.int_inv, run_binOp_int _ _ _ _ _ (by simp) (by simp)]; exact ⟨_, by simp [Op.intArith]; rfl, by simp [arithV]; exact v_int _ _⟩
  · subst h; rw [ha.int_inv, hb.int_inv, run_binOp_int _ _ _ _ _ (by simp) (by simp)]; exact ⟨_, by simp [Op.intArith]; rfl, by simp [arithV]; exact v_int _ _⟩
  · subst h; rw [ha.int_inv, hb.int_inv, run_binOp_int _ _ _ _ _ (by simp) (by simp)]; exact ⟨_, by simp [Op.intArith]; rfl, by simp [arithV]; exact v_int _ _⟩
  · rename_i k x k' y hk; obtain ⟨rfl, h⟩ := h; rw [ha.int_inv, hb.int_inv, run_binOp_int _ _ _ _ _ (by simp) (by simp)]
    refine ⟨_, by simp [Op.intArith]; rfl, ?_⟩
    rw [wrap_RK h]; cases k <;> first | exact v_int _ _ | exact (hk rfl).elim
  · rename_i k x k' y hk; obtain ⟨rfl, h⟩ := h; rw [ha.int_inv, hb.int_inv, run_binOp_int _ _ _ _ _ (by simp) (by simp)]
    refine ⟨_, by simp [Op.intArith]; rfl, ?_⟩
    rw [wrap_RK h]; cases k <;> first | exact v_int _ _ | exact (hk rfl).elim
  · rename_i k x k' y hk; obtain ⟨rfl, h⟩ := h; rw [ha.int_inv, hb.int_inv, run_binOp_int _ _ _ _ _ (by simp) (by simp)]
    refine ⟨_, by simp [Op.intArith]; rfl, ?_⟩
    rw [wrap_RK h]; cases k <;> first | exact v_int _ _ | exact (hk rfl).elim
  · rename_i k x k' y; obtain ⟨rfl, h0, h1, h2⟩ := h; rw [ha.int_inv, hb.int_inv, run_binOp_int _ _ _ _ _ (by simp) (by simp)]
    have hy : y ≠ 0 := by omega
    have hq : RK k (x / y) := by
      have h3 : 0 <= x / y := Int.ediv_nonneg h0 (by omega)
      have h4 : x / y <= x := Int.ediv_le_self _ h0
      have := RK_small h0 (x / y).toNat (by omega) h2
      rwa [Int.toNat_of_nonneg h3] at this
    refine ⟨.int k (x / y), ?_, v_int _ _⟩
    simp only [Op.intDiv, hy, if_false, Sem.run_pure]
    rw [Int.tdiv_eq_ediv_of_nonneg h0, wrap_RK hq]
  · rename_i k x k' y; obtain ⟨rfl, h0, h1⟩ := h; rw [ha.int_inv, hb.int_inv, run_binOp_int _ _ _ _ _ (by simp) (by simp)]
    have hy : y ≠ 0 := by omega
    refine ⟨.int k (x % y), ?_, v_int _ _⟩
    simp only [Op.intDiv, hy, if_false, Sem.run_pure]
    rw [Int.tmod_eq_emod_of_nonneg h0]
  · rename_i k x k' y; obtain ⟨rfl, ⟨h0, h1⟩, h2, h3⟩ := h; rw [ha.int_inv, hb.int_inv, run_binOp_int _ _ _ _ _ (by simp) (by simp)]
    exact ⟨_, run_bits .and (by simp) h0 h1 h2 h3, v_int _ _⟩
  · rename_i k x k' y; obtain ⟨rfl, ⟨h0, h1⟩, h2, h3⟩ := h; rw [ha.int_inv, hb.int_inv, run_binOp_int _ _ _ _ _ (by simp) (by simp)]
    exact ⟨_, run_bits .or (by simp) h0 h1 h2 h3, v_int _ _⟩
  · rename_i k x k' y; obtain ⟨rfl, ⟨h0, h1⟩, h2, h3⟩ := h; rw [ha.int_inv, hb.int_inv, run_binOp_int _ _ _ _ _ (by simp) (by simp)]
    exact ⟨_, run_bits .xor (by simp) h0 h1 h2 h3, v_int _ _⟩
  · rename_i k x k' y; obtain ⟨rfl, ⟨h0, h1⟩, h2, h3⟩ := h; rw [ha.int_inv, hb.int_inv, run_binOp_int _ _ _ _ _ (by simp) (by simp)]
    exact ⟨_, run_bits .andNot (by simp) h0 h1 h2 h3, v_int _ _⟩
  · rename_i k x k' y; obtain ⟨⟨h0, h1⟩, h2⟩ := h; rw [ha.int_inv, hb.int_inv]
    exact ⟨_, (run_shift (P := P) (w := w) (op := .shl) (yk := k') h0 h1).1 rfl h2, v_int _ _⟩
  · rename_i k x k' y; obtain ⟨h0, h1⟩ := h; rw [ha.int_inv, hb.int_inv]
    exact ⟨_, (run_shift (P := P) (w := w) (op := .shr) (yk := k') (k := k) (x := x) h0 h1).2 rfl, v_int _ _⟩
  · subst h; rw [ha.int_inv, hb.int_inv, run_binOp_int _ _ _ _ _ (by simp) (by simp)]; exact ⟨_, by simp [Op.intCmp]; rfl, by simp [arithV]; exact v_bool _⟩
  · subst h; rw [ha.int_inv, hb.int_inv, run_binOp_int _ _ _ _ _ (by simp) (by simp)]; exact ⟨_, by simp [Op.intCmp]; rfl, by simp [arithV]; exact v_bool _⟩
  · subst h; rw [ha.int_inv, hb.int_inv, run_binOp_int _ _ _ _ _ (by simp) (by simp)]; exact ⟨_, by simp [Op.intCmp]; rfl, by simp [arithV]; exact v_bool _⟩
  · subst h; rw [ha.int_inv, hb.int_inv, run_binOp_int _ _ _ _ _ (by simp) (by simp)]; exact ⟨_, by simp [Op.intCmp]; rfl, by simp [arithV]; exact v_bool _⟩
  · subst h; rw [ha.int_inv, hb.int_inv, run_binOp_int _ _ _ _ _ (by simp) (by simp)]; exact ⟨_, by simp [Op.intCmp]; rfl, by simp only [arithV]; exact v_bool _⟩
  · rename_i x _ y; subst h; rw [ha.int_inv, hb.int_inv, run_binOp_int _ _ _ _ _ (by simp) (by simp)]; refine ⟨.bool (x != y), by simp [Op.intCmp], ?_⟩
    simp only [arithV]; have : (x != y) = !decide (x = y) := by rw [bne]; congr 1
    rw [this]; exact v_bool _
  · rw [ha.bool_inv, hb.bool_inv]; exact ⟨_, run_eql_bool w t _ _ h, v_bool _⟩
  · rw [ha.bool_inv, hb.bool_inv]; exact ⟨_, run_neq_bool w t _ _ h, v_bool _⟩
  · rename_i x y; rw [ha.str_inv, hb.str_inv, run_binOp_string]
    refine ⟨.string (x ++ y), ?_, v_str _⟩
    have : ¬ ((x.size + y.size : Nat) : Int) > IntKind.i64.max := by simp [IntKind.max, IntKind.signed, IntKind.bits]; omega
    simp only [Op.stringOp, this, if_false, Sem.run_pure]
  · rw [ha.str_inv, hb.str_inv, run_binOp_string]; exact ⟨_, by simp [Op.stringOp]; rfl, by simp only [arithV]; exact v_bool _⟩
  · rw [ha.str_inv, hb.str_inv, run_binOp_string]; exact ⟨_, by simp [Op.stringOp]; rfl, by simp only [arithV]; exact v_bool _⟩
  · rw [ha.str_inv, hb.str_inv, run_binOp_string]; exact ⟨_, by simp [Op.stringOp]; rfl, by simp only [arithV]; exact v_bool _⟩
  · obtain ⟨vs, rfl, hl, hv⟩ := ha.agg_inv
    obtain ⟨us, rfl, hl', hv'⟩ := hb.agg_inv
    have gt : ∀ {vs : Array Value} {x y : Int}, vs.size = 2 -> (∀ (j : Nat) z v, [AV.int .i64 x, AV.int .i64 y][j]? = some z -> vs[j]? = some v -> V S ρ H z v) -> vs[0]? = some (.int .i64 x) /\ vs[1]? = some (.int .i64 y) := fun {vs x y} hs hz => by
      have e0 : vs[0]? = some vs[0] := by simp [hs]
      have e1 : vs[1]? = some vs[1] := by simp [hs]
      have k0 := (hz 0 _ _ rfl e0).int_inv
      have k1 := (hz 1 _ _ rfl e1).int_inv
      rw [e0, e1, k0, k1]; exact ⟨rfl, rfl⟩
    obtain ⟨p0, p1⟩ := gt hl hv
    obtain ⟨q0, q1⟩ := gt hl' hv'
    exact ⟨_, by rw [run_neq_struct, run_eq_pair h p0 p1 q0 q1]; rfl, v_bool _⟩
  · exact h.elim
theorem eqGuard_ok {t : TypeId} {op : BinOp} {a b : AV} {va vb : Value} (x y : Operand) (h : arithP P t op a b) (ha : V S ρ H a va) (hb : V S ρ H b vb) :
    (eqGuard op t x y va vb).run P w = .ok () w := by
  have key : ∀ va vb : Value, (va ≠ .nilIface) -> (∀ c, va ≠ .agg c) -> (eqGuard op t x y va vb).run P w = .ok () w := by
    intro va vb h1 h2
    unfold eqGuard
    cases va <;> first | (exact (h1 rfl).elim) | (exact (h2 _ rfl).elim) | (cases op <;> simp)
  have hv : (∃ k n, a = .int k n) \/ (∃ b, a = .bool b) \/ (∃ s, a = .str s) \/ (∃ cs ds, (a = .agg cs /\ b = .agg ds) /\ P.eqGuardType P.depth t = false) := by
    unfold arithP at h
    split at h <;> first | exact .inl ⟨_, _, rfl⟩ | exact .inr (.inl ⟨_, rfl⟩) | exact .inr (.inr (.inl ⟨_, rfl⟩)) | exact .inr (.inr (.inr ⟨_, _, ⟨rfl, rfl⟩, (by obtain ⟨_, _, _, _, _, _, hg⟩ := h; exact hg)⟩)) | exact h.elim
  rcases hv with ⟨k, n, rfl⟩ | ⟨b, rfl⟩ | ⟨s, rfl⟩ | ⟨cs, ds, ⟨rfl, rfl⟩, hg⟩
  · rw [ha.int_inv]; exact key _ _ (by simp) (by simp)
  · rw [ha.bool_inv]; exact key _ _ (by simp) (by simp)
  · rw [ha.str_inv]; exact key _ _ (by simp) (by simp)
  · obtain ⟨vs, rfl, _⟩ := ha.agg_inv
    obtain ⟨us, rfl, _⟩ := hb.agg_inv
    exact run_eqGuard_agg w op t x y vs us hg
end
end Go.Vc
namespace Go.Vc
open Go.RowKit
inductive TD where
  | one
  | agg (n : Nat)
  | bad
def td (P : Program) (t : TypeId) : TD :=
  match P.underlying t, P.info? t with
  | some (.struct _), some i => .agg i.size
  | some (.array _ _), some i => .agg i.size
  | some _, some i => bif i.size == 1 then .one else .bad
  | _, _ => .bad
def ed (P : Program) (t : TypeId) : Option (Option Nat × Nat) :=
  match P.underlying t with
  | some (.slice e) => (P.info? e).map fun i => (none, i.size)
  | some (.array n e) => (P.info? e).map fun i => (some n, i.size)
  | _ => none
def fd (P : Program) (t : TypeId) (f : Nat) : Option (Nat × TD) :=
  match P.underlying t with
  | some (.struct fs) => match fs[f]? with
    | some x => (match P.info? x.type with | some i => if i.size = 0 then none else some (x.offset, td P x.type) | none => none)
    | none => none
  | _ => none
def blkOf (h : Heap) : AV -> Option Blk
  | .sl r => h.look r
  | .mt r => h.look r
  | .mr r _ => h.look r
  | .bx r _ => h.look r
  | .pa r _ => h.look r
  | .pm r _ _ => h.look r
  | .po r _ => h.look r
  | _ => none
def loadV (d : TD) (k : Option Blk) (p : AV) : AV :=
  match d, p, k with
  | .one, .iptr (c :: _), _ => c
  | .agg n, .iptr cs, _ => .agg (cs.take n)
  | .one, .bx _ off, some (.box cs) => cs.getD off .undef
  | .agg n, .bx _ off, some (.box cs) => .agg ((cs.drop off).take n)
  | .one, .pa _ i, some (.arr v) => elemAt v i
  | .agg _, .pa _ i, some (.arr v) => elemAt v i
  | .one, .pm _ i j, some (.mat xss) => .int .i64 (ix (ix xss i) j)
  | .one, .po r i, some (.mat _) => .mr r i
  | _, _, _ => .undef
def isAgg1 : AV -> Bool
  | .agg _ => true
  | _ => false
def loadP (d : TD) (k : Option Blk) (p : AV) : Prop :=
  match d, p, k with
  | .one, .iptr (_ :: _), _ => True
  | .agg n, .iptr cs, _ => n <= cs.length
  | .one, .bx _ off, some (.box cs) => off < cs.length
  | .agg n, .bx _ off, some (.box cs) => off + n <= cs.length
  | .one, .pa _ i, some (.arr v) => isAgg1 (elemAt v i) = false
  | .agg n, .pa _ i, some (.arr (.pairs _)) => n = 2
  | .one, .pm _ _ _, some (.mat _) => True
  | .one, .po _ _, some (.mat _) => True
  | _, _, _ => False
def widthOf : AV -> Nat
  | .pairs _ => 2
  | _ => 1
def idxV (d : Option (Option Nat × Nat)) (x i : AV) : AV :=
  match d, x, i with
  | some (none, _), .sl r, .int _ i => .pa r i
  | some (none, _), .mt r, .int _ i => .po r i
  | some (none, _), .mr r i', .int _ i => .pm r i' i
  | some (some _, m), .iptr cs, .int _ i => .iptr (cs.drop (i.toNat * m))
  | some (none, _), v, .int _ i => .iptr (elemAt v i).cells
  | _, _, _ => .undef
def isLst : AV -> Bool
  | .ints _ | .rows _ | .strs _ | .bools _ | .pairs _ | .bytes _ => true
  | _ => false
def idxP (d : Option (Option Nat × Nat)) (k : Option Blk) (x i : AV) : Prop :=
  match d, x, i, k with
  | some (none, m), .sl _, .int _ i, some (.arr v) => (0 <= i /\ i < lenOf v) /\ widthOf v = m
  | some (none, m), .mt _, .int _ i, some (.mat xss) => (0 <= i /\ i < xss.length) /\ m = 1
  | some (none, m), .mr _ i', .int _ i, some (.mat xss) => (0 <= i /\ i < (ix xss i').length) /\ m = 1
  | some (some n, m), .iptr cs, .int _ i, _ => (0 <= i /\ i < n) /\ n * m <= cs.length
  | some (none, m), v, .int _ i, _ => isLst v = true /\ (0 <= i /\ i < lenOf v) /\ widthOf v = m
  | _, _, _, _ => False
theorem add_none (b o n : Nat) : Addr.add ⟨b, o, none⟩ n = ⟨b, o + n, none⟩ := by
  unfold Addr.add; split
  · subst n; rfl
  · rfl
theorem lst_elems {v : AV} (h : isLst v = true) : ∃ xs, v.elems = some (xs, widthOf v) := by
  cases v <;> first | exact ⟨_, rfl⟩ | simp [isLst] at h
section
variable {P : Program} {S : Store} {ρ : Rho} {H : HF} {w : World} {own : Nat -> Prop}
theorem run_isAgg_one {t : TypeId} (h : td P t = .one) : (isAgg t).run P w = .ok false w /\ (P.info? t).map (·.size) = some 1 := by
  unfold td at h
  split at h <;> first | cases h | skip
  rename_i d i h1 h2 hu hi
  constructor
  · simp only [isAgg, Sem.run_bind, run_underlying hu, Result.andThen_ok]
    cases d <;> first | rfl | (exact (h1 _ rfl).elim) | (exact (h2 _ _ rfl).elim)
  · cases hs : i.size == 1 with
    | true => simp [hi]; simpa using hs
    | false => rw [hs] at h; cases h
theorem run_isAgg_agg {t : TypeId} {n : Nat} (h : td P t = .agg n) : (isAgg t).run P w = .ok true w /\ (sizeOf t).run P w = .ok n w := by
  unfold td at h
  split at h <;> first | cases h | skip
  · rename_i hu hi
    exact ⟨by simp [isAgg, run_underlying hu], by simp [sizeOf, typeInfo, hi]⟩
  · rename_i hu hi
    exact ⟨by simp [isAgg, run_underlying hu], by simp [sizeOf, typeInfo, hi]⟩
  · rename_i i _ _ _ _
    cases hs : i.size == 1 <;> rw [hs] at h <;> cases h
theorem run_loadVar_one {t : TypeId} (h : td P t = .one) {a : Addr} {u : Value} (hc : w.cell? a = some u) : (loadVar t a).run P w = .ok u w := by
  simp only [loadVar, Sem.run_bind, (run_isAgg_one h).1, Result.andThen_ok, Bool.false_eq_true, if_false, run_load, hc]
theorem run_loadVar_agg {t : TypeId} {n : Nat} (h : td P t = .agg n) {a : Addr} (us : List Value) (hl : us.length = n) (hc : ∀ (j : Nat) v, us[j]? = some v -> w.cell? (a.add j) = some v) :
    (loadVar t a).run P w = .ok (.agg us.toArray) w := by
  subst hl
  simp only [loadVar, Sem.run_bind, (run_isAgg_agg h).1, (run_isAgg_agg h).2, Result.andThen_ok, if_true, run_loadCells_list w a us hc, Sem.run_pure]
theorem Rel.cellS (hr : Rel own S ρ H w) {b : Nat} {c : Array Value} (hS : S b = some c) (o : Nat) : w.cell? ⟨b, o, none⟩ = c[o]? := (hr.stab b c hS).cell o
theorem gather {R : AV -> Value -> Prop} (cs : List AV) (f : Nat -> Option Value) (h : ∀ (j : Nat) x, cs[j]? = some x -> ∃ u, f j = some u /\ R x u) :
    ∃ us : List Value, us.length = cs.length /\ (∀ (j : Nat) v, us[j]? = some v -> f j = some v) /\ ∀ (j : Nat) x v, cs[j]? = some x -> us[j]? = some v -> R x v := by
  refine ⟨(List.range cs.length).map fun j => (f j).getD Go.undef, by simp, fun j v hv => ?_, fun j x v hx hv => ?_⟩
  · have hj : j < cs.length := by
      have := (List.getElem?_eq_some_iff.1 hv).1; simpa using this
    obtain ⟨u, hu, _⟩ := h j cs[j] (by simp [hj])
    simp [hj] at hv
    rw [hu] at hv ⊢
    simp at hv
    rw [hv]
  · have hj : j < cs.length := (List.getElem?_eq_some_iff.1 hx).1
    obtain ⟨u, hu, hR⟩ := h j x hx
    simp [hj, hu] at hv
    rw [<- hv]; exact hR
theorem load_ok {t : TypeId} {p : AV} {vp : Value} {h : Heap} {hF : HF} (hle : ∀ r k, h.look r = some k -> hF r = some k) (hsub : ∀ r k, H r = some k -> hF r = some k)
    (hrel : Rel own S ρ H w) (hp : loadP (td P t) (blkOf h p) p) (hv : V S ρ H p vp) :
    ∃ cv, (Instr.loadAt t vp).run P w = .ok cv w /\ V S ρ H (loadV (td P t) (blkOf h p) p) cv := by
  have same : ∀ {r : Nat} {k k' : Blk}, h.look r = some k -> H r = some k' -> k = k' := fun h1 h2 => by
    have e1 := hle _ _ h1; have e2 := hsub _ _ h2; rw [e1] at e2; exact Option.some.inj e2
  generalize hd : td P t = d at *
  unfold loadP at hp
  split at hp
  · rename_i c cs
    obtain ⟨b, off, cc, rfl, hS, hcs⟩ := hv.iptr_inv
    obtain ⟨u, hu, hs⟩ := hcs 0 c rfl
    refine ⟨u, ?_, .pure _ _ hs⟩
    simp only [Instr.loadAt, Instr.sureAddr, Sem.run_bind, Sem.run_pure, Result.andThen_ok]
    exact run_loadVar_one hd (by rw [hrel.cellS hS]; simpa using hu)
  · rename_i n cs
    obtain ⟨b, off, cc, rfl, hS, hcs⟩ := hv.iptr_inv
    obtain ⟨us, hl, h1, h2⟩ := gather (cs.take n) (fun j => cc[off + j]?) (fun j x hx => hcs j x (by rw [List.getElem?_take] at hx; split at hx <;> simp_all))
    refine ⟨.agg us.toArray, ?_, ?_⟩
    · simp only [Instr.loadAt, Instr.sureAddr, Sem.run_bind, Sem.run_pure, Result.andThen_ok]
      exact run_loadVar_agg hd us (by rw [hl]; simp; omega) (fun j v hv => by rw [add_none, hrel.cellS hS]; exact h1 j v hv)
    · exact .pure _ _ (.agg _ _ (by show us.length = _; simpa using hl) (fun j x v hx hv => h2 j x v hx (by simpa using hv)))
  · rename_i r off cs hk
    have hk' : h.look r = _ := hk
    rw [hk]
    obtain ⟨cs', rfl, hr, ho⟩ := hv.bx_inv
    obtain ⟨c, ⟨el, hc⟩, hsz, hcell⟩ := hrel.blk _ _ hr
    obtain rfl : cs = cs' := by have := same hk' hr; simpa using this
    have hx : cs[off]? = some (cs.getD off .undef) := by simp [hp]
    have hu : c[off]? = some c[off] := by simp [hsz, hp]
    refine ⟨c[off]'(by omega), ?_, hcell _ _ _ hx hu⟩
    simp only [Instr.loadAt, Instr.sureAddr, Sem.run_bind, Sem.run_pure, Result.andThen_ok]
    exact run_loadVar_one hd (by rw [CellsIn.cell ⟨el, _, hc⟩]; exact hu)
  · rename_i n r off cs hk
    have hk' : h.look r = _ := hk
    rw [hk]
    obtain ⟨cs', rfl, hr, ho⟩ := hv.bx_inv
    obtain ⟨c, ⟨el, hc⟩, hsz, hcell⟩ := hrel.blk _ _ hr
    obtain rfl : cs = cs' := by have := same hk' hr; simpa using this
    obtain ⟨us, hl, h1, h2⟩ := gather (R := V S ρ H) ((cs.drop off).take n) (fun j => c[off + j]?) (fun j x hx => by
      have hx' : cs[off + j]? = some x := by rw [List.getElem?_take] at hx; split at hx <;> simp_all
      have hj : off + j < c.size := by rw [hsz]; exact (List.getElem?_eq_some_iff.1 hx').1
      exact ⟨c[off + j], by simp [hj], hcell _ _ _ hx' (by simp [hj])⟩)
    refine ⟨.agg us.toArray, ?_, ?_⟩
    · simp only [Instr.loadAt, Instr.sureAddr, Sem.run_bind, Sem.run_pure, Result.andThen_ok]
      exact run_loadVar_agg hd us (by rw [hl]; simp; omega) (fun j v hv => by rw [add_none, CellsIn.cell ⟨el, _, hc⟩]; exact h1 j v hv)
    · exact .agg _ _ (by show us.length = _; simpa using hl) (fun j x v hx hv => h2 j x v hx (by simpa using hv))
  · rename_i r i v hk
    have hk' : h.look r = _ := hk
    rw [hk]
    obtain ⟨v', xs, m, rfl, hr, he, h0, hi⟩ := hv.pa_inv
    obtain ⟨xs', m', c, he', hc, hcs, hcap, hm, hcell⟩ := hrel.blk _ _ hr
    obtain rfl : v = v' := by have := same hk' hr; simpa using this
    rw [he] at he'; simp only [Option.some.injEq, Prod.mk.injEq] at he'; obtain ⟨rfl, rfl⟩ := he'
    have hx := elems_at he hi
    have hcells : (elemAt v i).cells = [elemAt v i] := by cases h : elemAt v i <;> simp_all [AV.cells, isAgg1]
    obtain ⟨u, hu, hs⟩ := hcell _ _ 0 (elemAt v i) hx (by rw [hcells]; rfl)
    obtain ⟨el, hc⟩ := hc (by omega)
    refine ⟨u, ?_, .pure _ _ hs⟩
    simp only [Instr.loadAt, Instr.sureAddr, Sem.run_bind, Sem.run_pure, Result.andThen_ok]
    exact run_loadVar_one hd (by rw [CellsIn.cell ⟨el, _, hc⟩]; simpa using hu)
  · rename_i n r i ps hk
    have hk' : h.look r = _ := hk
    rw [hk]
    obtain ⟨v', xs, m, rfl, hr, he, h0, hi⟩ := hv.pa_inv
    obtain ⟨xs', m', c, he', hc, hcs, hcap, hm, hcell⟩ := hrel.blk _ _ hr
    obtain rfl : AV.pairs ps = v' := by have := same hk' hr; simpa using this
    rw [he] at he'; simp only [Option.some.injEq, Prod.mk.injEq] at he'; obtain ⟨rfl, rfl⟩ := he'
    have hx := elems_at he hi
    obtain ⟨el, hc⟩ := hc (by omega)
    obtain ⟨us, hl, h1, h2⟩ := gather (R := Sees S) (elemAt (.pairs ps) i).cells (fun j => c[i.toNat * m + j]?) (fun j x hx' => hcell _ _ j x hx hx')
    subst hp
    refine ⟨.agg us.toArray, ?_, ?_⟩
    · simp only [Instr.loadAt, Instr.sureAddr, Sem.run_bind, Sem.run_pure, Result.andThen_ok]
      exact run_loadVar_agg hd us (by rw [hl]; rfl) (fun j v hv => by rw [add_none, CellsIn.cell ⟨el, _, hc⟩]; exact h1 j v hv)
    · exact .pure _ _ (.agg _ _ (by show us.length = _; rw [hl]; rfl) (fun j x v hx hv => h2 j x v hx (by simpa using hv)))
  · rename_i r i j xss hk
    have hk' : h.look r = _ := hk
    rw [hk]
    obtain ⟨xss', row, rfl, hr, h0, hi, hj0, hj⟩ := hv.pm_inv
    obtain rfl : xss = xss' := by have := same hk' hr; simpa using this
    obtain ⟨c, _, _, _, hrows⟩ := hrel.blk _ _ hr
    obtain ⟨d, ⟨el, hd'⟩, _, hdc⟩ := (hrows _ _ hi).2 (let ⟨⟨_, _, hra⟩, _⟩ := hrows _ _ hi; hra.rcap_ne hj)
    have hx := ix_get hj
    have e : ix xss i = row := by have := ix_get (List.getElem?_eq_some_iff.1 hi).1; rw [hi] at this; exact (Option.some.inj this).symm
    refine ⟨_, ?_, v_int _ _⟩
    simp only [Instr.loadAt, Instr.sureAddr, Sem.run_bind, Sem.run_pure, Result.andThen_ok]
    exact run_loadVar_one hd (by rw [CellsIn.cell ⟨el, _, hd'⟩, hdc _ _ hx, e])
  · rename_i r i xss hk
    have hk' : h.look r = _ := hk
    rw [hk]
    obtain ⟨xss', rfl, hr, h0, hi⟩ := hv.po_inv
    obtain rfl : xss = xss' := by have := same hk' hr; simpa using this
    obtain ⟨c, hc, _, hcap, hrows⟩ := hrel.blk _ _ hr
    obtain ⟨el, hc⟩ := hc (by omega)
    have hx := ix_get hi
    obtain ⟨⟨u, hu, hrow⟩, _⟩ := hrows _ _ hx
    refine ⟨u, ?_, .mr _ _ _ _ _ hr h0 hx hrow⟩
    simp only [Instr.loadAt, Instr.sureAddr, Sem.run_bind, Sem.run_pure, Result.andThen_ok]
    exact run_loadVar_one hd (by rw [CellsIn.cell ⟨el, _, hc⟩]; exact hu)
  · exact hp.elim
end
end Go.Vc
namespace Go.Vc
open Go.RowKit
def lenV (k : Option Blk) (v : AV) : AV :=
  match v, k with
  | .ints xs, _ => .i xs.length
  | .rows xs, _ => .i xs.length
  | .strs xs, _ => .i xs.length
  | .bools xs, _ => .i xs.length
  | .pairs xs, _ => .i xs.length
  | .bytes xs, _ => .i xs.length
  | .str s, _ => .i s.size
  | .nils, _ => .i 0
  | .sl _, some (.arr v) => .i (lenOf v)
  | .mt _, some (.mat xss) => .i xss.length
  | .mr _ i, some (.mat xss) => .i (ix xss i).length
  | _, _ => .undef
def isStr : AV -> Bool
  | .str _ => true
  | _ => false
def lenP (P : Program) (t : TypeId) (k : Option Blk) (v : AV) : Prop :=
  match v, k with
  | .ints _, _ => ∃ e, P.underlying t = some (.slice e)
  | .rows _, _ => ∃ e, P.underlying t = some (.slice e)
  | .strs _, _ => ∃ e, P.underlying t = some (.slice e)
  | .bools _, _ => ∃ e, P.underlying t = some (.slice e)
  | .pairs _, _ => ∃ e, P.underlying t = some (.slice e)
  | .bytes _, _ => ∃ e, P.underlying t = some (.slice e)
  | .str _, _ => P.underlying t = some .string
  | .nils, _ => ∃ e, P.underlying t = some (.slice e)
  | .sl _, some (.arr _) => ∃ e, P.underlying t = some (.slice e)
  | .mt _, some (.mat _) => ∃ e, P.underlying t = some (.slice e)
  | .mr _ _, some (.mat _) => ∃ e, P.underlying t = some (.slice e)
  | _, _ => False
def fieldV (d : Option (Nat × TD)) : AV -> AV
  | .iptr cs => match d with | some (n, _) => .iptr (cs.drop n) | none => .undef
  | .bx r off => match d with | some (n, _) => .bx r (off + n) | none => .undef
  | _ => .undef
def fieldP (d : Option (Nat × TD)) (k : Option Blk) (v : AV) : Prop :=
  match v, d, k with
  | .iptr _, some _, _ => True
  | .bx _ off, some (n, _), some (.box cs) => off + n <= cs.length
  | _, _, _ => False
def partV (d : Option (Nat × TD)) (v : AV) : AV :=
  match v, d with
  | .agg cs, some (n, .one) => cs.getD n .undef
  | .agg cs, some (n, .agg m) => .agg ((cs.drop n).take m)
  | _, _ => .undef
def partP (d : Option (Nat × TD)) (v : AV) : Prop :=
  match v, d with
  | .agg cs, some (n, .one) => n < cs.length
  | .agg cs, some (n, .agg m) => n + m <= cs.length
  | _, _ => False
def extractV (n : Nat) : AV -> AV
  | .tup vs => vs.getD n .undef
  | _ => .undef
def extractP (n : Nat) : AV -> Prop
  | .tup vs => n < vs.length
  | _ => False
def notV : AV -> AV
  | .bool b => .bool (!b)
  | _ => .undef
def notP : AV -> Prop
  | .bool _ => True
  | _ => False
def negV : AV -> AV
  | .int k n => .int k (0 - n)
  | _ => .undef
def negP : AV -> Prop
  | .int k n => RK k (0 - n)
  | _ => False
def ik (P : Program) (t : TypeId) : Option IntKind :=
  match P.underlying t with
  | some (.int k) => some k
  | _ => none
def convV (k : Option IntKind) : AV -> AV
  | .int _ n => match k with | some k => .int k n | none => .undef
  | .bytes xs => .str ⟨xs.toArray⟩
  | _ => .undef
def bytesT (P : Program) (s t : TypeId) : Prop := (∃ e, P.underlying s = some (.slice e) /\ P.underlying e = some (.int .u8)) /\ P.underlying t = some .string
def convP (P : Program) (s t : TypeId) (k : Option IntKind) : AV -> Prop
  | .int _ n => match k with | some k => (P.underlying s).isSome = true /\ RK k n | none => False
  | .bytes _ => bytesT P s t
  | _ => False
def byteAt (s : ByteArray) (i : Int) : UInt8 := ix s.data.toList i
def sidxV (x i : AV) : AV :=
  match x, i with
  | .str s, .int _ i => .byte (byteAt s i)
  | _, _ => .undef
def sidxP (P : Program) (t : TypeId) (x i : AV) : Prop :=
  match x, i with
  | .str s, .int _ i => P.underlying t = some .string /\ 0 <= i /\ i < s.size
  | _, _ => False
section
variable {P : Program} {S : Store} {ρ : Rho} {H : HF} {w : World} {own : Nat -> Prop}
theorem idx_ok {t : TypeId} {x i : AV} {vx vi : Value} {h : Heap} {hF : HF} (hle : ∀ r k, h.look r = some k -> hF r = some k) (hsub : ∀ r k, H r = some k -> hF r = some k)
    (hrel : Rel own S ρ H w) (hp : idxP (ed P t) (blkOf h x) x i) (hx : V S ρ H x vx) (hi : V S ρ H i vi) :
    ∃ cv, (Instr.indexAt t vx vi).run P w = .ok cv w /\ V S ρ H (idxV (ed P t) x i) cv := by
  have same : ∀ {r : Nat} {k k' : Blk}, h.look r = some k -> H r = some k' -> k = k' := fun h1 h2 => by
    have e1 := hle _ _ h1; have e2 := hsub _ _ h2; rw [e1] at e2; exact Option.some.inj e2
  have slice_of : ∀ {m : Nat}, ed P t = some (none, m) -> ∃ e, P.underlying t = some (.slice e) /\ (sizeOf e).run P w = .ok m w := fun {m} h => by
    unfold ed at h
    split at h
    · rename_i e hu
      cases hi : P.info? e with
      | none => rw [hi] at h; simp at h
      | some i => rw [hi] at h; simp at h; exact ⟨e, hu, by simp [sizeOf, typeInfo, hi, h]⟩
    · rename_i n e hu
      cases hi : P.info? e with
      | none => rw [hi] at h; simp at h
      | some i => rw [hi] at h; simp at h
    · cases h
  have arr_of : ∀ {n m : Nat}, ed P t = some (some n, m) -> ∃ e, P.underlying t = some (.array n e) /\ (sizeOf e).run P w = .ok m w := fun {n m} h => by
    unfold ed at h
    split at h
    · rename_i e hu
      cases hi : P.info? e with
      | none => rw [hi] at h; simp at h
      | some i => rw [hi] at h; simp at h
    · rename_i n' e hu
      cases hi : P.info? e with
      | none => rw [hi] at h; simp at h
      | some i => rw [hi] at h; simp at h; obtain ⟨rfl, h⟩ := h; exact ⟨e, hu, by simp [sizeOf, typeInfo, hi, h]⟩
    · cases h
  generalize hd : ed P t = d at *
  unfold idxP at hp
  split at hp
  · rename_i m r k i v hk
    have hk' : h.look r = _ := hk
    obtain ⟨⟨h0, h1⟩, rfl⟩ := hp
    obtain ⟨v', xs, m, a, rfl, hr, he, ha⟩ := hx.sl_inv
    obtain rfl : v = v' := by have := same hk' hr; simpa using this
    have hw : m = widthOf v := by cases v <;> simp [AV.elems] at he <;> simp [widthOf, he]
    subst hw
    rw [<- elems_len he] at h1
    obtain ⟨xs', m', c, he', hc, hcs, hcap, hm, hcell⟩ := hrel.blk _ _ hr
    rw [he] at he'; simp only [Option.some.injEq, Prod.mk.injEq] at he'; obtain ⟨rfl, rfl⟩ := he'
    rw [ha (by omega), hi.int_inv]
    obtain ⟨e, hu, hsz⟩ := slice_of rfl
    refine ⟨_, ?_, .pa r i v xs _ hr he h0 (by omega)⟩
    simp [Instr.indexAt, run_underlying hu, asIntOf, h0, h1, hsz, add_none]
  · rename_i m r k i xss hk
    have hk' : h.look r = _ := hk
    obtain ⟨⟨h0, h1⟩, rfl⟩ := hp
    obtain ⟨xss', a, rfl, hr, ha⟩ := hx.mt_inv
    obtain rfl : xss = xss' := by have := same hk' hr; simpa using this
    obtain ⟨c, hc, hcs, hcap, hrows⟩ := hrel.blk _ _ hr
    rw [ha (by omega), hi.int_inv]
    obtain ⟨e, hu, hsz⟩ := slice_of rfl
    refine ⟨_, ?_, .po r i xss hr h0 (by omega)⟩
    simp [Instr.indexAt, run_underlying hu, asIntOf, h0, h1, hsz, add_none]
  · rename_i m r i' k i xss hk
    have hk' : h.look r = _ := hk
    obtain ⟨⟨h0, h1⟩, rfl⟩ := hp
    obtain ⟨xss', row, hr, hi0, hi1, a, hlc, rfl, ha⟩ := hx.mr_inv
    obtain rfl : xss = xss' := by have := same hk' hr; simpa using this
    have e : ix xss i' = row := by have := ix_get (List.getElem?_eq_some_iff.1 hi1).1; rw [hi1] at this; exact (Option.some.inj this).symm
    rw [e] at h1
    rw [ha (by omega), hi.int_inv]
    obtain ⟨e, hu, hsz⟩ := slice_of rfl
    refine ⟨_, ?_, .pm r i' i xss row hr hi0 hi1 h0 (by omega)⟩
    simp [Instr.indexAt, run_underlying hu, asIntOf, h0, h1, hsz, add_none]
  · rename_i n m cs k i
    obtain ⟨⟨h0, h1⟩, hlen⟩ := hp
    obtain ⟨b, off, c, rfl, hS, hcs⟩ := hx.iptr_inv
    rw [hi.int_inv]
    obtain ⟨e, hu, hsz⟩ := arr_of rfl
    refine ⟨.pointer (some ⟨b, off + i.toNat * m, none⟩), ?_, ?_⟩
    · simp [Instr.indexAt, run_underlying hu, asIntOf, Instr.sureAddr, h0, h1, hsz, add_none]
    · obtain ⟨us, hl, h1, h2⟩ := gather (R := Sees S) (cs.drop (i.toNat * m)) (fun j => c[off + i.toNat * m + j]?) (fun j x hx => by
        rw [List.getElem?_drop] at hx; rw [Nat.add_assoc]; exact hcs _ _ hx)
      refine .pure _ _ (.iptr _ b (off + i.toNat * m) c (fun j => us.getD j Go.undef) hS (fun j x hx => ?_) (fun j x hx => ?_))
      · have hj : j < us.length := by rw [hl]; exact (List.getElem?_eq_some_iff.1 hx).1
        rw [h1 j us[j] (by simp [hj])]; simp [hj]
      · have hj : j < us.length := by rw [hl]; exact (List.getElem?_eq_some_iff.1 hx).1
        exact h2 j x _ hx (by simp [hj])
  · rename_i v _ _ _ kb m k i hn1 hn2 hn3
    obtain ⟨hls, ⟨h0, h1⟩, rfl⟩ := hp
    obtain ⟨xs, he⟩ := lst_elems hls
    obtain ⟨a, cap, b, off, c, rfl, hrow, hm, hcs⟩ := hx.lst_inv he
    rw [<- elems_len he] at h1
    have hne : xs ≠ [] := by intro e; subst e; simp at h1; omega
    obtain ⟨rfl, hS⟩ := hrow hne
    rw [hi.int_inv]
    obtain ⟨e, hu, hsz⟩ := slice_of rfl
    have hxi := elems_at he (i := i) (by omega)
    refine ⟨.pointer (some ⟨b, off + i.toNat * widthOf v, none⟩), ?_, ?_⟩
    · simp [Instr.indexAt, run_underlying hu, asIntOf, h0, h1, hsz, add_none]
    · have e2 : idxV (some (none, widthOf v)) v (.int k i) = .iptr (elemAt v i).cells := by
        cases v <;> first | rfl | simp [isLst] at hls
      rw [e2]
      obtain ⟨us, hl, h1, h2⟩ := gather (R := Sees S) (elemAt v i).cells (fun j => c[off + i.toNat * widthOf v + j]?) (fun j x hx => hcs _ _ j x hxi hx)
      refine .pure _ _ (.iptr _ b (off + i.toNat * widthOf v) c (fun j => us.getD j Go.undef) hS (fun j x hx => ?_) (fun j x hx => ?_))
      · have hj : j < us.length := by rw [hl]; exact (List.getElem?_eq_some_iff.1 hx).1
        rw [h1 j us[j] (by simp [hj])]; simp [hj]
      · have hj : j < us.length := by rw [hl]; exact (List.getElem?_eq_some_iff.1 hx).1
        exact h2 j x _ hx (by simp [hj])
  · exact hp.elim
end
end Go.Vc
namespace Go.Vc
open Go.RowKit
def minmaxV (op : Builtin) (a b : AV) : AV :=
  match op, a, b with
  | .min, .int k x, .int _ y => .int k (min x y)
  | .max, .int k x, .int _ y => .int k (max x y)
  | _, _, _ => .undef
def minmaxP (op : Builtin) (a b : AV) : Prop :=
  match op, a, b with
  | .min, .int _ _, .int _ _ => True
  | .max, .int _ _, .int _ _ => True
  | _, _, _ => False
def bndV (d : Int) : Option AV -> Int
  | some (.int _ n) => n
  | _ => d
def bndP : Option AV -> Prop
  | some (.int _ _) => True
  | none => True
  | _ => False
def cutL {α : Type} (xs : List α) (lo hi : Int) : List α := (xs.take hi.toNat).drop lo.toNat
def sliceV (x : AV) (lo hi : Option AV) : AV :=
  match x with
  | .ints xs => .ints (cutL xs (bndV 0 lo) (bndV xs.length hi))
  | .rows xs => .rows (cutL xs (bndV 0 lo) (bndV xs.length hi))
  | .strs xs => .strs (cutL xs (bndV 0 lo) (bndV xs.length hi))
  | .bools xs => .bools (cutL xs (bndV 0 lo) (bndV xs.length hi))
  | .bytes xs => .bytes (cutL xs (bndV 0 lo) (bndV xs.length hi))
  | .str s => .str (s.extract (bndV 0 lo).toNat (bndV s.size hi).toNat)
  | _ => .undef
def sliceP (P : Program) (t : TypeId) (x : AV) (lo hi : Option AV) : Prop :=
  match x with
  | .ints xs => ((bndP lo /\ bndP hi) /\ ed P t = some (none, 1)) /\ (∃ e, P.underlying t = some (.slice e)) /\ 0 <= bndV 0 lo /\ bndV 0 lo <= bndV xs.length hi /\ bndV xs.length hi <= xs.length
  | .rows xs => ((bndP lo /\ bndP hi) /\ ed P t = some (none, 1)) /\ (∃ e, P.underlying t = some (.slice e)) /\ 0 <= bndV 0 lo /\ bndV 0 lo <= bndV xs.length hi /\ bndV xs.length hi <= xs.length
  | .strs xs => ((bndP lo /\ bndP hi) /\ ed P t = some (none, 1)) /\ (∃ e, P.underlying t = some (.slice e)) /\ 0 <= bndV 0 lo /\ bndV 0 lo <= bndV xs.length hi /\ bndV xs.length hi <= xs.length
  | .bools xs => ((bndP lo /\ bndP hi) /\ ed P t = some (none, 1)) /\ (∃ e, P.underlying t = some (.slice e)) /\ 0 <= bndV 0 lo /\ bndV 0 lo <= bndV xs.length hi /\ bndV xs.length hi <= xs.length
  | .bytes xs => ((bndP lo /\ bndP hi) /\ ed P t = some (none, 1)) /\ (∃ e, P.underlying t = some (.slice e)) /\ 0 <= bndV 0 lo /\ bndV 0 lo <= bndV xs.length hi /\ bndV xs.length hi <= xs.length
  | .str s => (bndP lo /\ bndP hi) /\ P.underlying t = some .string /\ 0 <= bndV 0 lo /\ bndV 0 lo <= bndV s.size hi /\ bndV s.size hi <= s.size
  | _ => False
section
variable {P : Program} {S : Store} {ρ : Rho} {H : HF} {w : World} {own : Nat -> Prop}
theorem len_ok {t ty : TypeId} {x : AV} {vx : Value} {h : Heap} {hF : HF} (hle : ∀ r k, h.look r = some k -> hF r = some k) (hsub : ∀ r k, H r = some k -> hF r = some k)
    (hrel : Rel own S ρ H w) (hp : lenP P t (blkOf h x) x) (hx : V S ρ H x vx) :
    ∃ cv, (Builtin.len_ #[t] ty #[vx]).run P w = .ok cv w /\ V S ρ H (lenV (blkOf h x) x) cv := by
  have same : ∀ {r : Nat} {k k' : Blk}, h.look r = some k -> H r = some k' -> k = k' := fun h1 h2 => by
    have e1 := hle _ _ h1; have e2 := hsub _ _ h2; rw [e1] at e2; exact Option.some.inj e2
  have run_sl : ∀ (a : Option Addr) (n c : Nat), (∃ e, P.underlying t = some (.slice e)) -> (Builtin.len_ #[t] ty #[.slice a n c]).run P w = .ok (goInt n) w := by
    rintro a n c ⟨e, he⟩
    simp [Builtin.len_, run_underlying he]
  have lst : ∀ (v : AV) (n : Nat), (∃ e, P.underlying t = some (.slice e)) -> isLst v = true -> lenOf v = n -> V S ρ H v vx -> ∃ cv, (Builtin.len_ #[t] ty #[vx]).run P w = .ok cv w /\ V S ρ H (.i n) cv := by
    intro v n hu hl hn hv
    obtain ⟨xs, he⟩ := lst_elems hl
    obtain ⟨a, cap, b, off, c, rfl, _⟩ := hv.lst_inv he
    refine ⟨_, run_sl _ _ _ hu, ?_⟩
    rw [elems_len he, hn]
    exact v_int _ _
  unfold lenP at hp
  split at hp
  · exact lst _ _ hp rfl rfl hx
  · exact lst _ _ hp rfl rfl hx
  · exact lst _ _ hp rfl rfl hx
  · exact lst _ _ hp rfl rfl hx
  · exact lst _ _ hp rfl rfl hx
  · exact lst _ _ hp rfl rfl hx
  · rw [hx.str_inv]
    exact ⟨_, run_len_string w t ty _ hp, v_int _ _⟩
  · obtain ⟨a, rfl⟩ := hx.nils_inv
    exact ⟨_, run_sl _ _ _ hp, v_int _ _⟩
  · rename_i r v hk
    have hk' : h.look r = _ := hk
    rw [hk]
    obtain ⟨v', xs, m, a, rfl, hr, he, ha⟩ := hx.sl_inv
    obtain rfl : v = v' := by have := same hk' hr; simpa using this
    refine ⟨_, run_sl _ _ _ hp, ?_⟩
    rw [elems_len he]; exact v_int _ _
  · rename_i r xss hk
    have hk' : h.look r = _ := hk
    rw [hk]
    obtain ⟨xss', a, rfl, hr, ha⟩ := hx.mt_inv
    obtain rfl : xss = xss' := by have := same hk' hr; simpa using this
    exact ⟨_, run_sl _ _ _ hp, v_int _ _⟩
  · rename_i r i xss hk
    have hk' : h.look r = _ := hk
    rw [hk]
    obtain ⟨xss', row, hr, hi0, hi1, a, hlc, rfl, ha⟩ := hx.mr_inv
    obtain rfl : xss = xss' := by have := same hk' hr; simpa using this
    have e : ix xss i = row := by have := ix_get (List.getElem?_eq_some_iff.1 hi1).1; rw [hi1] at this; exact (Option.some.inj this).symm
    refine ⟨_, run_sl _ _ _ hp, ?_⟩
    simp only [lenV, e]; exact v_int _ _
  · exact hp.elim
theorem minmax_ok {op : Builtin} {ts : Array TypeId} {ty : TypeId} {cs : Array Bool} {a b : AV} {va vb : Value} (hp : minmaxP op a b) (ha : V S ρ H a va) (hb : V S ρ H b vb) :
    ∃ cv, (builtin op ts ty cs #[va, vb]).run P w = .ok (.value cv) w /\ V S ρ H (minmaxV op a b) cv := by
  unfold minmaxP at hp
  split at hp
  · rename_i k x k' y
    rw [ha.int_inv, hb.int_inv]
    refine ⟨.int k (min x y), ?_, v_int _ _⟩
    simp [builtin, run_min_int2]
    rw [Int.min_def]; split <;> split <;> omega
  · rename_i k x k' y
    rw [ha.int_inv, hb.int_inv]
    refine ⟨.int k (max x y), ?_, v_int _ _⟩
    simp [builtin, run_max_int2]
    rw [Int.max_def]; split <;> split <;> omega
  · exact hp.elim
theorem fieldAddr_ok {t : TypeId} {f : Nat} {x : AV} {vx : Value} {h : Heap} {hF : HF} (hle : ∀ r k, h.look r = some k -> hF r = some k) (hsub : ∀ r k, H r = some k -> hF r = some k)
    (hp : fieldP (fd P t f) (blkOf h x) x) (hx : V S ρ H x vx) : ∃ cv, (Instr.fieldAt t vx f).run P w = .ok cv w /\ V S ρ H (fieldV (fd P t f) x) cv := by
  have same : ∀ {r : Nat} {k k' : Blk}, h.look r = some k -> H r = some k' -> k = k' := fun h1 h2 => by
    have e1 := hle _ _ h1; have e2 := hsub _ _ h2; rw [e1] at e2; exact Option.some.inj e2
  have key : ∀ {n : Nat} {d : TD}, fd P t f = some (n, d) -> ∀ a : Addr, (Instr.fieldAt t (.pointer (some a)) f).run P w = .ok (.pointer (some (a.add n))) w := by
    intro n d hd a
    unfold fd at hd
    split at hd
    · rename_i fs hu
      split at hd
      · rename_i x hx
        split at hd
        · rename_i i hi
          split at hd
          · cases hd
          · rename_i hz
            simp only [Option.some.injEq, Prod.mk.injEq] at hd
            obtain ⟨rfl, _⟩ := hd
            have hs : (sizeOf x.type).run P w = .ok i.size w := by simp [sizeOf, typeInfo, hi]
            simp [Instr.fieldAt, run_underlying hu, hx, Instr.sureAddr, fieldPlace, hs, hz]
        · cases hd
      · cases hd
    · cases hd
  generalize hd : fd P t f = d at *
  unfold fieldP at hp
  split at hp
  · rename_i kb cs d'
    obtain ⟨n, td'⟩ := d'
    obtain ⟨b, off, c, rfl, hS, hcs⟩ := hx.iptr_inv
    refine ⟨_, key rfl _, ?_⟩
    rw [add_none]
    obtain ⟨us, hl, h1, h2⟩ := gather (R := Sees S) (cs.drop n) (fun j => c[off + n + j]?) (fun j x hx => by
      rw [List.getElem?_drop] at hx; rw [Nat.add_assoc]; exact hcs _ _ hx)
    refine .pure _ _ (.iptr _ b (off + n) c (fun j => us.getD j Go.undef) hS (fun j x hx => ?_) (fun j x hx => ?_))
    · have hj : j < us.length := by rw [hl]; exact (List.getElem?_eq_some_iff.1 hx).1
      rw [h1 j us[j] (by simp [hj])]; simp [hj]
    · have hj : j < us.length := by rw [hl]; exact (List.getElem?_eq_some_iff.1 hx).1
      exact h2 j x _ hx (by simp [hj])
  · rename_i r off n td' cs hk
    have hk' : h.look r = _ := hk
    obtain ⟨cs', rfl, hr, ho⟩ := hx.bx_inv
    obtain rfl : cs = cs' := by have := same hk' hr; simpa using this
    refine ⟨_, key rfl _, ?_⟩
    rw [add_none]
    exact .bx r (off + n) cs hr hp
  · exact hp.elim
theorem run_part_one {t : TypeId} (h : td P t = .one) {cs : Array Value} {n : Nat} {u : Value} (hu : cs[n]? = some u) : (part t cs n).run P w = .ok u w := by
  simp [part, (run_isAgg_one (w := w) h).1, hu]
theorem run_part_agg {t : TypeId} {m : Nat} (h : td P t = .agg m) {cs : Array Value} {n : Nat} : (part t cs n).run P w = .ok (.agg (cs.extract n (n + m))) w := by
  simp [part, (run_isAgg_agg (w := w) h).1, (run_isAgg_agg (w := w) h).2]
theorem part_ok {t : TypeId} {f : Nat} {x : AV} {vx : Value} (hp : partP (fd P t f) x) (hx : V S ρ H x vx) :
    ∃ cv, (Instr.field t vx f).run P w = .ok cv w /\ V S ρ H (partV (fd P t f) x) cv := by
  generalize hd : fd P t f = d at *
  unfold partP at hp
  unfold fd at hd
  split at hp
  · rename_i cs n
    obtain ⟨vs, rfl, hl, hcs⟩ := hx.agg_inv
    split at hd <;> first | cases hd | skip
    rename_i fs hu
    split at hd <;> first | cases hd | skip
    rename_i x hx
    split at hd <;> first | cases hd | skip
    rename_i i hi
    split at hd <;> first | cases hd | skip
    simp only [Option.some.injEq, Prod.mk.injEq] at hd
    obtain ⟨rfl, htd⟩ := hd
    have hv : vs[x.offset]? = some (vs[x.offset]'(by omega)) := by simp [hl, hp]
    refine ⟨_, ?_, hcs x.offset (cs.getD x.offset .undef) _ (by simp [hp]) hv⟩
    simp only [Instr.field, Sem.run_bind, run_underlying hu, Result.andThen_ok, hx, asAgg, Sem.run_pure]
    exact run_part_one htd hv
  · rename_i cs n m
    obtain ⟨vs, rfl, hl, hcs⟩ := hx.agg_inv
    split at hd <;> first | cases hd | skip
    rename_i fs hu
    split at hd <;> first | cases hd | skip
    rename_i x hx
    split at hd <;> first | cases hd | skip
    rename_i i hi
    split at hd <;> first | cases hd | skip
    simp only [Option.some.injEq, Prod.mk.injEq] at hd
    obtain ⟨rfl, htd⟩ := hd
    refine ⟨.agg (vs.extract x.offset (x.offset + m)), ?_, ?_⟩
    · simp only [Instr.field, Sem.run_bind, run_underlying hu, Result.andThen_ok, hx, asAgg, Sem.run_pure]
      exact run_part_agg htd
    · refine .agg _ _ (by simp; omega) (fun j y v hy hv => ?_)
      rw [List.getElem?_take] at hy
      split at hy
      · rename_i hjm
        rw [List.getElem?_drop] at hy
        refine hcs _ _ _ hy ?_
        rw [Array.getElem?_extract] at hv
        split at hv
        · exact hv
        · cases hv
      · cases hy
  · exact hp.elim
theorem extract_ok {n : Nat} {x : AV} {vx : Value} (hp : extractP n x) (hx : V S ρ H x vx) : ∃ cv, (Instr.extract vx n).run P w = .ok cv w /\ V S ρ H (extractV n x) cv := by
  unfold extractP at hp
  split at hp
  · rename_i cs
    obtain ⟨vs, rfl, hl, hcs⟩ := hx.tup_inv
    have hv : vs[n]? = some (vs[n]'(by omega)) := by simp [hl, hp]
    refine ⟨_, ?_, hcs n (cs.getD n .undef) _ (by simp [hp]) hv⟩
    simp [Instr.extract, hv]
  · exact hp.elim
theorem not_ok {x : AV} {vx : Value} (hp : notP x) (hx : V S ρ H x vx) : ∃ cv, (Op.unary .not vx).run P w = .ok cv w /\ V S ρ H (notV x) cv := by
  unfold notP at hp
  split at hp
  · rw [hx.bool_inv]; exact ⟨_, rfl, v_bool _⟩
  · exact hp.elim
theorem neg_ok {x : AV} {vx : Value} (hp : negP x) (hx : V S ρ H x vx) : ∃ cv, (Op.unary .neg vx).run P w = .ok cv w /\ V S ρ H (negV x) cv := by
  unfold negP at hp
  split at hp
  · rw [hx.int_inv]
    refine ⟨_, by simp [Op.unary, Op.intArith]; rfl, ?_⟩
    have := wrap_RK hp; simp at this; rw [this]; simp only [negV, Int.zero_sub]; exact v_int _ _
  · exact hp.elim
theorem bytes_inv {xs : List UInt8} {v : Value} (h : V S ρ H (.bytes xs) v) : ∃ a cap b off c, v = .slice a xs.length cap /\ (xs ≠ [] -> a = some ⟨b, off, none⟩ /\ S b = some c) /\ ∀ i, i < xs.length -> c[off + i]? = some (.int .u8 ((xs[i]?.getD 0).toNat : Int)) := by
  cases h with
  | pure _ _ h =>
    cases h with
    | lst _ ys m a cap he hcap b off c vals hrow hm hc hs =>
      simp only [AV.elems, Option.some.injEq, Prod.mk.injEq] at he
      obtain ⟨rfl, rfl⟩ := he
      refine ⟨a, cap, b, off, c, by rw [List.length_map], fun h => hrow (by simpa using h), fun i hi => ?_⟩
      have e : (xs.map AV.byte)[i]? = some (AV.byte xs[i]) := by simp [hi]
      have h1 := hc i _ 0 _ e rfl
      have h2 := hs i _ 0 _ e rfl
      rw [Nat.mul_one, Nat.add_zero] at h1
      rw [h1]
      have h3 := (V.pure (ρ := ρ) (H := H) _ _ h2).int_inv
      rw [h3]
      simp [hi]
theorem conv_ok {s t : TypeId} {x : AV} {vx : Value} (hrel : Rel own S ρ H w) (hp : convP P s t (ik P t) x) (hx : V S ρ H x vx) : ∃ cv, (convert s t vx).run P w = .ok cv w /\ V S ρ H (convV (ik P t) x) cv := by
  generalize hk : ik P t = k at *
  unfold convP at hp
  split at hp
  · split at hp
    · rename_i k
      obtain ⟨hs, hr⟩ := hp
      have hu : P.underlying t = some (.int k) := by
        unfold ik at hk; split at hk
        · rename_i hu; rw [hu]; simp at hk; rw [hk]
        · cases hk
      rw [hx.int_inv]
      have hi : P.intKind t = k := by simp [Program.intKind, hu]
      refine ⟨_, run_convert_int w s t _ _ hs (by rw [hi]; exact hu), ?_⟩
      rw [hi, wrap_RK hr]; exact v_int _ _
    · exact hp.elim
  · rename_i xs
    obtain ⟨⟨e, hs, he⟩, hd⟩ := hp
    obtain ⟨a, cap, b, off, c, rfl, hrow, hc⟩ := bytes_inv hx
    have hstr : ∀ ys : List UInt8, strOfNums (ys.map fun y => ((y.toNat : Nat) : Int)) = ⟨ys.toArray⟩ := fun ys => by
      unfold strOfNums
      rw [List.map_map]
      have : ys.map ((fun n : Int => UInt8.ofNat n.toNat) ∘ fun y : UInt8 => ((y.toNat : Nat) : Int)) = ys := by
        induction ys with
        | nil => rfl
        | cons y ys ih => rw [List.map_cons, ih]; simp
      rw [this]
    by_cases h0 : xs = []
    · subst h0
      refine ⟨.string ⟨#[]⟩, ?_, v_str _⟩
      cases a with
      | none => exact run_convert_bytes_nil w s e hs he _ _ t hd
      | some a =>
        rw [run_convert_bytes_string w s t e _ _ _ hs he hd]
        exact run_bytesToString w a _ cap [] (by simp [loadCells, loadCellsFrom])
    · obtain ⟨rfl, hS⟩ := hrow h0
      refine ⟨_, run_convert_bytes_arg w s e hs he b off xs.length cap (xs.map fun y => ((y.toNat : Nat) : Int)) (by simp) (fun i hi => ?_) t hd, ?_⟩
      · rw [hrel.cellS hS, hc i hi]
        simp [hi]
      · rw [hstr]; exact v_str _
  · exact hp.elim
theorem sidx_ok {t : TypeId} {x i : AV} {vx vi : Value} (hp : sidxP P t x i) (hx : V S ρ H x vx) (hi : V S ρ H i vi) : ∃ cv, (Instr.index t vx vi).run P w = .ok cv w /\ V S ρ H (sidxV x i) cv := by
  unfold sidxP at hp
  split at hp
  · rename_i s k i
    obtain ⟨hu, h0, h1⟩ := hp
    rw [hx.str_inv, hi.int_inv]
    have hl : i.toNat < s.size := by omega
    refine ⟨.int .u8 (byteAt s i).toNat, ?_, v_int _ _⟩
    have e : s[i.toNat]? = some (byteAt s i) := by
      have hd : i.toNat < s.data.toList.length := hl
      have h2 : s[i.toNat]? = some s[i.toNat] := by simp [hl]
      have h3 : s.data.toList[i.toNat]? = some s.data.toList[i.toNat] := by simp [hd]
      rw [h2, byteAt, ix, List.getD_eq_getElem?_getD, h3]
      rfl
    simp [Instr.index, asIntOf, run_underlying hu, h0, e]
  · exact hp.elim
end
end Go.Vc
namespace Go.Vc
open Go.RowKit
def AV.pure1 : AV -> Bool
  | .sl _ | .mt _ | .mr _ _ | .bx _ _ | .pa _ _ | .pm _ _ _ | .po _ _ | .agg _ | .tup _ | .fn _ _ | .vec _ => false
  | _ => true
def AV.pure2 : AV -> Bool
  | .agg cs => cs.all AV.pure1
  | .tup cs => cs.all AV.pure1
  | .fn _ cs => cs.all AV.pure1
  | v => v.pure1
def AV.pureB : AV -> Bool
  | .agg cs => cs.all AV.pure2
  | .tup cs => cs.all AV.pure2
  | .fn _ cs => cs.all AV.pure2
  | v => v.pure1
section
variable {P : Program} {S : Store} {ρ : Rho} {H : HF} {w : World} {own : Nat -> Prop}
theorem V.sees1 {v : AV} {cv : Value} (h : V S ρ H v cv) (hp : v.pure1 = true) : Sees S v cv := by
  cases h <;> first | assumption | simp [AV.pure1] at hp
theorem V.sees2 {v : AV} {cv : Value} (h : V S ρ H v cv) (hp : v.pure2 = true) : Sees S v cv := by
  cases h with
  | pure _ _ h => exact h
  | agg cs vs hl h =>
    have hp : cs.all AV.pure1 = true := hp
    exact .agg _ _ hl (fun j x v hx hv => (h j x v hx hv).sees1 (List.all_eq_true.1 hp x (List.mem_of_getElem? hx)))
  | tup cs vs hl h =>
    have hp : cs.all AV.pure1 = true := hp
    exact .tup _ _ hl (fun j x v hx hv => (h j x v hx hv).sees1 (List.all_eq_true.1 hp x (List.mem_of_getElem? hx)))
  | fn f cs vs hl h =>
    have hp : cs.all AV.pure1 = true := hp
    exact .fn _ _ _ hl (fun j x v hx hv => (h j x v hx hv).sees1 (List.all_eq_true.1 hp x (List.mem_of_getElem? hx)))
  | _ => simp [AV.pure2, AV.pure1] at hp
theorem V.sees {v : AV} {cv : Value} (h : V S ρ H v cv) (hp : v.pureB = true) : Sees S v cv := by
  cases h with
  | pure _ _ h => exact h
  | agg cs vs hl h =>
    have hp : cs.all AV.pure2 = true := hp
    exact .agg _ _ hl (fun j x v hx hv => (h j x v hx hv).sees2 (List.all_eq_true.1 hp x (List.mem_of_getElem? hx)))
  | tup cs vs hl h =>
    have hp : cs.all AV.pure2 = true := hp
    exact .tup _ _ hl (fun j x v hx hv => (h j x v hx hv).sees2 (List.all_eq_true.1 hp x (List.mem_of_getElem? hx)))
  | fn f cs vs hl h =>
    have hp : cs.all AV.pure2 = true := hp
    exact .fn _ _ _ hl (fun j x v hx hv => (h j x v hx hv).sees2 (List.all_eq_true.1 hp x (List.mem_of_getElem? hx)))
  | _ => simp [AV.pureB, AV.pure1] at hp
def Store.set (S : Store) (b : Nat) (c : Array Value) : Store := fun q => if q = b then some c else S q
def Rho.set (ρ : Rho) (r b cap : Nat) : Rho := ⟨fun q j => if q = r then b else ρ.blk q j, fun q => if q = r then cap else ρ.cap q, fun q i => if q = r then 0 else ρ.rcap q i⟩
theorem Rel.store_lt (h : Rel own S ρ H w) {b : Nat} {c : Array Value} (hS : S b = some c) : b < w.heap.size := (h.stab b c hS).lt
theorem Rel.store_new (h : Rel own S ρ H w) : S w.heap.size = none := by
  cases hS : S w.heap.size with
  | none => rfl
  | some c => exact absurd (h.store_lt hS) (Nat.lt_irrefl _)
theorem grow_stable (h : Rel own S ρ H w) (hown : ∀ b, w.heap.size <= b -> own b) (c : Array Value) (el : TypeId) (fr : Nat × Nat) :
    Grow own S ρ H w (S.set w.heap.size c) ρ H { w with heap := w.heap.push (.cells c el fr) } := by
  have hle : S.le (S.set w.heap.size c) := fun b c' hb => by
    unfold Store.set; rw [if_neg (by have := h.store_lt hb; omega)]; exact hb
  have h' := h.push (.cells c el fr)
  refine ⟨⟨fun b c' hb => ?_, h.amb.mono hle, fun r k hr => ?_, fun r j hf => ?_, h.sep⟩, hle, fun b h1 h2 => ?_, .refl _ _, (Kept.refl _ _).alloc _⟩
  · unfold Store.set at hb
    split at hb
    · rename_i e; subst e; cases hb; exact ⟨el, fr, by simp⟩
    · exact h'.stab b c' hb
  · have hb := h'.blk r k hr
    cases k with
    | box cs => obtain ⟨c', h1, h2, h3⟩ := hb; exact ⟨c', h1, h2, fun j x v hx hv => (h3 j x v hx hv).ext hle (.refl _ _)⟩
    | arr v => obtain ⟨xs, m, c', h1, h2, h3, h4, h5, h6⟩ := hb; exact ⟨xs, m, c', h1, h2, h3, h4, h5, fun i x j y hx hy => let ⟨u, hu, hs⟩ := h6 i x j y hx hy; ⟨u, hu, hs.mono hle⟩⟩
    | mat xss => exact hb
  · obtain ⟨h1, h2⟩ := h.owned r j hf
    refine ⟨h1, ?_⟩
    unfold Store.set
    rw [if_neg (by have := h.foot_lt hf; omega)]; exact h2
  · unfold Store.set at h2
    split at h2
    · rename_i e; subst e; exact hown _ (Nat.le_refl _)
    · exact absurd h1 h2
theorem BlkRel.ext {S' : Store} {ρ' : Rho} {H' : HF} {w' : World} {r : Nat} {k : Blk} (hS : S.le S') (hk : RhoKeep ρ ρ' H H') (hr : H r = some k)
    (hw : ∀ b c, OwnCells w b c -> OwnCells w' b c) (h : BlkRel S ρ H w r k) : BlkRel S' ρ' H' w' r k := by
  cases k with
  | box cs =>
    obtain ⟨c, h1, h2, h3⟩ := h
    exact ⟨c, by rw [hk.blk _ _ _ hr]; exact hw _ _ h1, h2, fun j x v hx hv => (h3 j x v hx hv).ext hS hk⟩
  | arr v =>
    obtain ⟨xs, m, c, h1, h2, h3, h4, h5, h6⟩ := h
    refine ⟨xs, m, c, h1, ?_, ?_, ?_, h5, fun i x j y hx hy => let ⟨u, hu, hs⟩ := h6 i x j y hx hy; ⟨u, hu, hs.mono hS⟩⟩
    · rw [hk.cap _ _ hr, hk.blk _ _ _ hr]; exact fun h0 => hw _ _ (h2 h0)
    · rw [hk.cap _ _ hr]; exact h3
    · rw [hk.cap _ _ hr]; exact h4
  | mat xss =>
    obtain ⟨c, h1, h2, h3, h4⟩ := h
    refine ⟨c, ?_, ?_, ?_, fun i row hi => ⟨?_, fun hne => ?_⟩⟩
    · rw [hk.cap _ _ hr, hk.blk _ _ _ hr]; exact fun h0 => hw _ _ (h1 h0)
    · rw [hk.cap _ _ hr]; exact h2
    · rw [hk.cap _ _ hr]; exact h3
    · obtain ⟨u, hu, hrow⟩ := (h4 i row hi).1
      exact ⟨u, hu, hrow.keep (hk.blk _ _ _ hr) (hk.rcap _ _ _ hr)⟩
    · rw [hk.rcap _ _ _ hr] at hne ⊢
      rw [hk.blk _ _ _ hr]
      obtain ⟨d, hd, r⟩ := (h4 i row hi).2 hne
      exact ⟨d, hw _ _ hd, r⟩
theorem addH_self (r : Nat) (k : Blk) (H : HF) : addH [(r, k)] H r = some k := by simp [addH, Heap.look]
theorem addH_other {r q : Nat} (k : Blk) (H : HF) (h : q ≠ r) : addH [(r, k)] H q = H q := by simp [addH, Heap.look, Ne.symm h]
theorem keep_add {r : Nat} {k : Blk} (hr : H r = none) (b cap : Nat) : RhoKeep ρ (ρ.set r b cap) H (addH [(r, k)] H) := by
  have ne : ∀ q k', H q = some k' -> q ≠ r := fun q k' h e => by subst e; rw [hr] at h; cases h
  exact ⟨fun q k' h => by rw [addH_other _ _ (ne q k' h)]; exact h, fun q k' j h => by simp [Rho.set, ne q k' h], fun q k' h => by simp [Rho.set, ne q k' h], fun q k' i h => by simp [Rho.set, ne q k' h]⟩
theorem grow_own (h : Rel own S ρ H w) (hown : ∀ b, w.heap.size <= b -> own b) {r : Nat} (hr : H r = none) (c : Array Value) (el : TypeId) (k : Blk) (cap : Nat)
    (hk : BlkRel S (ρ.set r w.heap.size cap) (addH [(r, k)] H) { w with heap := w.heap.push (.cells c el) } r k)
    (hf : ∀ j, foot (ρ.set r w.heap.size cap) (addH [(r, k)] H) r j -> j = 0) :
    Grow own S ρ H w S (ρ.set r w.heap.size cap) (addH [(r, k)] H) { w with heap := w.heap.push (.cells c el) } := by
  have hkeep := keep_add (ρ := ρ) (k := k) hr w.heap.size cap
  have hw : ∀ b c', OwnCells w b c' -> OwnCells { w with heap := w.heap.push (.cells c el) } b c' := fun b c' ⟨el', he⟩ =>
    ⟨el', by have : b < w.heap.size := (Array.getElem?_eq_some_iff.1 he).1; simp only [Array.getElem?_push]; rw [if_neg (by omega)]; exact he⟩
  have foot_old : ∀ q j, q ≠ r -> foot (ρ.set r w.heap.size cap) (addH [(r, k)] H) q j -> foot ρ H q j := fun q j hq hf => by
    unfold foot at *
    rw [addH_other _ _ hq] at hf
    simpa [Rho.set, hq] using hf
  have blk_old : ∀ q j, q ≠ r -> (ρ.set r w.heap.size cap).blk q j = ρ.blk q j := fun q j hq => by simp [Rho.set, hq]
  have blk_new : ∀ j, (ρ.set r w.heap.size cap).blk r j = w.heap.size := fun j => by simp [Rho.set]
  refine ⟨⟨(h.push _).stab, h.amb, fun q k' hq => ?_, fun q j hfq => ?_, fun q j q' j' h1 h2 e => ?_⟩, fun _ _ h => h, fun b h1 h2 => absurd h1 h2, hkeep, (Kept.refl _ _).alloc _⟩
  · by_cases e : q = r
    · subst e; rw [addH_self] at hq; cases hq; exact hk
    · rw [addH_other _ _ e] at hq
      exact (h.blk q k' hq).ext (fun _ _ h => h) hkeep hq hw
  · by_cases e : q = r
    · subst e; rw [blk_new]; exact ⟨hown _ (Nat.le_refl _), h.store_new⟩
    · rw [blk_old _ _ e]; exact h.owned q j (foot_old q j e hfq)
  · by_cases e1 : q = r
    · by_cases e2 : q' = r
      · subst e1; subst e2; exact ⟨rfl, by rw [hf j h1, hf j' h2]⟩
      · subst e1
        rw [blk_new, blk_old _ _ e2] at e
        have := h.foot_lt (foot_old q' j' e2 h2); omega
    · by_cases e2 : q' = r
      · subst e2
        rw [blk_new, blk_old _ _ e1] at e
        have := h.foot_lt (foot_old q j e1 h1); omega
      · rw [blk_old _ _ e1, blk_old _ _ e2] at e
        exact h.sep q j q' j' (foot_old q j e1 h1) (foot_old q' j' e2 h2) e
end
def cellsV : Value -> Array Value := Value.cells
def AV.isUndef : AV -> Bool
  | .undef => true
  | _ => false
theorem cells_agg {S : Store} {ρ : Rho} {H : HF} {x : AV} {cv : Value} (h : V S ρ H x cv) (hp : x.pureB = true) (hu : x.isUndef = false) :
    cv.cells.size = x.cells.length /\ ∀ (j : Nat) y v, x.cells[j]? = some y -> cv.cells[j]? = some v -> Sees S y v := by
  by_cases hx : ∃ cs, x = .agg cs
  · obtain ⟨cs, rfl⟩ := hx
    obtain ⟨vs, rfl, hl, hcs⟩ := h.agg_inv
    have hp : cs.all AV.pure2 = true := hp
    exact ⟨hl, fun j y v hy hv => (hcs j y v hy hv).sees2 (List.all_eq_true.1 hp y (List.mem_of_getElem? hy))⟩
  · have e1 : x.cells = [x] := by cases x <;> first | rfl | exact (hx ⟨_, rfl⟩).elim
    have hs := h.sees hp
    have hm : ∀ v : Value, (∀ c, v ≠ .agg c) -> v.cells = #[v] := fun v hv => by cases v <;> first | rfl | exact (hv _ rfl).elim
    have e2 : x = .undef \/ cv.cells = #[cv] := by
      cases hs <;> first | exact .inl rfl | exact .inr rfl | exact (hx ⟨_, rfl⟩).elim
    rw [e1]
    rcases e2 with rfl | e2
    · cases hu
    · rw [e2]
      refine ⟨rfl, fun j y v hy hv => ?_⟩
      cases j with
      | zero => simp at hy hv; subst hy; subst hv; exact hs
      | succ j => simp at hy
def zv (P : Program) (t : TypeId) : Option Value := (P.info? t).bind (·.zero)
def zeroL (z : Option Value) (n : Nat) : Blk :=
  match z with
  | some (.int .i64 0) => .arr (.ints (List.replicate n 0))
  | some (.int .u8 0) => .arr (.bytes (List.replicate n 0))
  | some (.bool false) => .arr (.bools (List.replicate n false))
  | some (.slice none 0 0) => .mat (List.replicate n [])
  | _ => .box []
def zeroP (z : Option Value) : Prop :=
  match z with
  | some (.int .i64 0) => True
  | some (.int .u8 0) => True
  | some (.bool false) => True
  | some (.slice none 0 0) => True
  | _ => False
def Blk.ref (n : Nat) : Blk -> AV
  | .box _ => .bx n 0
  | .arr _ => .sl n
  | .mat _ => .mt n
def Blk.frz : Blk -> AV
  | .box cs => .iptr cs
  | .arr v => v
  | .mat xss => .rows xss
section
variable {P : Program} {S : Store} {ρ : Rho} {H : HF} {w : World} {own : Nat -> Prop}
theorem foot_new_box {r : Nat} {cs : List AV} {b cap : Nat} : ∀ j, foot (ρ.set r b cap) (addH [(r, .box cs)] H) r j -> j = 0 := by
  intro j h; unfold foot at h; rw [addH_self] at h; exact h
theorem foot_new_arr {r : Nat} {v : AV} {b cap : Nat} : ∀ j, foot (ρ.set r b cap) (addH [(r, .arr v)] H) r j -> j = 0 := by
  intro j h; unfold foot at h; rw [addH_self] at h; exact h.1
theorem foot_new_mat {r n : Nat} {b cap : Nat} : ∀ j, foot (ρ.set r b cap) (addH [(r, .mat (List.replicate n []))] H) r j -> j = 0 := by
  intro j h; unfold foot at h; rw [addH_self] at h
  rcases h with h | ⟨i, row, _, hi, hne⟩
  · exact h.1
  · simp [Rho.set] at hne
theorem own_push {c : Array Value} {el : TypeId} : OwnCells { w with heap := w.heap.push (.cells c el) } w.heap.size c := ⟨el, by simp⟩
theorem box_own (h : Rel own S ρ H w) (hown : ∀ b, w.heap.size <= b -> own b) {n : Nat} (hr : H n = none) (c : Array Value) (el : TypeId) (cs : List AV)
    (hl : c.size = cs.length) (hc : ∀ (j : Nat) x v, cs[j]? = some x -> c[j]? = some v -> V S ρ H x v) :
    Grow own S ρ H w S (ρ.set n w.heap.size 0) (addH [(n, .box cs)] H) { w with heap := w.heap.push (.cells c el) } :=
  grow_own h hown hr c el _ 0 ⟨c, by simp only [Rho.set, if_true]; exact own_push, hl, fun j x v hx hv => (hc j x v hx hv).ext (fun _ _ h => h) (keep_add hr _ _)⟩ foot_new_box
theorem box_stable (h : Rel own S ρ H w) (hown : ∀ b, w.heap.size <= b -> own b) (c : Array Value) (el : TypeId) (cs : List AV)
    (hl : c.size = cs.length) (hc : ∀ (j : Nat) x v, cs[j]? = some x -> c[j]? = some v -> Sees S x v) :
    Grow own S ρ H w (S.set w.heap.size c) ρ H { w with heap := w.heap.push (.cells c el) } /\ V (S.set w.heap.size c) ρ H (.iptr cs) (.pointer (some ⟨w.heap.size, 0, none⟩)) := by
  have g := grow_stable h hown c el (0, 0)
  refine ⟨g, .pure _ _ (.iptr cs w.heap.size 0 c (fun j => c.getD j Go.undef) (by simp [Store.set]) (fun j x hx => ?_) (fun j x hx => ?_))⟩
  · have hj : j < c.size := by rw [hl]; exact (List.getElem?_eq_some_iff.1 hx).1
    simp [hj]
  · have hj : j < c.size := by rw [hl]; exact (List.getElem?_eq_some_iff.1 hx).1
    exact (hc j x _ hx (by simp [hj])).mono g.store
theorem arr_own (h : Rel own S ρ H w) (hown : ∀ b, w.heap.size <= b -> own b) {n : Nat} (hr : H n = none) (c : Array Value) (el : TypeId) (v : AV) (xs : List AV) (m cap : Nat)
    (he : v.elems = some (xs, m)) (hl : c.size = cap * m) (hcap : xs.length <= cap) (ha : ArrIs S c xs m) :
    Grow own S ρ H w S (ρ.set n w.heap.size cap) (addH [(n, .arr v)] H) { w with heap := w.heap.push (.cells c el) } /\
      V S (ρ.set n w.heap.size cap) (addH [(n, .arr v)] H) (.sl n) (.slice (some ⟨w.heap.size, 0, none⟩) xs.length cap) := by
  refine ⟨grow_own h hown hr c el _ cap ⟨xs, m, c, he, fun _ => by simp only [Rho.set, if_true]; exact own_push, by simp only [Rho.set, if_true]; exact hl, by simp only [Rho.set, if_true]; exact hcap, ha⟩ foot_new_arr, ?_⟩
  have := V.sl (S := S) (ρ := ρ.set n w.heap.size cap) (H := addH [(n, .arr v)] H) n v xs m (some ⟨w.heap.size, 0, none⟩) (addH_self _ _ _) he (fun _ => by simp [Rho.set])
  simpa [Rho.set] using this
theorem arr_stable (h : Rel own S ρ H w) (hown : ∀ b, w.heap.size <= b -> own b) (c : Array Value) (el : TypeId) (v : AV) (xs : List AV) (m cap : Nat)
    (he : v.elems = some (xs, m)) (hcap : xs.length <= cap) (ha : ArrIs S c xs m) :
    Grow own S ρ H w (S.set w.heap.size c) ρ H { w with heap := w.heap.push (.cells c el) } /\ V (S.set w.heap.size c) ρ H v (.slice (some ⟨w.heap.size, 0, none⟩) xs.length cap) := by
  have g := grow_stable h hown c el (0, 0)
  refine ⟨g, .pure _ _ (.lst v xs m _ cap he hcap w.heap.size 0 c (fun i j => c.getD (i * m + j) Go.undef) (fun _ => ⟨rfl, by simp [Store.set]⟩) ha.1 (fun i x j y hx hy => ?_) (fun i x j y hx hy => ?_))⟩
  · obtain ⟨u, hu, _⟩ := ha.2 i x j y hx hy
    simp [hu]
  · obtain ⟨u, hu, hs⟩ := ha.2 i x j y hx hy
    rw [Array.getD_eq_getD_getElem?, hu]
    exact hs.mono g.store
theorem mat_own (h : Rel own S ρ H w) (hown : ∀ b, w.heap.size <= b -> own b) {n : Nat} (hr : H n = none) (el : TypeId) (k : Nat) :
    Grow own S ρ H w S (ρ.set n w.heap.size k) (addH [(n, .mat (List.replicate k []))] H) { w with heap := w.heap.push (.cells (Array.replicate k (.slice none 0 0)) el) } /\
      V S (ρ.set n w.heap.size k) (addH [(n, .mat (List.replicate k []))] H) (.mt n) (.slice (some ⟨w.heap.size, 0, none⟩) k k) := by
  refine ⟨grow_own h hown hr _ el _ k ⟨Array.replicate k (.slice none 0 0), fun _ => by simp only [Rho.set, if_true]; exact own_push, by simp [Rho.set], by simp [Rho.set], fun i row hi => ?_⟩ foot_new_mat, ?_⟩
  · rw [List.getElem?_replicate] at hi
    split at hi
    · rename_i hik
      cases hi
      exact ⟨⟨.slice none 0 0, by simp [hik], none, Nat.zero_le _, by simp [Rho.set], fun h => by simp [Rho.set] at h⟩, fun h => by simp [Rho.set] at h⟩
    · cases hi
  · have := V.mt (S := S) (ρ := ρ.set n w.heap.size k) (H := addH [(n, .mat (List.replicate k []))] H) n (List.replicate k []) (some ⟨w.heap.size, 0, none⟩) (addH_self _ _ _) (fun _ => by simp [Rho.set])
    simpa [Rho.set] using this
end
end Go.Vc
namespace Go.Vc
open Go.RowKit
structure Z where
  a : Int := 0
  s : Int := 0
  n : Int := 0
  k : Int := 0
  xs : List Int := []
  ys : List Int := []
  zs : List Int := []
  xss : List (List Int) := []
  yss : List (List Int) := []
  b : ByteArray := ByteArray.empty
  c : ByteArray := ByteArray.empty
  bs : List ByteArray := []
inductive Contract where
  | p (c : List AV -> Nat -> Prop × AV × Heap)
  | m (c : List AV -> Heap -> Nat -> Prop × AV × Heap)
  | z (c : List AV -> Heap -> Nat -> Prop × (Z -> Prop × AV × Heap))
abbrev Table := List (FuncId × Contract)
def noC : List AV -> Nat -> Prop × AV × Heap := fun _ _ => (False, .undef, [])
def noMC : List AV -> Heap -> Nat -> Prop × AV × Heap := fun _ _ _ => (False, .undef, [])
def noZC : List AV -> Heap -> Nat -> Prop × (Z -> Prop × AV × Heap) := fun _ _ _ => (False, fun _ => (False, .undef, []))
def Table.find : Table -> FuncId -> List AV -> Nat -> Prop × AV × Heap
  | [], _ => noC
  | (g, .p c) :: t, f => if g = f then c else Table.find t f
  | (_, .m _) :: t, f => Table.find t f
  | (_, .z _) :: t, f => Table.find t f
def Table.findM : Table -> FuncId -> List AV -> Heap -> Nat -> Prop × AV × Heap
  | [], _ => noMC
  | (g, .m c) :: t, f => if g = f then c else Table.findM t f
  | (_, .p _) :: t, f => Table.findM t f
  | (_, .z _) :: t, f => Table.findM t f
def Table.findZ : Table -> FuncId -> List AV -> Heap -> Nat -> Prop × (Z -> Prop × AV × Heap)
  | [], _ => noZC
  | (g, .z c) :: t, f => if g = f then c else Table.findZ t f
  | (_, .p _) :: t, f => Table.findZ t f
  | (_, .m _) :: t, f => Table.findZ t f
def StoreIn (S : Store) (w : World) : Prop := Amb S /\ ∀ b c, S b = some c -> CellsIn w b c
def SpecOK (P : Program) (f : FuncId) (args : List AV) (val : AV) (new : Heap) : Prop :=
  ∀ (S : Store) (w : World) (cargs : Array Value), StoreIn S w -> cargs.size = args.length -> (∀ (j : Nat) x v, args[j]? = some x -> cargs[j]? = some v -> Sees S x v) ->
    Calls P f cargs w fun e w' => ∃ cv S' ρ', e = .returned cv /\ Rel (w.heap.size <= ·) S' ρ' new.look w' /\ S.le S' /\ (∀ b, S b = none -> S' b ≠ none -> w.heap.size <= b) /\
      Kept (w.heap.size <= ·) w w' /\ V S' ρ' new.look val cv
inductive SameShape : Blk -> Blk -> Prop
  | box (cs cs' : List AV) (h : cs.length = cs'.length) : SameShape (.box cs) (.box cs')
  | arr (v v' : AV) (xs xs' : List AV) (m : Nat) (h : v.elems = some (xs, m)) (h' : v'.elems = some (xs', m)) (hl : xs.length = xs'.length) : SameShape (.arr v) (.arr v')
  | mat (a b : List (List Int)) (hl : a.length = b.length) (h : ∀ (i : Nat) x y, a[i]? = some x -> b[i]? = some y -> x.length = y.length) : SameShape (.mat a) (.mat b)
def SpecM (P : Program) (f : FuncId) (args : List AV) (pre : Heap) (n0 : Nat) (val : AV) (post : Heap) : Prop :=
  (∀ r k k', pre.look r = some k -> post.look r = some k' -> SameShape k k') /\
  ∀ (own : Nat -> Prop) (S : Store) (ρ : Rho) (w : World) (cargs : Array Value), (∀ b, w.heap.size <= b -> own b) -> Rel own S ρ pre.look w -> cargs.size = args.length ->
    (∀ (j : Nat) x v, args[j]? = some x -> cargs[j]? = some v -> V S ρ pre.look x v) ->
    Calls P f cargs w fun e w' => ∃ cv S' ρ', e = .returned cv /\ Rel own S' ρ' post.look w' /\ S.le S' /\ (∀ b, S b = none -> S' b ≠ none -> own b) /\
      Kept own w w' /\ V S' ρ' post.look val cv /\ ∀ r, r < n0 -> post.look r ≠ none -> (∀ j, ρ'.blk r j = ρ.blk r j) /\ ρ'.cap r = ρ.cap r /\ ∀ i, ρ'.rcap r i = ρ.rcap r i
def SpecZ (P : Program) (f : FuncId) (args : List AV) (pre : Heap) (n0 : Nat) (R : Z -> Prop × AV × Heap) : Prop :=
  ∀ (own : Nat -> Prop) (S : Store) (ρ : Rho) (w : World) (cargs : Array Value), (∀ b, w.heap.size <= b -> own b) -> Rel own S ρ pre.look w -> cargs.size = args.length ->
    (∀ (j : Nat) x v, args[j]? = some x -> cargs[j]? = some v -> V S ρ pre.look x v) ->
    Calls P f cargs w fun e w' => ∃ z, (R z).1 /\ ∃ cv S' ρ', e = .returned cv /\ Rel own S' ρ' (R z).2.2.look w' /\ S.le S' /\ (∀ b, S b = none -> S' b ≠ none -> own b) /\
      Kept own w w' /\ V S' ρ' (R z).2.2.look (R z).2.1 cv /\ ∀ r, r < n0 -> (R z).2.2.look r ≠ none -> (∀ j, ρ'.blk r j = ρ.blk r j) /\ ρ'.cap r = ρ.cap r /\ ∀ i, ρ'.rcap r i = ρ.rcap r i
def topH : Heap -> Nat
  | [] => 0
  | (r, _) :: h => if topH h <= r then r + 1 else topH h
theorem topH_look : ∀ {h : Heap} {r : Nat}, h.look r ≠ none -> r < topH h
  | [], r, hr => (hr rfl).elim
  | (q, b) :: h, r, hr => by
    simp only [Heap.look] at hr
    unfold topH
    split at hr
    · rename_i e; subst e; split <;> omega
    · have := topH_look hr; split <;> omega
def CtrOK (P : Program) (f : FuncId) : Contract -> Prop
  | .p c => ∀ args n, (c args n).1 -> SpecOK P f args (c args n).2.1 (c args n).2.2 /\ ∀ r, (c args n).2.2.look r ≠ none -> n <= r
  | .m c => ∀ args pre n, (∀ r, pre.look r ≠ none -> r < n) -> (c args pre n).1 -> SpecM P f args pre n (c args pre n).2.1 (c args pre n).2.2
  | .z c => ∀ args pre n, (∀ r, pre.look r ≠ none -> r < n) -> (c args pre n).1 -> (∀ z, ((c args pre n).2 z).1 -> ∀ r k k', pre.look r = some k -> ((c args pre n).2 z).2.2.look r = some k' -> SameShape k k') /\ SpecZ P f args pre n (c args pre n).2
def TableOK (P : Program) (C : Table) : Prop := ∀ f c, (f, c) ∈ C -> CtrOK P f c
theorem TableOK.nil (P : Program) : TableOK P [] := fun _ _ h => by cases h
theorem TableOK.cons {P : Program} {C : Table} {f : FuncId} {c : Contract} (h : CtrOK P f c)
    (hC : TableOK P C) : TableOK P ((f, c) :: C) := by
  intro g d hm
  cases hm with
  | head => exact h
  | tail _ hm => exact hC g d hm
theorem Table.find_mem {C : Table} {f : FuncId} : C.find f = noC \/ (f, .p (C.find f)) ∈ C := by
  induction C with
  | nil => exact .inl rfl
  | cons x C ih =>
    obtain ⟨g, c⟩ := x
    cases c with
    | p c =>
      unfold Table.find
      split
      · rename_i e; subst e; exact .inr (.head _)
      · rcases ih with h | h
        · exact .inl h
        · exact .inr (.tail _ h)
    | m c =>
      unfold Table.find
      rcases ih with h | h
      · exact .inl h
      · exact .inr (.tail _ h)
    | z c =>
      unfold Table.find
      rcases ih with h | h
      · exact .inl h
      · exact .inr (.tail _ h)
theorem Table.findM_mem {C : Table} {f : FuncId} : C.findM f = noMC \/ (f, .m (C.findM f)) ∈ C := by
  induction C with
  | nil => exact .inl rfl
  | cons x C ih =>
    obtain ⟨g, c⟩ := x
    cases c with
    | m c =>
      unfold Table.findM
      split
      · rename_i e; subst e; exact .inr (.head _)
      · rcases ih with h | h
        · exact .inl h
        · exact .inr (.tail _ h)
    | p c =>
      unfold Table.findM
      rcases ih with h | h
      · exact .inl h
      · exact .inr (.tail _ h)
    | z c =>
      unfold Table.findM
      rcases ih with h | h
      · exact .inl h
      · exact .inr (.tail _ h)
theorem Table.findZ_mem {C : Table} {f : FuncId} : C.findZ f = noZC \/ (f, .z (C.findZ f)) ∈ C := by
  induction C with
  | nil => exact .inl rfl
  | cons x C ih =>
    obtain ⟨g, c⟩ := x
    cases c with
    | z c =>
      unfold Table.findZ
      split
      · rename_i e; subst e; exact .inr (.head _)
      · rcases ih with h | h
        · exact .inl h
        · exact .inr (.tail _ h)
    | p c =>
      unfold Table.findZ
      rcases ih with h | h
      · exact .inl h
      · exact .inr (.tail _ h)
    | m c =>
      unfold Table.findZ
      rcases ih with h | h
      · exact .inl h
      · exact .inr (.tail _ h)
def Rho.join (ρ ρ' : Rho) (new : Heap) : Rho := ⟨fun q j => if (new.look q).isSome then ρ'.blk q j else ρ.blk q j, fun q => if (new.look q).isSome then ρ'.cap q else ρ.cap q, fun q i => if (new.look q).isSome then ρ'.rcap q i else ρ.rcap q i⟩
section
variable {P : Program} {S : Store} {ρ : Rho} {H : HF} {w : World} {own : Nat -> Prop}
theorem addH_new {new : Heap} {r : Nat} {k : Blk} (h : new.look r = some k) : addH new H r = some k := by simp [addH, h]
theorem addH_old {new : Heap} {r : Nat} (h : new.look r = none) : addH new H r = H r := by simp [addH, h]
theorem foot_congr {ρ ρ' : Rho} {H H' : HF} {r j : Nat} (h : H r = H' r) (hc : ρ.cap r = ρ'.cap r) (hrc : ∀ i, ρ.rcap r i = ρ'.rcap r i) (hf : foot ρ H r j) : foot ρ' H' r j := by
  unfold foot at *; rw [<- h, <- hc]; simp only [<- hrc]; exact hf
theorem grow_call (hrel : Rel own S ρ H w) (hown : ∀ b, w.heap.size <= b -> own b) {new : Heap} (hnew : ∀ r, new.look r ≠ none -> H r = none) {S' : Store} {ρ' : Rho} {w' : World}
    (h1 : Rel (w.heap.size <= ·) S' ρ' new.look w') (h2 : S.le S') (h3 : ∀ b, S b = none -> S' b ≠ none -> w.heap.size <= b) (h4 : Kept (w.heap.size <= ·) w w') :
    Grow own S ρ H w S' (ρ.join ρ' new) (addH new H) w' /\ RhoKeep ρ' (ρ.join ρ' new) new.look (addH new H) := by
  have old : ∀ r k, H r = some k -> new.look r = none := fun r k h => by
    cases hn : new.look r with
    | none => rfl
    | some k' => have := hnew r (by rw [hn]; simp); rw [h] at this; cases this
  have kO : RhoKeep ρ (ρ.join ρ' new) H (addH new H) :=
    ⟨fun r k h => by rw [addH_old (old r k h)]; exact h, fun r k j h => by simp [Rho.join, old r k h], fun r k h => by simp [Rho.join, old r k h], fun r k i h => by simp [Rho.join, old r k h]⟩
  have kN : RhoKeep ρ' (ρ.join ρ' new) new.look (addH new H) :=
    ⟨fun r k h => addH_new h, fun r k j h => by simp [Rho.join, h], fun r k h => by simp [Rho.join, h], fun r k i h => by simp [Rho.join, h]⟩
  have hw : ∀ b c, OwnCells w b c -> OwnCells w' b c := fun b c ⟨el, he⟩ => by
    have hb : b < w.heap.size := (Array.getElem?_eq_some_iff.1 he).1
    exact ⟨el, by rw [h4.block b hb (by omega)]; exact he⟩
  have kept : Kept own w w' := ⟨h4.os, h4.tape, h4.output, h4.size, fun b hb ho => h4.block b hb (fun h => ho (hown b h)), h4.drawn⟩
  have fO : ∀ r j, new.look r = none -> foot (ρ.join ρ' new) (addH new H) r j -> foot ρ H r j := fun r j hn hf => foot_congr (addH_old hn) (by simp [Rho.join, hn]) (fun i => by simp [Rho.join, hn]) hf
  have fN : ∀ r j, new.look r ≠ none -> foot (ρ.join ρ' new) (addH new H) r j -> foot ρ' new.look r j := fun r j hn hf => by
    obtain ⟨k, hk⟩ := Option.ne_none_iff_exists'.1 hn
    exact foot_congr (by rw [addH_new hk, hk]) (by simp [Rho.join, hk]) (fun i => by simp [Rho.join, hk]) hf
  have bO : ∀ r j, new.look r = none -> (ρ.join ρ' new).blk r j = ρ.blk r j := fun r j hn => by simp [Rho.join, hn]
  have bN : ∀ r j, new.look r ≠ none -> (ρ.join ρ' new).blk r j = ρ'.blk r j := fun r j hn => by
    obtain ⟨k, hk⟩ := Option.ne_none_iff_exists'.1 hn; simp [Rho.join, hk]
  refine ⟨⟨⟨h1.stab, h1.amb, fun r k hr => ?_, fun r j hf => ?_, fun r j r' j' hf hf' e => ?_⟩, h2, fun b hb hb' => hown b (h3 b hb hb'), kO, kept⟩, kN⟩
  · by_cases hn : new.look r = none
    · rw [addH_old hn] at hr
      exact (hrel.blk r k hr).ext h2 kO hr hw
    · obtain ⟨k', hk⟩ := Option.ne_none_iff_exists'.1 hn
      rw [addH_new hk] at hr; cases hr
      exact (h1.blk r k hk).ext (fun _ _ h => h) kN hk (fun _ _ h => h)
  · by_cases hn : new.look r = none
    · have hf0 := fO r j hn hf
      rw [bO r j hn]
      obtain ⟨ho, hS⟩ := hrel.owned r j hf0
      refine ⟨ho, ?_⟩
      cases hS' : S' (ρ.blk r j) with
      | none => rfl
      | some c => have := h3 _ hS (by rw [hS']; simp); have := hrel.foot_lt hf0; omega
    · rw [bN r j hn]
      obtain ⟨ho, hS⟩ := h1.owned r j (fN r j hn hf)
      exact ⟨hown _ ho, hS⟩
  · by_cases hn : new.look r = none
    · by_cases hn' : new.look r' = none
      · rw [bO r j hn, bO r' j' hn'] at e
        exact hrel.sep _ _ _ _ (fO r j hn hf) (fO r' j' hn' hf') e
      · rw [bO r j hn, bN r' j' hn'] at e
        have a1 := hrel.foot_lt (fO r j hn hf)
        have a2 : w.heap.size <= _ := (h1.owned r' j' (fN r' j' hn' hf')).1
        omega
    · by_cases hn' : new.look r' = none
      · rw [bN r j hn, bO r' j' hn'] at e
        have a1 := hrel.foot_lt (fO r' j' hn' hf')
        have a2 : w.heap.size <= _ := (h1.owned r j (fN r j hn hf)).1
        omega
      · rw [bN r j hn, bN r' j' hn'] at e
        exact h1.sep _ _ _ _ (fN r j hn hf) (fN r' j' hn' hf') e
end
def frzA (keep : Nat -> Bool) (H : HF) : AV -> AV
  | .sl r => bif keep r then .sl r else match H r with | some (.arr v) => v | _ => .undef
  | .mt r => bif keep r then .mt r else match H r with | some (.mat xss) => .rows xss | _ => .undef
  | .mr r i => bif keep r then .mr r i else match H r with | some (.mat xss) => .ints (ix xss i) | _ => .undef
  | .bx r o => bif keep r then .bx r o else .undef
  | .pa r i => bif keep r then .pa r i else .undef
  | .pm r i j => bif keep r then .pm r i j else .undef
  | .po r i => bif keep r then .po r i else .undef
  | v => v
def Blk.tr (φ : AV -> AV) : Blk -> Blk
  | .box cs => .box (AV.trL φ cs)
  | k => k
def frzH (keep : Nat -> Bool) (H : HF) : HF := fun r => bif keep r then (H r).map (Blk.tr (frzA keep H)) else none
section
variable {S : Store} {ρ : Rho} {H : HF} {w : World} {own : Nat -> Prop}
theorem frzH_keep {keep : Nat -> Bool} {r : Nat} (h : keep r = true) : frzH keep H r = (H r).map (Blk.tr (frzA keep H)) := by simp [frzH, h]
theorem frzH_some {keep : Nat -> Bool} {r : Nat} {k : Blk} (h : frzH keep H r = some k) : keep r = true /\ ∃ k', H r = some k' /\ k = k'.tr (frzA keep H) := by
  unfold frzH at h
  cases hk : keep r with
  | true => rw [hk] at h; obtain ⟨k', h1, h2⟩ := Option.map_eq_some_iff.1 h; exact ⟨rfl, k', h1, h2.symm⟩
  | false => rw [hk] at h; cases h
theorem foot_frz {keep : Nat -> Bool} {r j : Nat} (h : foot ρ (frzH keep H) r j) : keep r = true /\ foot ρ H r j := by
  unfold foot at h
  split at h
  · exact h.elim
  all_goals
    rename_i hk
    obtain ⟨h1, k', h2, h3⟩ := frzH_some hk
    refine ⟨h1, ?_⟩
    unfold foot
    rw [h2]
    cases k' <;> simp [Blk.tr] at h3 <;> simp_all
open Classical in
theorem freeze2 (hrel : Rel own S ρ H w) (keep : Nat -> Bool) :
    ∃ S', S.le S' /\ (∀ b, S b = none -> S' b ≠ none -> own b) /\ Rel own S' ρ (frzH keep H) w /\ (∀ v cv, V S ρ H v cv -> V S' ρ (frzH keep H) (v.tr (frzA keep H)) cv) /\
      ∀ q j c, keep q = false -> foot ρ H q j -> OwnCells w (ρ.blk q j) c -> S' (ρ.blk q j) = some c := by
  let S' : Store := fun b => if S b = none then (if ∃ q j, keep q = false /\ foot ρ H q j /\ ρ.blk q j = b then (match w.heap[b]? with | some (.cells c _ _) => some c | _ => none) else none) else S b
  have hle : S.le S' := fun b c h => by show (if S b = none then _ else S b) = some c; rw [if_neg (by rw [h]; simp), h]
  have hfr : ∀ b, S b = none -> S' b ≠ none -> ∃ q j, keep q = false /\ foot ρ H q j /\ ρ.blk q j = b := fun b h1 h2 => by
    have e : S' b = if ∃ q j, keep q = false /\ foot ρ H q j /\ ρ.blk q j = b then (match w.heap[b]? with | some (.cells c _ _) => some c | _ => none) else none := by
      show (if S b = none then _ else S b) = _; rw [if_pos h1]
    rw [e] at h2
    split at h2
    · assumption
    · exact (h2 rfl).elim
  have hS' : ∀ q j c, keep q = false -> foot ρ H q j -> OwnCells w (ρ.blk q j) c -> S' (ρ.blk q j) = some c := fun q j c h1 h2 ⟨el, h3⟩ => by
    show (if S _ = none then _ else S _) = some c
    rw [if_pos (hrel.owned q j h2).2, if_pos ⟨q, j, h1, h2, rfl⟩, h3]
  have mono : ∀ {v cv}, Sees S v cv -> Sees S' v cv := fun h => h.mono hle
  have hV : ∀ v cv, V S ρ H v cv -> V S' ρ (frzH keep H) (v.tr (frzA keep H)) cv := by
    intro v cv hv
    refine hv.tr hle (fun a cv hra hv => ?_)
    have hb : ∀ r k, H r = some k -> keep r = true -> frzH keep H r = some (k.tr (frzA keep H)) := fun r k h1 h2 => by rw [frzH_keep h2, h1]; rfl
    cases hv with
    | pure _ _ h => cases a <;> simp [AV.isRef] at hra <;> (cases h with | lst _ _ _ _ _ he => simp [AV.elems] at he)
    | vec => cases hra
    | agg => cases hra
    | tup => cases hra
    | fn => cases hra
    | sl r v xs m a hr he ha =>
      cases hk : keep r with
      | true =>
        simp only [frzA, hk, cond_true]
        exact .sl r v xs m a (hb _ _ hr hk) he ha
      | false =>
        simp only [frzA, hk, cond_false, hr]
        obtain ⟨xs', m', c, he', hc, hl, hcap, hm, hcell⟩ := hrel.blk _ _ hr
        rw [he] at he'; simp only [Option.some.injEq, Prod.mk.injEq] at he'; obtain ⟨rfl, rfl⟩ := he'
        refine .pure _ _ (.lst v xs m a _ he hcap (ρ.blk r 0) 0 c (fun i j => c.getD (i * m + j) Go.undef) (fun hne => ?_) hm (fun i x j y hx hy => ?_) (fun i x j y hx hy => ?_))
        · have h0 : ρ.cap r ≠ 0 := fun e => hne (List.length_eq_zero_iff.1 (by omega))
          exact ⟨ha h0, hS' r 0 c hk (foot_arr hr h0) (hc h0)⟩
        · obtain ⟨u, hu, _⟩ := hcell i x j y hx hy; simp [hu]
        · obtain ⟨u, hu, hs⟩ := hcell i x j y hx hy
          rw [Array.getD_eq_getD_getElem?, hu]; exact mono hs
    | mt r xss a hr ha =>
      cases hk : keep r with
      | true => simp only [frzA, hk, cond_true]; exact .mt r xss a (hb _ _ hr hk) ha
      | false =>
        simp only [frzA, hk, cond_false, hr]
        obtain ⟨c, hc, hl, hcap, hrows⟩ := hrel.blk _ _ hr
        have e : xss.length = (xss.map AV.ints).length := by simp
        rw [e]
        refine .pure _ _ (.lst (.rows xss) (xss.map .ints) 1 a _ rfl (by simpa using hcap) (ρ.blk r 0) 0 c (fun i j => c.getD (i + j) Go.undef) (fun hne => ?_) (fun x hx => ?_) (fun i x j y hx hy => ?_) (fun i x j y hx hy => ?_))
        · have h0 : ρ.cap r ≠ 0 := fun e => hne (by simp; exact List.length_eq_zero_iff.1 (by omega))
          exact ⟨ha h0, hS' r 0 c hk (foot_mat hr h0) (hc h0)⟩
        · obtain ⟨row, _, rfl⟩ := List.mem_map.1 hx; rfl
        · rw [List.getElem?_map] at hx
          obtain ⟨row, hrow, rfl⟩ := Option.map_eq_some_iff.1 hx
          obtain ⟨⟨u, hu, _⟩, _⟩ := hrows i row hrow
          cases j with
          | zero => simp [hu]
          | succ j => simp [AV.cells] at hy
        · rw [List.getElem?_map] at hx
          obtain ⟨row, hrow, rfl⟩ := Option.map_eq_some_iff.1 hx
          obtain ⟨⟨u, hu, a', hc', rfl, ha'⟩, hd⟩ := hrows i row hrow
          cases j with
          | succ j => simp [AV.cells] at hy
          | zero =>
            simp only [AV.cells, List.getElem?_cons_zero, Option.some.injEq] at hy
            subst hy
            rw [Nat.add_zero, Array.getD_eq_getD_getElem?, hu]
            have e : row.length = (row.map AV.i).length := by simp
            simp only [Option.getD_some]
            rw [e]
            by_cases hne : row = []
            · subst hne
              exact .lst (.ints []) [] 1 a' _ rfl (Nat.zero_le _) 0 0 #[] (fun _ _ => Go.undef) (fun h => (h rfl).elim) (fun x hx => by cases hx) (fun i x j y hx => by simp at hx) (fun i x j y hx => by simp at hx)
            · have hne : ρ.rcap r i ≠ 0 := fun e => hne (List.length_eq_zero_iff.1 (by omega))
              obtain ⟨d, hdc, hdl, hdn⟩ := hd hne
              refine .lst (.ints row) (row.map .i) 1 a' _ rfl (by simpa using hc') (ρ.blk r (i + 1)) 0 d (fun i j => d.getD (i + j) Go.undef) (fun _ => ⟨ha' hne, hS' r (i + 1) d hk (foot_row hr hrow hne) hdc⟩) (fun x hx => ?_) (fun i x j y hx hy => ?_) (fun i x j y hx hy => ?_)
              · obtain ⟨n, _, rfl⟩ := List.mem_map.1 hx; rfl
              · rw [List.getElem?_map] at hx
                obtain ⟨n, hn, rfl⟩ := Option.map_eq_some_iff.1 hx
                cases j with
                | zero => simp [hdn _ _ hn]
                | succ j => simp [AV.cells] at hy
              · rw [List.getElem?_map] at hx
                obtain ⟨n, hn, rfl⟩ := Option.map_eq_some_iff.1 hx
                cases j with
                | zero =>
                  simp only [AV.cells, List.getElem?_cons_zero, Option.some.injEq] at hy
                  subst hy
                  rw [Nat.add_zero, Array.getD_eq_getD_getElem?, hdn _ _ hn]
                  exact .int _ _
                | succ j => simp [AV.cells] at hy
    | mr r i xss row cv hr h0 hi h =>
      cases hk : keep r with
      | true => simp only [frzA, hk, cond_true]; exact .mr r i xss row cv (hb _ _ hr hk) h0 hi h
      | false =>
        simp only [frzA, hk, cond_false, hr]
        obtain ⟨c, hc, hl, hcap, hrows⟩ := hrel.blk _ _ hr
        have e : ix xss i = row := by have := ix_get (List.getElem?_eq_some_iff.1 hi).1; rw [hi] at this; exact (Option.some.inj this).symm
        rw [e]
        obtain ⟨a', hc', rfl, ha'⟩ := h
        have e : row.length = (row.map AV.i).length := by simp
        rw [e]
        by_cases hne : row = []
        · subst hne
          exact .pure _ _ (.lst (.ints []) [] 1 a' _ rfl (Nat.zero_le _) 0 0 #[] (fun _ _ => Go.undef) (fun h => (h rfl).elim) (fun x hx => by cases hx) (fun i x j y hx => by simp at hx) (fun i x j y hx => by simp at hx))
        · have hne : ρ.rcap r i.toNat ≠ 0 := fun e => hne (List.length_eq_zero_iff.1 (by omega))
          obtain ⟨d, hdc, hdl, hdn⟩ := (hrows _ _ hi).2 hne
          refine .pure _ _ (.lst (.ints row) (row.map .i) 1 a' _ rfl (by simpa using hc') (ρ.blk r (i.toNat + 1)) 0 d (fun i j => d.getD (i + j) Go.undef) (fun _ => ⟨ha' hne, hS' r (i.toNat + 1) d hk (foot_row hr hi hne) hdc⟩) (fun x hx => ?_) (fun i x j y hx hy => ?_) (fun i x j y hx hy => ?_))
          · obtain ⟨n, _, rfl⟩ := List.mem_map.1 hx; rfl
          · rw [List.getElem?_map] at hx
            obtain ⟨n, hn, rfl⟩ := Option.map_eq_some_iff.1 hx
            cases j with
            | zero => simp [hdn _ _ hn]
            | succ j => simp [AV.cells] at hy
          · rw [List.getElem?_map] at hx
            obtain ⟨n, hn, rfl⟩ := Option.map_eq_some_iff.1 hx
            cases j with
            | zero =>
              simp only [AV.cells, List.getElem?_cons_zero, Option.some.injEq] at hy
              subst hy
              rw [Nat.add_zero, Array.getD_eq_getD_getElem?, hdn _ _ hn]
              exact .int _ _
            | succ j => simp [AV.cells] at hy
    | bx r off cs hr ho =>
      cases hk : keep r with
      | true => simp only [frzA, hk, cond_true]; exact .bx r off _ (hb _ _ hr hk) (by rw [AV.trL_eq]; simpa using ho)
      | false => simp only [frzA, hk, cond_false]; exact .pure _ _ (.undef _)
    | pa r i v xs m hr he h0 hi =>
      cases hk : keep r with
      | true => simp only [frzA, hk, cond_true]; exact .pa r i v xs m (hb _ _ hr hk) he h0 hi
      | false => simp only [frzA, hk, cond_false]; exact .pure _ _ (.undef _)
    | pm r i j xss row hr h0 hi hj0 hj =>
      cases hk : keep r with
      | true => simp only [frzA, hk, cond_true]; exact .pm r i j xss row (hb _ _ hr hk) h0 hi hj0 hj
      | false => simp only [frzA, hk, cond_false]; exact .pure _ _ (.undef _)
    | po r i xss hr h0 hi =>
      cases hk : keep r with
      | true => simp only [frzA, hk, cond_true]; exact .po r i xss (hb _ _ hr hk) h0 hi
      | false => simp only [frzA, hk, cond_false]; exact .pure _ _ (.undef _)
  refine ⟨S', hle, fun b h1 h2 => ?_, ⟨fun b c hb => ?_, hrel.amb.mono hle, fun r k hr => ?_, fun r j hf => ?_, fun r j r' j' hf hf' e => ?_⟩, hV, hS'⟩
  · obtain ⟨q, j, _, hf, rfl⟩ := hfr b h1 h2
    exact (hrel.owned q j hf).1
  · by_cases h : S b = none
    · obtain ⟨q, j, hq, hf, rfl⟩ := hfr b h (by rw [hb]; simp)
      obtain ⟨c', hc'⟩ := hrel.foot_cells hf
      have := hS' q j c' hq hf hc'
      rw [this] at hb; cases hb
      exact hc'.cellsIn
    · have : S' b = S b := by show (if S b = none then _ else S b) = _; rw [if_neg h]
      rw [this] at hb
      exact hrel.stab b c hb
  · obtain ⟨hk, k', hr', rfl⟩ := frzH_some hr
    have hb := hrel.blk r k' hr'
    cases k' with
    | box cs =>
      obtain ⟨c, h1, h2, h3⟩ := hb
      refine ⟨c, h1, by rw [AV.trL_eq]; simpa using h2, fun j x v hx hv => ?_⟩
      rw [AV.trL_eq, List.getElem?_map] at hx
      obtain ⟨y, hy, rfl⟩ := Option.map_eq_some_iff.1 hx
      exact hV _ _ (h3 j y v hy hv)
    | arr v => obtain ⟨xs, m, c, h1, h2, h3, h4, h5, h6⟩ := hb; exact ⟨xs, m, c, h1, h2, h3, h4, h5, fun i x j y hx hy => let ⟨u, hu, hs⟩ := h6 i x j y hx hy; ⟨u, hu, mono hs⟩⟩
    | mat xss => exact hb
  · obtain ⟨hk, hf0⟩ := foot_frz hf
    obtain ⟨ho, hS⟩ := hrel.owned r j hf0
    refine ⟨ho, ?_⟩
    cases h' : S' (ρ.blk r j) with
    | none => rfl
    | some c =>
      obtain ⟨q, j', hq, hf', e⟩ := hfr _ hS (by rw [h']; simp)
      obtain ⟨rfl, _⟩ := hrel.sep _ _ _ _ hf' hf0 e
      rw [hk] at hq; cases hq
  · exact hrel.sep _ _ _ _ (foot_frz hf).2 (foot_frz hf').2 e
theorem freeze (hrel : Rel own S ρ H w) (keep : Nat -> Bool) :
    ∃ S', S.le S' /\ (∀ b, S b = none -> S' b ≠ none -> own b) /\ Rel own S' ρ (frzH keep H) w /\ ∀ v cv, V S ρ H v cv -> V S' ρ (frzH keep H) (v.tr (frzA keep H)) cv := by
  obtain ⟨S', h1, h2, h3, h4, _⟩ := freeze2 hrel keep
  exact ⟨S', h1, h2, h3, h4⟩
end
end Go.Vc
namespace Go.Vc
open Go.RowKit
def AV.cell1 : AV -> Bool
  | .agg _ | .tup _ | .skipd | .undef => false
  | _ => true
def catE : AV -> AV -> Option AV
  | .ints a, .ints b => some (.ints (a ++ b))
  | .rows a, .rows b => some (.rows (a ++ b))
  | .strs a, .strs b => some (.strs (a ++ b))
  | .bools a, .bools b => some (.bools (a ++ b))
  | .pairs a, .pairs b => some (.pairs (a ++ b))
  | .bytes a, .bytes b => some (.bytes (a ++ b))
  | .ints a, .nils => some (.ints a)
  | .rows a, .nils => some (.rows a)
  | .strs a, .nils => some (.strs a)
  | .bools a, .nils => some (.bools a)
  | .pairs a, .nils => some (.pairs a)
  | .bytes a, .nils => some (.bytes a)
  | _, _ => none
def ap (P : Program) (t : TypeId) : Option (Nat × Nat) :=
  match P.underlying t with
  | some (.slice e) => match P.info? e with
    | some i => match i.zero with
      | some z => if z.cells.size = i.size then some (i.size, i.bytes) else none
      | none => none
    | none => none
  | _ => none
def apP (z : Option (Nat × Nat)) (m l : Nat) : Prop :=
  match z with
  | some (k, b) => k = m /\ l * (b + 1) <= 140737488355328
  | none => False
def isSl (P : Program) (t : TypeId) : Prop := ∃ e, P.underlying t = some (.slice e)
section
variable {P : Program} {S : Store} {ρ : Rho} {H : HF} {w : World} {own : Nat -> Prop}
theorem V.oneCell {v : AV} {cv : Value} (h : V S ρ H v cv) (h1 : v.cell1 = true) : cv.oneCell' = true /\ cv.cells = #[cv] := by
  cases h with
  | pure _ _ h => cases h <;> first | exact ⟨rfl, rfl⟩ | simp [AV.cell1] at h1
  | agg => simp [AV.cell1] at h1
  | tup => simp [AV.cell1] at h1
  | mr _ _ _ _ _ _ _ _ h => obtain ⟨a, _, rfl, _⟩ := h; exact ⟨rfl, rfl⟩
  | _ => exact ⟨rfl, rfl⟩
theorem ap_spec {ts : TypeId} {m b : Nat} (h : ap P ts = some (m, b)) : ∃ e i z, P.underlying ts = some (.slice e) /\ P.info? e = some i /\ i.zero = some z /\ z.cells.size = m /\ i.size = m /\ i.bytes = b := by
  unfold ap at h
  split at h <;> first | (cases h; done) | skip
  rename_i e he
  split at h <;> first | (cases h; done) | skip
  rename_i i hi
  split at h <;> first | (cases h; done) | skip
  rename_i z hz
  split at h <;> first | (cases h; done) | skip
  rename_i hsz
  simp only [Option.some.injEq, Prod.mk.injEq] at h
  exact ⟨e, i, z, he, hi, hz, by rw [hsz]; exact h.1, h.1, h.2⟩
theorem elems_m {v : AV} {xs : List AV} {m : Nat} (h : v.elems = some (xs, m)) : (m = 1 \/ m = 2) /\ widthOf v = m := by
  cases v <;> simp only [AV.elems, Option.some.injEq, Prod.mk.injEq, reduceCtorEq] at h <;> obtain ⟨rfl, rfl⟩ := h <;> simp [widthOf]
theorem elems_cell {v : AV} {xs : List AV} {m : Nat} (h : v.elems = some (xs, m)) : ∀ x ∈ xs, ∀ y ∈ x.cells, y.cell1 = true /\ y.pure1 = true := by
  cases v <;> simp only [AV.elems, Option.some.injEq, Prod.mk.injEq, reduceCtorEq] at h <;> obtain ⟨rfl, rfl⟩ := h <;> intro x hx <;> obtain ⟨a, _, rfl⟩ := List.mem_map.1 hx <;> intro y hy <;>
    simp only [AV.cells, List.mem_cons, or_false, List.not_mem_nil] at hy <;> (first | (subst hy; exact ⟨rfl, rfl⟩) | (rcases hy with rfl | rfl <;> exact ⟨rfl, rfl⟩))
theorem elems_pure1 {v : AV} {xs : List AV} {m : Nat} (h : v.elems = some (xs, m)) : v.pure1 = true := by
  cases v <;> simp only [AV.elems, reduceCtorEq] at h <;> rfl
theorem elems_cells {v : AV} {xs : List AV} {m : Nat} (h : v.elems = some (xs, m)) : ∀ x ∈ xs, x.cells.length = m := by
  cases v <;> simp only [AV.elems, Option.some.injEq, Prod.mk.injEq, reduceCtorEq] at h <;> obtain ⟨rfl, rfl⟩ := h <;> intro x hx <;> obtain ⟨a, _, rfl⟩ := List.mem_map.1 hx <;> rfl
theorem catE_spec {v y v' : AV} (h : catE v y = some v') : ∃ xs m ys, v.elems = some (xs, m) /\ v'.elems = some (xs ++ ys, m) /\ (y.elems = some (ys, m) \/ (y = .nils /\ ys = [])) := by
  unfold catE at h
  split at h <;> first | (cases h; done) | skip
  all_goals
    simp only [Option.some.injEq] at h
    subst h
    first
      | exact ⟨_, _, _, rfl, by simp [AV.elems], .inl rfl⟩
      | exact ⟨_, _, [], rfl, by simp [AV.elems], .inr ⟨rfl, rfl⟩⟩
theorem src_ok (hrel : Rel own S ρ H w) {y : AV} {ys : List AV} {m : Nat} (hm : m = 1 \/ m = 2) (he : y.elems = some (ys, m) \/ (y = .nils /\ ys = [])) {cv : Value} (hv : V S ρ H y cv) {tx : TypeId} (ht : isSl P tx) :
    ∃ news : List Value, Src P m tx cv ys.length news w /\ ∀ (i : Nat) x (j : Nat) z, ys[i]? = some x -> x.cells[j]? = some z -> ∃ u, news[i * m + j]? = some u /\ Sees S z u := by
  obtain ⟨e', ht⟩ := ht
  have empty : ∀ a c, ys = [] -> cv = .slice a 0 c -> ∃ news : List Value, Src P m tx cv ys.length news w /\ ∀ (i : Nat) x (j : Nat) z, ys[i]? = some x -> x.cells[j]? = some z -> ∃ u, news[i * m + j]? = some u /\ Sees S z u := by
    rintro a c rfl rfl
    refine ⟨[], ?_, fun i x j z hx => by simp at hx⟩
    cases a with
    | none => exact Src.ofNil w ht c
    | some a => exact Src.ofSlice w ht a 0 c [] (by simp) (fun j u h => by simp at h) (fun u h => by cases h)
  rcases he with he | ⟨rfl, rfl⟩
  · have hs := hv.sees1 (elems_pure1 he)
    cases hs with
    | lst v xs m' a cap he' hcap b off c vals hrow hmm hc hss =>
      rw [he] at he'; simp only [Option.some.injEq, Prod.mk.injEq] at he'; obtain ⟨rfl, rfl⟩ := he'
      by_cases hne : ys = []
      · subst hne; exact empty a cap rfl rfl
      · obtain ⟨rfl, hS⟩ := hrow hne
        have hmpos : 0 < m := by omega
        have hcell := hrel.stab b c hS
        have split : ∀ k, k < ys.length * m -> ∃ x z, ys[k / m]? = some x /\ x.cells[k % m]? = some z /\ k / m * m + k % m = k := by
          intro k hk
          have h1 : k / m < ys.length := (Nat.div_lt_iff_lt_mul hmpos).2 hk
          have h2 : k % m < m := Nat.mod_lt _ hmpos
          have h3 : (ys[k / m]).cells.length = m := hmm _ (List.getElem_mem h1)
          exact ⟨ys[k / m], (ys[k / m]).cells[k % m]'(by omega), by simp [h1], by simp [h3, h2], by rw [Nat.mul_comm]; exact Nat.div_add_mod k m⟩
        refine ⟨(List.range (ys.length * m)).map fun k => vals (k / m) (k % m), ?_, fun i x j z hx hz => ?_⟩
        · refine Src.ofSlice w ht ⟨b, off, none⟩ ys.length cap _ (by simp) (fun j u hu => ?_) (fun u hu => ?_)
          · rw [List.getElem?_map] at hu
            obtain ⟨k, hk, rfl⟩ := Option.map_eq_some_iff.1 hu
            obtain ⟨hlt, rfl⟩ : j < ys.length * m /\ j = k := by
              have := List.getElem?_eq_some_iff.1 hk
              obtain ⟨h1, h2⟩ := this
              simp at h1 h2; exact ⟨h1, h2⟩
            obtain ⟨x, z, h1, h2, h3⟩ := split j hlt
            have h4 := hc _ _ _ _ h1 h2
            rw [Nat.add_assoc, h3] at h4
            rw [Addr.add_lit]; exact (hcell.cell _).trans h4
          · obtain ⟨k, hk, rfl⟩ := List.mem_map.1 hu
            obtain ⟨x, z, h1, h2, h3⟩ := split k (List.mem_range.1 hk)
            exact (V.oneCell (ρ := ρ) (H := H) (.pure _ _ (hss _ _ _ _ h1 h2)) (elems_cell he x (List.mem_of_getElem? h1) z (List.mem_of_getElem? h2)).1).1
        · have hi := (List.getElem?_eq_some_iff.1 hx).1
          have hj := (List.getElem?_eq_some_iff.1 hz).1
          rw [hmm _ (List.mem_of_getElem? hx)] at hj
          have e1 : (i * m + j) / m = i := by rw [Nat.mul_comm, Nat.mul_add_div hmpos, Nat.div_eq_of_lt hj, Nat.add_zero]
          have e2 : (i * m + j) % m = j := by rw [Nat.mul_comm, Nat.mul_add_mod, Nat.mod_eq_of_lt hj]
          have e3 : i * m + j < ys.length * m := by
            have : (i + 1) * m <= ys.length * m := Nat.mul_le_mul_right _ hi
            rw [Nat.add_mul] at this; omega
          refine ⟨vals i j, ?_, hss i x j z hx hz⟩
          rw [List.getElem?_map]
          simp [e1, e2, e3]
    | _ => simp [AV.elems] at he
  · obtain ⟨a, rfl⟩ := hv.nils_inv
    exact empty a 0 rfl rfl
end
end Go.Vc
namespace Go.Vc
open Go.RowKit
def sd (P : Program) (t : TypeId) : Option Value :=
  match P.underlying t with
  | some (.slice e) => (P.info? e).bind (·.zero)
  | _ => none
def seedL (z : Option Value) (n : Nat) : Option AV :=
  match z with
  | some (.int .i64 k) => some (.ints (List.replicate n k))
  | some (.bool b) => some (.bools (List.replicate n b))
  | some (.int .u8 0) => some (.bytes (List.replicate n 0))
  | some (.string s) => some (.strs (List.replicate n s))
  | some (.slice none 0 0) => some (.rows (List.replicate n []))
  | some (.agg ⟨[.int .i64 a, .int .i64 b]⟩) => some (.pairs (List.replicate n (a, b)))
  | _ => none
def consV (v : AV) (l : Option AV) : Option AV :=
  match l, v with
  | some (.ints xs), .int .i64 n => some (.ints (n :: xs))
  | some (.bools xs), .bool b => some (.bools (b :: xs))
  | some (.bools xs), .tt => some (.bools (true :: xs))
  | some (.bools xs), .ff => some (.bools (false :: xs))
  | some (.strs xs), .str s => some (.strs (s :: xs))
  | some (.rows xs), .ints r => some (.rows (r :: xs))
  | some (.rows xs), .nils => some (.rows ([] :: xs))
  | some (.pairs xs), .agg [.int .i64 a, .int .i64 b] => some (.pairs ((a, b) :: xs))
  | some (.bytes xs), .int .u8 n => if 0 <= n /\ n <= 255 then some (.bytes (UInt8.ofNat n.toNat :: xs)) else none
  | _, _ => none
def mkL (s : Option AV) : List AV -> Option AV
  | [] => s
  | v :: l => consV v (mkL s l)
def inOrder : Nat -> List Nat -> Bool
  | _, [] => true
  | k, i :: l => bif k == i then inOrder (k + 1) l else false
structure Res where
  pre : Prop
  val : AV
  new : Heap
  cnt : Nat
def noRes : Res := ⟨False, .undef, [], 0⟩
def newL (own : Bool) (n : Nat) (p : Prop) (v : Option AV) : Res :=
  match v with
  | some v => bif own then ⟨p, .sl n, [(n, .arr v)], 1⟩ else ⟨p, v, [], 0⟩
  | none => noRes
def buildR (P : Program) (own : Bool) (n : Nat) (t : TypeId) (len : Nat) (is : List Nat) (vs : List AV) : Res :=
  newL own n ((inOrder 0 is = true /\ is.length = len) /\ (ap P t).isSome = true /\ len <= 1000000) (mkL (seedL (sd P t) 0) vs)
def makeR (P : Program) (own : Bool) (n : Nat) (t : TypeId) (l c : AV) : Res :=
  match l, c with
  | .int _ l, .int _ c => newL own n ((0 <= l /\ l <= c) /\ apP (ap P t) (match ap P t with | some (m, _) => m | none => 0) c.toNat) (seedL (sd P t) l.toNat)
  | _, _ => noRes
def isList : AV -> Bool
  | .ints _ | .rows _ | .strs _ | .bools _ | .pairs _ | .bytes _ => true
  | _ => false
def appN (P : Program) (own : Bool) (n : Nat) (ts tx : TypeId) (s y : AV) : Res :=
  match s with
  | .nils => newL own n (apP (ap P ts) (widthOf y) (lenOf y) /\ isSl P tx) (bif isList y then some y else none)
  | _ => noRes
section
variable {P : Program} {S : Store} {ρ : Rho} {H : HF} {w : World} {own : Nat -> Prop} {o : Oper} {e : Env} {hF : HF} {n : Nat}
theorem newL_ok {ow : Bool} {p : Prop} {v : Option AV} (hp : (newL ow n p v).pre)
    (hrun : ∀ (S : Store) (ρ : Rho) (H : HF) (a : Act) (w : World), Rel own S ρ H w -> (∀ x, x ∈ o.op.operands -> V S ρ H (opnd e x) (a.eval x)) -> p -> ∀ u, v = some u -> ∃ xs m cap, u.elems = some (xs, m) /\
      ((∃ c el, (execOp a.eval o).run P w = .ok (.value (.slice (some ⟨w.heap.size, 0, none⟩) xs.length cap)) (w.alloc (.cells c el)) /\ c.size = cap * m /\ xs.length <= cap /\ ArrIs S c xs m) \/
       (∃ c el, (execOp a.eval o).run P w = .ok (.value (.slice (some ⟨w.heap.size, 0, none⟩) xs.length cap)) (w.drew.alloc (.cells c el)) /\ c.size = cap * m /\ xs.length <= cap /\ ArrIs S c xs m) \/
       (∃ a0, (execOp a.eval o).run P w = .ok (.value (.slice a0 0 0)) w /\ xs = []))) :
    OpOK P own o e hF (newL ow n p v).val (newL ow n p v).new := by
  intro S ρ H a w hown hsub hrel hx hnew next Q hK
  cases v with
  | none => exact hp.elim
  | some u =>
    have hpp : p := by cases ow <;> exact hp
    obtain ⟨xs, m, cap, he, hr⟩ := hrun S ρ H a w hrel hx hpp u rfl
    have one : ∀ (w1 : World) (c : Array Value) (el : TypeId), Rel own S ρ H w1 -> w1.heap.size = w.heap.size -> Kept own w w1 -> (execOp a.eval o).run P w = .ok (.value (.slice (some ⟨w.heap.size, 0, none⟩) xs.length cap)) (w1.alloc (.cells c el)) -> c.size = cap * m -> xs.length <= cap -> ArrIs S c xs m -> o.wp P a w next Q := by
      intro w1 c el hrel1 hsz hkept hr hc hcap harr
      unfold Oper.wp
      rw [hr]
      rw [<- hsz]
      cases ow with
      | true =>
        have hn : H n = none := hnew n (by simp [newL, Heap.look])
        obtain ⟨g, hv⟩ := arr_own hrel1 (fun b hb => hown b (by omega)) hn c el u xs m cap he hc hcap harr
        exact hK _ _ _ _ ⟨g.rel, g.store, g.fresh, g.keep, hkept.trans g.kept⟩ hv
      | false =>
        obtain ⟨g, hv⟩ := arr_stable hrel1 (fun b hb => hown b (by omega)) c el u xs m cap he hcap harr
        exact hK _ _ _ _ ⟨g.rel, g.store, g.fresh, g.keep, hkept.trans g.kept⟩ hv
    rcases hr with ⟨c, el, hr, h1, h2, h3⟩ | ⟨c, el, hr, h1, h2, h3⟩ | ⟨a0, hr, rfl⟩
    · exact one w c el hrel rfl (.refl _ _) hr h1 h2 h3
    · exact one w.drew c el ⟨hrel.stab, hrel.amb, hrel.blk, hrel.owned, hrel.sep⟩ rfl ((Kept.refl _ _).drew _) hr h1 h2 h3
    · unfold Oper.wp
      rw [hr]
      cases ow with
      | true =>
        have hn : H n = none := hnew n (by simp [newL, Heap.look])
        have hkeep := keep_add (ρ := ρ) (k := Blk.arr u) hn 0 0
        have hcap : (ρ.set n 0 0).cap n = 0 := by simp [Rho.set]
        refine hK _ S (ρ.set n 0 0) w ⟨⟨hrel.stab, hrel.amb, fun q k' hq => ?_, fun q j hf => ?_, fun q j q' j' h1 h2 e' => ?_⟩, fun _ _ h => h, fun b h1 h2 => absurd h1 h2, hkeep, .refl _ _⟩ ?_
        · by_cases e' : q = n
          · subst e'; rw [show addH (newL true q p (some u)).new H q = some (.arr u) from addH_self _ _ _] at hq; cases hq
            exact ⟨[], m, #[], he, fun h0 => (h0 hcap).elim, by rw [hcap]; simp, by simp, fun x hx => (by cases hx), fun i x j y hx => by simp at hx⟩
          · rw [show addH (newL true n p (some u)).new H q = H q from addH_other _ _ e'] at hq
            exact (hrel.blk q k' hq).ext (fun _ _ h => h) hkeep hq (fun _ _ h => h)
        · by_cases e' : q = n
          · subst e'; unfold foot at hf; rw [show addH (newL true q p (some u)).new H q = some (.arr u) from addH_self _ _ _] at hf; exact (hf.2 hcap).elim
          · unfold foot at hf; rw [show addH (newL true n p (some u)).new H q = H q from addH_other _ _ e'] at hf
            have hf' : foot ρ H q j := by unfold foot; simpa [Rho.set, e'] using hf
            have := hrel.owned q j hf'
            simpa [Rho.set, e'] using this
        · have fo : ∀ q j, foot (ρ.set n 0 0) (addH (newL true n p (some u)).new H) q j -> q ≠ n /\ foot ρ H q j := fun q j hf => by
            by_cases e' : q = n
            · subst e'; unfold foot at hf; rw [show addH (newL true q p (some u)).new H q = some (.arr u) from addH_self _ _ _] at hf; exact (hf.2 hcap).elim
            · refine ⟨e', ?_⟩
              unfold foot at hf ⊢; rw [show addH (newL true n p (some u)).new H q = H q from addH_other _ _ e'] at hf; simpa [Rho.set, e'] using hf
          obtain ⟨n1, f1⟩ := fo q j h1
          obtain ⟨n2, f2⟩ := fo q' j' h2
          exact hrel.sep q j q' j' f1 f2 (by simpa [Rho.set, n1, n2] using e')
        · have := V.sl (S := S) (ρ := ρ.set n 0 0) (H := addH [(n, .arr u)] H) n u [] m a0 (addH_self _ _ _) he (fun h0 => (h0 hcap).elim)
          rw [hcap] at this
          exact this
      | false =>
        refine hK _ S ρ w ⟨hrel, fun _ _ h => h, fun b h1 h2 => absurd h1 h2, .refl _ _, .refl _ _⟩ (.pure _ _ ?_)
        exact .lst u [] m a0 0 he (Nat.le_refl _) 0 0 #[] (fun _ _ => Go.undef) (fun h => (h rfl).elim) (fun x hx => by cases hx) (fun i x j y hx => by simp at hx) (fun i x j y hx => by simp at hx)
theorem isList_elems {y : AV} (h : isList y = true) : ∃ xs m, y.elems = some (xs, m) := by
  cases y <;> simp [isList] at h <;> exact ⟨_, _, rfl⟩
theorem appN_ok {ow : Bool} {s y : Operand} {ts tx : TypeId} (ho : o.op = .call ⟨.builtin .append, ⟨[s, y]⟩, ⟨[ts, tx]⟩⟩) (hp : (appN P ow n ts tx (opnd e s) (opnd e y)).pre) :
    OpOK P own o e hF (appN P ow n ts tx (opnd e s) (opnd e y)).val (appN P ow n ts tx (opnd e s) (opnd e y)).new := by
  generalize hsa : opnd e s = sa at *
  generalize hya : opnd e y = ya at *
  unfold appN at hp ⊢
  split at hp <;> first | exact hp.elim | skip
  refine newL_ok hp (fun S ρ H a w hrel hx hpp u hu => ?_)
  rw [ho] at hx
  have hvs := hx s (by simp [Op.operands, Call.operands])
  have hvy := hx y (by simp [Op.operands, Call.operands])
  rw [hsa] at hvs
  rw [hya] at hvy
  cases hil : isList ya with
  | false => rw [hil] at hu; cases hu
  | true =>
    rw [hil] at hu
    simp only [cond_true, Option.some.injEq] at hu
    subst hu
    obtain ⟨ys, m, he⟩ := isList_elems hil
    obtain ⟨hm12, hwid⟩ := elems_m he
    obtain ⟨hap, hsl⟩ := hpp
    rw [hwid, <- elems_len he] at hap
    unfold apP at hap
    split at hap <;> first | exact hap.elim | skip
    rename_i k b hz
    obtain ⟨rfl, hbytes⟩ := hap
    have hbytes2 : ys.length * b <= 140737488355328 := Nat.le_trans (Nat.mul_le_mul_left _ (Nat.le_succ b)) hbytes
    have hl1 : ys.length <= 140737488355328 := Nat.le_trans (Nat.le_mul_of_pos_right _ (Nat.succ_pos b)) hbytes
    obtain ⟨el, i, z, ht, hi, hzero, hzs, hsize, hby⟩ := ap_spec hz
    obtain ⟨news, hsrc, hnews⟩ := src_ok hrel hm12 (.inl he) hvy hsl
    have hnl := hsrc.newsLen
    obtain ⟨a0, hval⟩ := hvs.nils_inv
    by_cases hne : ys = []
    · subst hne
      have hn0 : news = [] := List.length_eq_zero_iff.1 (by rw [hnl]; simp)
      subst hn0
      refine ⟨[], k, 0, he, .inr (.inr ⟨a0, ?_, rfl⟩)⟩
      have := run_append_nothing w ts tx o.type el i ht hi a0 0 0 (Nat.zero_le _) (a.eval y) (by rw [hsize]; exact hsrc)
      simp [execOp, ho, resolve, invoke, builtin, hval, this]
    · have hpos : 0 < ys.length := List.length_pos_iff.2 hne
      have hold : (Builtin.firstCells i.size 0 (.slice a0 0 0)).run P w.drew = .ok ([] : List Value).toArray w.drew := by
        cases a0 with
        | none => simpa using run_firstCells_none (P := P) w.drew i.size 0 0 0
        | some a0 => simpa using run_firstCells_some (P := P) w.drew i.size 0 a0 0 0 [] (by simp) (fun j u hu => by simp at hu)
      have hrun := run_append_grow_src (P := P) w ts tx o.type el i z ht hi hzero a0 0 0 [] hold (a.eval y) ys.length news (by rw [hsize]; exact hsrc) (by omega) (by omega) (by rw [hby]; exact growslice_fits (by omega) (by simpa using hbytes2))
      have hgc := grownCap_ge w (0 + ys.length) 0 el
      generalize grownCap w (0 + ys.length) 0 el = gc at hrun hgc
      refine ⟨ys, k, gc, he, .inr (.inl ⟨(([] : List Value) ++ news).toArray ++ Builtin.zeroCells z.cells (gc - (0 + ys.length)), el, ?_, ?_, by simpa using hgc, ⟨elems_cells he, fun i x j z hx hz => ?_⟩⟩)⟩
      · simp only [Nat.zero_add] at hrun ⊢
        simp [execOp, ho, resolve, invoke, builtin, hval, hrun]
      · simp [Builtin.zeroCells, hzs, hnl]
        rw [<- Nat.add_mul]; congr 1; omega
      · obtain ⟨u, hu, hsu⟩ := hnews i x j z hx hz
        have hlt := (List.getElem?_eq_some_iff.1 hu).1
        exact ⟨u, by rw [Array.getElem?_append_left (by simpa using hlt)]; simpa using hu, hsu⟩
end
end Go.Vc
namespace Go.Vc
open Go.RowKit
section
variable {P : Program} {S : Store} {ρ : Rho} {H : HF} {w : World} {own : Nat -> Prop} {o : Oper} {e : Env} {hF : HF} {n : Nat}
theorem seedL_spec {z : Value} {k : Nat} {u : AV} (h : seedL (some z) k = some u) : ∃ x m, u.elems = some (List.replicate k x, m) /\ z.cells.size = m /\ 0 < m /\ x.cells.length = m /\ ∀ (S : Store) (j : Nat) y, x.cells[j]? = some y -> ∃ cv, z.cells[j]? = some cv /\ Sees S y cv := by
  unfold seedL at h
  split at h <;> simp only [reduceCtorEq, Option.some.injEq] at h
  · rename_i z0 q hz; cases hz; subst h
    exact ⟨.int .i64 q, 1, by simp [AV.elems], rfl, by omega, rfl, fun S j y hy => by cases j with | zero => simp [AV.cells] at hy; subst hy; exact ⟨_, rfl, .int _ _⟩ | succ j => simp [AV.cells] at hy⟩
  · rename_i z0 b hz; cases hz; subst h
    exact ⟨.bool b, 1, by simp [AV.elems], rfl, by omega, rfl, fun S j y hy => by cases j with | zero => simp [AV.cells] at hy; subst hy; exact ⟨_, rfl, .bool _⟩ | succ j => simp [AV.cells] at hy⟩
  · rename_i z0 hz; cases hz; subst h
    exact ⟨.byte 0, 1, by simp [AV.elems], rfl, by omega, rfl, fun S j y hy => by cases j with | zero => simp [AV.cells] at hy; subst hy; exact ⟨_, rfl, .int _ _⟩ | succ j => simp [AV.cells] at hy⟩
  · rename_i z0 b hz; cases hz; subst h
    exact ⟨.str b, 1, by simp [AV.elems], rfl, by omega, rfl, fun S j y hy => by cases j with | zero => simp [AV.cells] at hy; subst hy; exact ⟨_, rfl, .str _⟩ | succ j => simp [AV.cells] at hy⟩
  · rename_i z0 hz; cases hz; subst h
    exact ⟨.ints [], 1, by simp [AV.elems], rfl, by omega, rfl, fun S j y hy => by
      cases j with
      | zero =>
        simp [AV.cells] at hy; subst hy
        exact ⟨_, rfl, .lst (.ints []) [] 1 none 0 rfl (Nat.le_refl _) 0 0 #[] (fun _ _ => Go.undef) (fun h => (h rfl).elim) (fun x hx => by cases hx) (fun i x j y hx => by simp at hx) (fun i x j y hx => by simp at hx)⟩
      | succ j => simp [AV.cells] at hy⟩
  · rename_i z0 a b hz; cases hz; subst h
    exact ⟨.pair (a, b), 2, by simp [AV.elems], rfl, by omega, rfl, fun S j y hy => by
      rcases j with _ | _ | j
      · simp [AV.cells] at hy; subst hy; exact ⟨_, rfl, .int _ _⟩
      · simp [AV.cells] at hy; subst hy; exact ⟨_, rfl, .int _ _⟩
      · simp [AV.cells] at hy⟩
theorem sd_some {t : TypeId} {m b : Nat} (h : ap P t = some (m, b)) : ∃ e i z, P.underlying t = some (.slice e) /\ P.info? e = some i /\ i.zero = some z /\ z.cells.size = m /\ i.size = m /\ i.bytes = b /\ sd P t = some z := by
  obtain ⟨e, i, z, h1, h2, h3, h4, h5, h6⟩ := ap_spec h
  exact ⟨e, i, z, h1, h2, h3, h4, h5, h6, by simp [sd, h1, h2, h3]⟩
theorem makeR_ok {ow : Bool} {l c : Operand} {t : TypeId} (ho : o.op = .makeSlice t l c) (hp : (makeR P ow n t (opnd e l) (opnd e c)).pre) :
    OpOK P own o e hF (makeR P ow n t (opnd e l) (opnd e c)).val (makeR P ow n t (opnd e l) (opnd e c)).new := by
  generalize hla : opnd e l = la at *
  generalize hca : opnd e c = ca at *
  unfold makeR at hp ⊢
  split at hp <;> first | exact hp.elim | skip
  rename_i kl lv kc cv
  refine newL_ok hp (fun S ρ H a w hrel hx hpp u hu => ?_)
  rw [ho] at hx
  have hvl := hx l (by simp [Op.operands])
  have hvc := hx c (by simp [Op.operands])
  rw [hla] at hvl; rw [hca] at hvc
  obtain ⟨⟨h0, hlc⟩, hap⟩ := hpp
  unfold apP at hap
  split at hap <;> first | exact hap.elim | skip
  rename_i m b hz
  obtain ⟨-, hbytes⟩ := hap
  obtain ⟨el, i, z, ht, hi, hzero, hzs, hsize, hby, hsd⟩ := sd_some hz
  rw [hsd] at hu
  obtain ⟨x, m', he, hm, hmpos, hxl, hcell⟩ := seedL_spec hu
  obtain rfl : m' = m := by rw [<- hm, hzs]
  have hbytes2 : cv.toNat * b <= 140737488355328 := Nat.le_trans (Nat.mul_le_mul_left _ (Nat.le_succ b)) hbytes
  have hl1 : cv.toNat <= 140737488355328 := Nat.le_trans (Nat.le_mul_of_pos_right _ (Nat.succ_pos b)) hbytes
  have hrun := run_make (P := P) w t el i z ht hi hzero kl kc lv cv h0 hlc (by
    rw [hby]
    have : ((cv.toNat * b : Nat) : Int) <= ((140737488355328 : Nat) : Int) := Int.ofNat_le.2 hbytes2
    rw [Int.natCast_mul, show ((cv.toNat : Nat) : Int) = cv by omega, Int.mul_comm] at this
    omega) (by omega)
  refine ⟨_, m', cv.toNat, he, .inl ⟨madeCells z.cells (cv.toNat * i.size), el, ?_, by rw [size_madeCells, hsize], by simp; omega, ⟨elems_cells he, fun q x' j y hx' hy => ?_⟩⟩⟩
  · simp [execOp, ho, hvl.int_inv, hvc.int_inv, hrun]
  · rw [List.getElem?_replicate] at hx'
    split at hx' <;> cases hx'
    rename_i hq
    obtain ⟨v, hv, hs⟩ := hcell S j y hy
    have hj := (Array.getElem?_eq_some_iff.1 hv).1
    rw [hm] at hj
    have hlt : q * m' + j < cv.toNat * i.size := by
      rw [hsize]
      have : (q + 1) * m' <= cv.toNat * m' := Nat.mul_le_mul_right _ (by omega)
      rw [Nat.add_mul] at this; omega
    refine ⟨v, ?_, hs⟩
    have e2 : (q * m' + j) % z.cells.size = j := by rw [hm, Nat.mul_comm, Nat.mul_add_mod, Nat.mod_eq_of_lt hj]
    simp [madeCells, hlt, e2]
    rw [Array.getElem!_eq_getD, Array.getD_eq_getD_getElem?, hv]; rfl
theorem foldl_put (off : Nat) : ∀ (l : List Value) (k : Nat) (cs : Array Value), off + k + l.length <= cs.size ->
    ((l.zipIdx k).foldl (fun cs (x : Value × Nat) => cs.setIfInBounds (off + x.2) x.1) cs).size = cs.size /\
    ∀ q : Nat, ((l.zipIdx k).foldl (fun cs (x : Value × Nat) => cs.setIfInBounds (off + x.2) x.1) cs)[q]? = if off + k <= q /\ q < off + k + l.length then l[q - off - k]? else cs[q]?
  | [], k, cs, _ => ⟨rfl, fun q => by rw [if_neg (by simp)]; rfl⟩
  | v :: l, k, cs, h => by
    simp only [List.length_cons] at h
    obtain ⟨h1, h2⟩ := foldl_put off l (k + 1) (cs.setIfInBounds (off + k) v) (by simp; omega)
    simp only [List.zipIdx_cons, List.foldl_cons]
    refine ⟨by rw [h1]; simp, fun q => ?_⟩
    rw [h2]
    simp only [List.length_cons]
    by_cases e1 : q = off + k
    · subst e1
      rw [if_neg (by omega), if_pos (by omega), show off + k - off - k = 0 by omega, List.getElem?_cons_zero, Array.getElem?_setIfInBounds, if_pos rfl, if_pos (by omega)]
    · by_cases e2 : off + k < q /\ q < off + k + l.length + 1
      · rw [if_pos (by omega), if_pos (by omega)]
        have : q - off - k = (q - off - (k + 1)) + 1 := by omega
        rw [this, List.getElem?_cons_succ]
      · rw [if_neg (by omega), if_neg (by omega), Array.getElem?_setIfInBounds_ne (by omega)]
theorem fill_ok (size : Nat) : ∀ (vs : List Value) (k : Nat) (cells : Array Value), (∀ v ∈ vs, v.cells.size = size) -> (k + vs.length) * size <= cells.size ->
    ∃ cs, Instr.fill (fun i => some (i * size, size)) cells (vs.zipIdx k |>.map fun x => (x.2, x.1)) = some cs /\ cs.size = cells.size /\
      (∀ q, q < k * size -> cs[q]? = cells[q]?) /\ ∀ (i : Nat) v (j : Nat), vs[i]? = some v -> j < size -> cs[(k + i) * size + j]? = v.cells[j]?
  | [], k, cells, _, _ => ⟨cells, rfl, rfl, fun _ _ => rfl, fun i v j hv => by simp at hv⟩
  | v :: vs, k, cells, hsz, hfit => by
    have hv := hsz v (by simp)
    simp only [List.length_cons] at hfit
    have e0 : (k + (vs.length + 1)) * size = k * size + size + vs.length * size := by rw [Nat.add_mul, Nat.add_mul]; omega
    rw [e0] at hfit
    have hp := foldl_put (k * size) v.cells.toList 0 cells (by simp [hv]; omega)
    obtain ⟨p1, p2⟩ := hp
    have hfold : v.cells.zipIdx.foldl (fun cs (x : Value × Nat) => cs.setIfInBounds (k * size + x.2) x.1) cells = (v.cells.toList.zipIdx 0).foldl (fun cs (x : Value × Nat) => cs.setIfInBounds (k * size + x.2) x.1) cells := by
      rw [<- Array.foldl_toList, Array.toList_zipIdx]
    obtain ⟨cs, f1, f2, f3, f4⟩ := fill_ok size vs (k + 1) ((v.cells.toList.zipIdx 0).foldl (fun cs (x : Value × Nat) => cs.setIfInBounds (k * size + x.2) x.1) cells) (fun u hu => hsz u (by simp [hu])) (by rw [p1, Nat.add_mul, Nat.add_mul]; omega)
    have e1 : (k + 1) * size = k * size + size := by rw [Nat.add_mul]; omega
    refine ⟨cs, ?_, by rw [f2, p1], fun q hq => ?_, fun i u j hu hj => ?_⟩
    · simp only [List.zipIdx_cons, List.map_cons, Instr.fill]
      rw [if_neg (by simp [hv]; omega)]
      rw [hfold]
      exact f1
    · rw [f3 q (by omega), p2, if_neg (by omega)]
    · cases i with
      | zero =>
        simp at hu; subst hu
        simp only [Nat.add_zero]
        rw [f3 _ (by omega), p2, if_pos (by simp [hv]; omega)]
        simp
      | succ i =>
        rw [List.getElem?_cons_succ] at hu
        have := f4 i u j hu hj
        rwa [show k + 1 + i = k + (i + 1) by omega] at this
theorem consV_spec {v : AV} {l : Option AV} {u : AV} (h : consV v l = some u) : ∃ l0 xs m x, l = some l0 /\ l0.elems = some (xs, m) /\ u.elems = some (x :: xs, m) /\ x.cells.length = m /\
    ∀ (S : Store) (cv : Value), Sees S v cv -> cv.cells.size = m /\ ∀ (j : Nat) y, x.cells[j]? = some y -> ∃ c, cv.cells[j]? = some c /\ Sees S y c := by
  have one : ∀ (S : Store) (x : AV) (cv : Value), x.cells = [x] -> cv.cells = #[cv] -> Sees S x cv -> cv.cells.size = 1 /\ ∀ (j : Nat) y, x.cells[j]? = some y -> ∃ c, cv.cells[j]? = some c /\ Sees S y c := fun S x cv h1 h2 hs => by
    rw [h1, h2]
    refine ⟨rfl, fun j y hy => ?_⟩
    cases j with
    | zero => simp at hy; subst hy; exact ⟨cv, rfl, hs⟩
    | succ j => simp at hy
  have c1 : ∀ {S : Store} {x : AV} {cv : Value}, x.cell1 = true -> Sees S x cv -> cv.cells = #[cv] := fun {S x cv} h hs => (V.oneCell (ρ := ⟨fun _ _ => 0, fun _ => 0, fun _ _ => 0⟩) (H := fun _ => none) (.pure _ _ hs) h).2
  have nl : ∀ {S : Store} (a : Option Addr), Sees S (.ints []) (.slice a 0 0) := fun {S} a => .lst (.ints []) [] 1 a 0 rfl (Nat.le_refl _) 0 0 #[] (fun _ _ => Go.undef) (fun h => (h rfl).elim) (fun x hx => by cases hx) (fun i x j y hx => by simp at hx) (fun i x j y hx => by simp at hx)
  unfold consV at h
  split at h <;> first | (simp only [reduceCtorEq, Option.some.injEq] at h; subst h) | (simp only [reduceCtorEq] at h; done) | skip
  · exact ⟨_, _, 1, _, rfl, rfl, by simp only [AV.elems, List.map_cons], rfl, fun S cv hs => one S _ cv rfl (c1 rfl hs) hs⟩
  · exact ⟨_, _, 1, _, rfl, rfl, by simp only [AV.elems, List.map_cons], rfl, fun S cv hs => one S _ cv rfl (c1 rfl hs) hs⟩
  · exact ⟨_, _, 1, _, rfl, rfl, by simp only [AV.elems, List.map_cons]; rfl, rfl, fun S cv hs => one S _ cv rfl (c1 rfl hs) (by rw [V.tt_inv (ρ := ⟨fun _ _ => 0, fun _ => 0, fun _ _ => 0⟩) (H := fun _ => none) (.pure _ _ hs)]; exact .bool true)⟩
  · exact ⟨_, _, 1, _, rfl, rfl, by simp only [AV.elems, List.map_cons]; rfl, rfl, fun S cv hs => one S _ cv rfl (c1 rfl hs) (by rw [V.ff_inv (ρ := ⟨fun _ _ => 0, fun _ => 0, fun _ _ => 0⟩) (H := fun _ => none) (.pure _ _ hs)]; exact .bool false)⟩
  · exact ⟨_, _, 1, _, rfl, rfl, by simp only [AV.elems, List.map_cons], rfl, fun S cv hs => one S _ cv rfl (c1 rfl hs) hs⟩
  · exact ⟨_, _, 1, _, rfl, rfl, by simp only [AV.elems, List.map_cons], rfl, fun S cv hs => one S _ cv rfl (c1 rfl hs) hs⟩
  · refine ⟨_, _, 1, _, rfl, rfl, by simp only [AV.elems, List.map_cons]; rfl, rfl, fun S cv hs => ?_⟩
    obtain ⟨a, rfl⟩ := V.nils_inv (ρ := ⟨fun _ _ => 0, fun _ => 0, fun _ _ => 0⟩) (H := fun _ => none) (.pure _ _ hs)
    exact one S _ _ rfl rfl (nl a)
  · refine ⟨_, _, 2, _, rfl, rfl, by simp only [AV.elems, List.map_cons]; rfl, rfl, fun S cv hs => ?_⟩
    cases hs with
    | lst _ _ _ _ _ he => simp [AV.elems] at he
    | agg _ vs hl hh =>
      refine ⟨by simpa [Value.cells] using hl, fun j y hy => ?_⟩
      have hj : j < vs.size := by rw [hl]; exact (List.getElem?_eq_some_iff.1 hy).1
      exact ⟨vs[j], by simp [Value.cells, hj], hh j y vs[j] hy (by simp [hj])⟩
  · rename_i xs n
    split at h
    · rename_i hn
      simp only [Option.some.injEq] at h; subst h
      have e : AV.byte (UInt8.ofNat n.toNat) = .int .u8 n := by
        have h3 : ((UInt8.ofNat n.toNat).toNat : Int) = n := by
          rw [UInt8.toNat_ofNat']
          have : n.toNat % 2 ^ 8 = n.toNat := Nat.mod_eq_of_lt (by omega)
          omega
        show AV.int .u8 _ = _
        rw [h3]
      exact ⟨_, _, 1, AV.byte (UInt8.ofNat n.toNat), rfl, rfl, by simp only [AV.elems, List.map_cons], rfl, fun S cv hs => one S _ cv rfl (c1 rfl hs) (by rw [e]; exact hs)⟩
    · cases h
theorem mkL_spec {s : Option AV} {m : Nat} (hs0 : ∀ s0, s = some s0 -> s0.elems = some ([], m)) : ∀ {vs : List AV} {u : AV}, mkL s vs = some u -> ∃ xs, u.elems = some (xs, m) /\ xs.length = vs.length /\
    ∀ (i : Nat) v, vs[i]? = some v -> ∃ x, xs[i]? = some x /\ x.cells.length = m /\ ∀ (S : Store) (cv : Value), Sees S v cv -> cv.cells.size = m /\ ∀ (j : Nat) y, x.cells[j]? = some y -> ∃ c, cv.cells[j]? = some c /\ Sees S y c
  | [], u, h => ⟨[], hs0 u h, rfl, fun i v hv => by simp at hv⟩
  | v :: vs, u, h => by
    unfold mkL at h
    obtain ⟨l0, xs1, m', x, hl, he, hu, hx, hs⟩ := consV_spec h
    obtain ⟨xs, h3, h4, h5⟩ := mkL_spec hs0 hl
    rw [he] at h3; simp only [Option.some.injEq, Prod.mk.injEq] at h3; obtain ⟨rfl, rfl⟩ := h3
    refine ⟨x :: xs1, hu, by simp [h4], fun i v' hv => ?_⟩
    cases i with
    | zero => simp at hv; subst hv; exact ⟨x, rfl, hx, hs⟩
    | succ i => rw [List.getElem?_cons_succ] at hv ⊢; exact h5 i v' hv
theorem inOrder_eq : ∀ {k : Nat} {is : List Nat}, inOrder k is = true -> is = List.range' k is.length
  | k, [], _ => rfl
  | k, i :: l, h => by
    unfold inOrder at h
    cases hki : (k == i) with
    | false => rw [hki] at h; cases h
    | true =>
      rw [hki] at h
      have e1 : k = i := by simpa using hki
      subst e1
      simp only [List.length_cons, List.range'_succ]
      rw [<- inOrder_eq h]
theorem zipIdx_of {α : Type} : ∀ {k : Nat} {ps : List (Nat × α)}, ps.map Prod.fst = List.range' k ps.length -> ps = ((ps.map Prod.snd).zipIdx k).map fun x => (x.2, x.1)
  | _, [], _ => rfl
  | k, (i, v) :: ps, h => by
    simp only [List.map_cons, List.length_cons, List.range'_succ, List.cons.injEq] at h
    obtain ⟨rfl, h⟩ := h
    simp only [List.map_cons, List.zipIdx_cons]
    rw [<- zipIdx_of h]
theorem buildR_ok {ow : Bool} {t : TypeId} {len : Nat} {ps : List (Nat × Operand)} (ho : o.op = .buildSlice t len ⟨ps⟩) (hp : (buildR P ow n t len (ps.map Prod.fst) (ps.map fun p => opnd e p.2)).pre)
    (hpure : (ps.map fun p => opnd e p.2).all AV.pureB = true) :
    OpOK P own o e hF (buildR P ow n t len (ps.map Prod.fst) (ps.map fun p => opnd e p.2)).val (buildR P ow n t len (ps.map Prod.fst) (ps.map fun p => opnd e p.2)).new := by
  unfold buildR at hp ⊢
  refine newL_ok hp (fun S ρ H a w hrel hx hpp u hu => ?_)
  rw [ho] at hx
  obtain ⟨⟨hord, hlen⟩, hap, hbig⟩ := hpp
  obtain ⟨⟨m, b⟩, hap⟩ := Option.isSome_iff_exists.1 hap
  obtain ⟨el, i, z, ht, hi, hzero, hzs, hsize, hby, hsd⟩ := sd_some hap
  rw [hsd] at hu
  have hseed : ∀ s0, seedL (some z) 0 = some s0 -> s0.elems = some ([], m) /\ (m = 1 \/ m = 2) := fun s0 h => by
    obtain ⟨x, m', he, hm, _⟩ := seedL_spec h
    obtain rfl : m' = m := by rw [<- hm, hzs]
    exact ⟨by simpa using he, (elems_m he).1⟩
  obtain ⟨xs, he, hxl, hxs⟩ := mkL_spec (fun s0 h => (hseed s0 h).1) hu
  have hm12 := (elems_m he).1
  have hord' := inOrder_eq hord
  rw [List.length_map] at hord' hlen
  have hpz := zipIdx_of hord'
  have hvals : ∀ (j : Nat) q, ps[j]? = some q -> Sees S (opnd e q.2) (a.eval q.2) := fun j q hq => by
    have hmem := List.mem_of_getElem? hq
    refine (hx q.2 ?_).sees (List.all_eq_true.1 hpure _ (List.mem_map.2 ⟨q, hmem, rfl⟩))
    simp only [Op.operands, List.mem_toArray, List.mem_map]
    exact ⟨q, hmem, rfl⟩
  have hx1 : ∀ (j : Nat) q, ps[j]? = some q -> ∃ x, xs[j]? = some x /\ x.cells.length = m /\ (a.eval q.2).cells.size = m /\ ∀ (k : Nat) y, x.cells[k]? = some y -> ∃ c, (a.eval q.2).cells[k]? = some c /\ Sees S y c := fun j q hq => by
    obtain ⟨x, h1, h2, h3⟩ := hxs j (opnd e q.2) (by rw [List.getElem?_map, hq]; rfl)
    obtain ⟨h4, h5⟩ := h3 S (a.eval q.2) (hvals j q hq)
    exact ⟨x, h1, h2, h4, h5⟩
  rw [List.length_map] at hxl
  let vs := ps.map fun q => a.eval q.2
  have hvl : vs.length = len := by simp [vs, hlen]
  have hparts : (ps.map fun q => (q.1, a.eval q.2)) = (vs.zipIdx 0).map fun x => (x.2, x.1) := by
    have := zipIdx_of (k := 0) (ps := ps.map fun q => (q.1, a.eval q.2)) (by simp only [List.map_map, List.length_map]; exact hord')
    simpa [vs, List.map_map, Function.comp_def] using this
  obtain ⟨cs, f1, f2, _, f4⟩ := fill_ok m vs 0 (madeCells z.cells (len * m)) (fun v hv => by
    obtain ⟨q, hq, rfl⟩ := List.mem_map.1 hv
    obtain ⟨j, hj⟩ := List.getElem?_of_mem hq
    obtain ⟨_, _, _, h, _⟩ := hx1 j q hj; exact h) (by rw [size_madeCells, hvl, Nat.zero_add]; exact Nat.le_refl _)
  rw [size_madeCells] at f2
  have hnb : ¬ 16777216 < len * m := by rcases hm12 with rfl | rfl <;> omega
  have hrun : (Instr.buildSlice t len ⟨ps.map fun q => (q.1, a.eval q.2)⟩).run P w = .ok (.slice (some ⟨w.heap.size, 0, none⟩) len len) (w.alloc (.cells cs el)) := by
    rw [hparts]
    by_cases hz0 : len * m = 0
    · rw [hz0] at f1
      have e0 : madeCells z.cells 0 = #[] := by simp [madeCells, Array.range_zero']
      rw [e0] at f1
      simp [Instr.buildSlice, run_underlying ht, sizeOf, typeInfo, hi, hsize, hz0, f1, newRow, Array.range_zero']
    · simp only [madeCells] at f1
      simp [Instr.buildSlice, run_underlying ht, sizeOf, typeInfo, hi, hsize, hz0, zeroValue, hzero, hnb, f1, newRow]
  refine ⟨xs, m, len, he, .inl ⟨cs, el, ?_, f2, by omega, ⟨elems_cells he, fun j x k y hx' hy => ?_⟩⟩⟩
  · rw [hxl, hlen]
    simp [execOp, ho, hrun]
  · have hj : j < ps.length := by rw [<- hxl]; exact (List.getElem?_eq_some_iff.1 hx').1
    obtain ⟨x2, g1, g2, g3, g4⟩ := hx1 j ps[j] (by simp [hj])
    rw [hx'] at g1; cases g1
    obtain ⟨c, hc, hs⟩ := g4 k y hy
    refine ⟨c, ?_, hs⟩
    have hk : k < m := by rw [<- g2]; exact (List.getElem?_eq_some_iff.1 hy).1
    have := f4 j (a.eval ps[j].2) k (by simp [vs, hj]) hk
    rw [Nat.zero_add] at this
    rw [this]; exact hc
def makeMR (P : Program) (n : Nat) (t : TypeId) (l c : AV) : Res :=
  match l, c with
  | .int _ l, .int _ c => ⟨(0 <= l /\ l = c) /\ apP (ap P t) 1 c.toNat /\ sd P t = some (.slice none 0 0), .mt n, [(n, .mat (List.replicate l.toNat []))], 1⟩
  | _, _ => noRes
def buildMR (P : Program) (n : Nat) (t : TypeId) (len : Nat) (is : List Nat) : Res := ⟨(len = 0 /\ is = []) /\ apP (ap P t) 1 0, .mt n, [(n, .mat [])], 1⟩
def vecR (P : Program) (t : TypeId) (len : Nat) (is : List Nat) (vs : List AV) : Res := ⟨(inOrder 0 is = true /\ is.length = len /\ len <= 1000000) /\ apP (ap P t) 1 len /\ vs.all AV.cell1 = true, .vec vs, [], 0⟩
theorem makeMR_ok {l c : Operand} {t : TypeId} (ho : o.op = .makeSlice t l c) (hp : (makeMR P n t (opnd e l) (opnd e c)).pre) :
    OpOK P own o e hF (makeMR P n t (opnd e l) (opnd e c)).val (makeMR P n t (opnd e l) (opnd e c)).new := by
  generalize hla : opnd e l = la at *
  generalize hca : opnd e c = ca at *
  unfold makeMR at hp ⊢
  split at hp <;> first | exact hp.elim | skip
  rename_i kl lv kc cv
  intro S ρ H a w hown hsub hrel hx hnew next Q hK
  rw [ho] at hx
  have hvl := hx l (by simp [Op.operands])
  have hvc := hx c (by simp [Op.operands])
  rw [hla] at hvl; rw [hca] at hvc
  obtain ⟨⟨h0, rfl⟩, hap, hsd0⟩ := hp
  unfold apP at hap
  split at hap <;> first | exact hap.elim | skip
  rename_i m b hz
  obtain ⟨rfl, hbytes⟩ := hap
  obtain ⟨el, i, z, ht, hi, hzero, hzs, hsize, hby, hsd⟩ := sd_some hz
  rw [hsd] at hsd0; cases hsd0
  have hbytes2 : lv.toNat * b <= 140737488355328 := Nat.le_trans (Nat.mul_le_mul_left _ (Nat.le_succ b)) hbytes
  have hl1 : lv.toNat <= 140737488355328 := Nat.le_trans (Nat.le_mul_of_pos_right _ (Nat.succ_pos b)) hbytes
  have hrun := run_make (P := P) w t el i _ ht hi hzero kl kc lv lv h0 (Int.le_refl _) (by
    rw [hby]
    have : ((lv.toNat * b : Nat) : Int) <= ((140737488355328 : Nat) : Int) := Int.ofNat_le.2 hbytes2
    rw [Int.natCast_mul, show ((lv.toNat : Nat) : Int) = lv by omega, Int.mul_comm] at this
    omega) (by omega)
  have hcells : madeCells (Value.slice none 0 0).cells (lv.toNat * i.size) = Array.replicate lv.toNat (.slice none 0 0) := by
    rw [hsize, Nat.mul_one]
    apply Array.ext
    · rw [size_madeCells]; simp
    · intro j h1 h2
      simp [madeCells, Value.cells, Nat.mod_one]
  unfold Oper.wp
  rw [show (execOp a.eval o).run P w = .ok (.value (.slice (some ⟨w.heap.size, 0, none⟩) lv.toNat lv.toNat)) (w.alloc (.cells (Array.replicate lv.toNat (.slice none 0 0)) el)) by
    rw [<- hcells]; simp [execOp, ho, hvl.int_inv, hvc.int_inv, hrun]]
  have hn : H n = none := hnew n (by simp [Heap.look])
  obtain ⟨g, hv⟩ := mat_own hrel hown hn el lv.toNat
  exact hK _ _ _ _ g hv
theorem buildMR_ok {t : TypeId} {len : Nat} {ps : List (Nat × Operand)} (ho : o.op = .buildSlice t len ⟨ps⟩) (hp : (buildMR P n t len (ps.map Prod.fst)).pre) :
    OpOK P own o e hF (buildMR P n t len (ps.map Prod.fst)).val (buildMR P n t len (ps.map Prod.fst)).new := by
  obtain ⟨⟨rfl, hps⟩, hap⟩ := hp
  have hps : ps = [] := by simpa using hps
  subst hps
  intro S ρ H a w hown hsub hrel hx hnew next Q hK
  unfold apP at hap
  split at hap <;> first | exact hap.elim | skip
  rename_i m b hz
  obtain ⟨rfl, _⟩ := hap
  obtain ⟨el, i, z, ht, hi, hzero, hzs, hsize, hby, hsd⟩ := sd_some hz
  have hrun : (Instr.buildSlice t 0 ⟨[]⟩).run P w = .ok (.slice (some ⟨w.heap.size, 0, none⟩) 0 0) (w.alloc (.cells #[] el)) := by
    simp [Instr.buildSlice, run_underlying ht, sizeOf, typeInfo, hi, newRow, Array.range_zero', Instr.fill]
  unfold Oper.wp
  rw [show (execOp a.eval o).run P w = .ok (.value (.slice (some ⟨w.heap.size, 0, none⟩) 0 0)) (w.alloc (.cells #[] el)) by simp [execOp, ho, hrun]]
  have hn : H n = none := hnew n (by simp [buildMR, Heap.look])
  obtain ⟨g, hv⟩ := mat_own hrel hown hn el 0
  exact hK _ _ _ _ g hv
theorem vecR_ok {t : TypeId} {len : Nat} {ps : List (Nat × Operand)} (ho : o.op = .buildSlice t len ⟨ps⟩) (hp : (vecR P t len (ps.map Prod.fst) (ps.map fun p => opnd e p.2)).pre) :
    OpOK P own o e hF (vecR P t len (ps.map Prod.fst) (ps.map fun p => opnd e p.2)).val (vecR P t len (ps.map Prod.fst) (ps.map fun p => opnd e p.2)).new := by
  obtain ⟨⟨hord, hlen, hbig⟩, hap, hone⟩ := hp
  intro S ρ H a w hown hsub hrel hx hnew next Q hK
  rw [ho] at hx
  unfold apP at hap
  split at hap <;> first | exact hap.elim | skip
  rename_i m b hz
  obtain ⟨rfl, hbytes⟩ := hap
  obtain ⟨el, i, z, ht, hi, hzero, hzs, hsize, hby, hsd⟩ := sd_some hz
  obtain ⟨m, hm1⟩ : ∃ m : Nat, m = 1 := ⟨1, rfl⟩
  rw [<- hm1] at hzs hsize
  have hord' := inOrder_eq hord
  rw [List.length_map] at hord' hlen
  have hvals : ∀ (j : Nat) q, ps[j]? = some q -> V S ρ H (opnd e q.2) (a.eval q.2) /\ (a.eval q.2).cells = #[a.eval q.2] := fun j q hq => by
    have hmem := List.mem_of_getElem? hq
    have hv := hx q.2 (by simp only [Op.operands, List.mem_toArray, List.mem_map]; exact ⟨q, hmem, rfl⟩)
    exact ⟨hv, (hv.oneCell (List.all_eq_true.1 hone _ (List.mem_map.2 ⟨q, hmem, rfl⟩))).2⟩
  let vs := ps.map fun q => a.eval q.2
  have hvl : vs.length = len := by simp [vs, hlen]
  have hparts : (ps.map fun q => (q.1, a.eval q.2)) = (vs.zipIdx 0).map fun x => (x.2, x.1) := by
    have := zipIdx_of (k := 0) (ps := ps.map fun q => (q.1, a.eval q.2)) (by simp only [List.map_map, List.length_map]; exact hord')
    simpa [vs, List.map_map, Function.comp_def] using this
  obtain ⟨cs, f1, f2, _, f4⟩ := fill_ok m vs 0 (madeCells z.cells (len * m)) (fun v hv => by
    obtain ⟨q, hq, rfl⟩ := List.mem_map.1 hv
    obtain ⟨j, hj⟩ := List.getElem?_of_mem hq
    rw [(hvals j q hj).2, hm1]; rfl) (by rw [size_madeCells, hvl, Nat.zero_add]; exact Nat.le_refl _)
  rw [size_madeCells] at f2
  have hnb : ¬ 16777216 < len * m := by subst hm1; omega
  have hrun : (Instr.buildSlice t len ⟨ps.map fun q => (q.1, a.eval q.2)⟩).run P w = .ok (.slice (some ⟨w.heap.size, 0, none⟩) len len) (w.alloc (.cells cs el)) := by
    rw [hparts]
    by_cases hz0 : len * m = 0
    · rw [hz0] at f1
      have e0 : madeCells z.cells 0 = #[] := by simp [madeCells, Array.range_zero']
      rw [e0] at f1
      simp [Instr.buildSlice, run_underlying ht, sizeOf, typeInfo, hi, hsize, hz0, f1, newRow, Array.range_zero']
    · simp only [madeCells] at f1
      simp [Instr.buildSlice, run_underlying ht, sizeOf, typeInfo, hi, hsize, hz0, zeroValue, hzero, hnb, f1, newRow]
  have g := grow_stable hrel hown cs el (0, 0)
  unfold Oper.wp
  rw [show (execOp a.eval o).run P w = .ok (.value (.slice (some ⟨w.heap.size, 0, none⟩) len len)) (w.alloc (.cells cs el)) by simp [execOp, ho, hrun]]
  refine hK _ _ ρ _ g ?_
  have e1 : len = (ps.map fun p => opnd e p.2).length := by simp [hlen]
  have hcell : ∀ (j : Nat) q, ps[j]? = some q -> cs[j]? = some (a.eval q.2) := fun j q hq => by
    have := f4 j (a.eval q.2) 0 (by simp [vs, hq]) (by omega)
    rw [(hvals j q hq).2, hm1] at this
    simpa using this
  show V _ ρ H (.vec (ps.map fun p => opnd e p.2)) (.slice _ len len)
  have key := V.vec (S := S.set w.heap.size cs) (ρ := ρ) (H := H) (ps.map fun p => opnd e p.2) (some ⟨w.heap.size, 0, none⟩) w.heap.size 0 cs (fun j => cs.getD j Go.undef) len (fun _ => ⟨rfl, by simp [Store.set]⟩) (by rw [<- e1]; exact Nat.le_refl _)
    (fun j y hy => by
      rw [List.getElem?_map] at hy
      obtain ⟨q, hq, rfl⟩ := Option.map_eq_some_iff.1 hy
      rw [Nat.zero_add, Array.getD_eq_getD_getElem?, hcell j q hq]; rfl)
    (fun j y hy => by
      rw [List.getElem?_map] at hy
      obtain ⟨q, hq, rfl⟩ := Option.map_eq_some_iff.1 hy
      rw [Array.getD_eq_getD_getElem?, hcell j q hq]
      exact g.v (hvals j q hq).1)
  rw [<- e1] at key
  exact key
end
end Go.Vc
namespace Go.Vc
open Go.RowKit
def bndW : Option AV -> Option Value
  | some (.int k n) => some (.int k n)
  | _ => none
section
variable {P : Program} {S : Store} {ρ : Rho} {H : HF} {w : World}
theorem cutL_map {α β : Type} (f : α -> β) (xs : List α) (lo hi : Int) : (cutL xs lo hi).map f = cutL (xs.map f) lo hi := by simp [cutL]
theorem cutL_length {α : Type} (xs : List α) {lo hi : Int} (h0 : 0 <= lo) (h1 : lo <= hi) (h2 : hi <= xs.length) : (cutL xs lo hi).length = hi.toNat - lo.toNat := by
  simp only [cutL, List.length_drop, List.length_take]; omega
theorem cutL_get {α : Type} (xs : List α) {lo hi : Int} {i : Nat} {x : α} (h : (cutL xs lo hi)[i]? = some x) : xs[i + lo.toNat]? = some x := by
  simp only [cutL, List.getElem?_drop, List.getElem?_take] at h
  split at h
  · rw [Nat.add_comm]; exact h
  · cases h
theorem run_slice_seen {t : TypeId} {m : Nat} (hed : ed P t = some (none, m)) (ht : ∃ e, P.underlying t = some (.slice e)) (a : Option Addr) (len cap : Nat) (hcap : len <= cap) {lo hi : Option AV} {vlo vhi : Option Value}
    (hlo : bndP lo) (hhi : bndP hi) (elo : vlo = bndW lo) (ehi : vhi = bndW hi)
    (h0 : 0 <= bndV 0 lo) (h1 : bndV 0 lo <= bndV len hi) (h2 : bndV len hi <= len) :
    (Instr.sliceAt t (.slice a len cap) vlo vhi none).run P w = .ok (sliced a (bndV 0 lo).toNat (bndV len hi).toNat cap m) w := by
  obtain ⟨e, he⟩ := ht
  have he' : P.underlying t = some (.slice (P.elem t)) := by simp [Program.elem, he]
  have hs : (sizeOf (P.elem t)).run P w = .ok m w := by
    have e1 : P.elem t = e := by rw [he] at he'; simpa using he'.symm
    rw [e1]
    unfold ed at hed
    rw [he] at hed
    simp only at hed
    obtain ⟨i, hi, hm⟩ := Option.map_eq_some_iff.1 hed
    simp only [Prod.mk.injEq, true_and] at hm
    simp [sizeOf, typeInfo, hi, hm]
  rw [run_sliceAt_slice w t _ _ _ _ he']
  cases lo with
  | none =>
    subst elo; (try simp only [bndW])
    cases hi with
    | none =>
      subst ehi; (try simp only [bndW])
      rw [run_slice_all w t a len cap he', hs]
      simp [bndV]
    | some u =>
      cases u <;> simp only [bndP] at hhi
      subst ehi; (try simp only [bndW])
      simp only [bndV] at *
      rw [run_slice_h w t a len cap he' _ _ (by omega) (by omega), hs]
      simp
  | some u =>
    cases u <;> simp only [bndP] at hlo
    subst elo; (try simp only [bndW])
    cases hi with
    | none =>
      subst ehi; (try simp only [bndW])
      simp only [bndV] at *
      rw [run_slice_l w t a len cap he' _ _ (by omega) (by omega), hs]
      simp
    | some u =>
      cases u <;> simp only [bndP] at hhi
      subst ehi; (try simp only [bndW])
      simp only [bndV] at *
      rw [run_slice_lh w t a len cap he' _ _ _ _ (by omega) (by omega) (by omega), hs]
      simp
theorem cut_seen {v u : AV} {xs : List AV} {m : Nat} {lo hi : Int} (he : v.elems = some (xs, m)) (hu : u.elems = some (cutL xs lo hi, m)) {cv : Value} (hv : V S ρ H v cv) (h0 : 0 <= lo) (h1 : lo <= hi) (h2 : hi <= xs.length) :
    ∃ a cap, cv = .slice a xs.length cap /\ xs.length <= cap /\ V S ρ H u (sliced a lo.toNat hi.toNat cap m) := by
  obtain ⟨a, cap, b, off, c, rfl, hcap, hrow, hm, hc⟩ := hv.lst_cap he
  refine ⟨a, cap, rfl, hcap, .pure _ _ ?_⟩
  have hl := cutL_length xs h0 h1 h2
  unfold sliced
  rw [<- hl]
  refine .lst u (cutL xs lo hi) m _ _ hu (by rw [hl]; omega) b (off + lo.toNat * m) c (fun i j => c.getD (off + lo.toNat * m + i * m + j) Go.undef) (fun hne => ?_) (fun x hx => ?_) (fun i x j y hx hy => ?_) (fun i x j y hx hy => ?_)
  · have hlen : 0 < (cutL xs lo hi).length := List.length_pos_iff.2 hne
    rw [hl] at hlen
    obtain ⟨rfl, hS⟩ := hrow (fun e => by subst e; simp at h2; omega)
    rw [if_neg (by omega)]
    exact ⟨by simp [Addr.add_lit], hS⟩
  · obtain ⟨i, hi⟩ := List.getElem?_of_mem hx
    exact hm x (List.mem_of_getElem? (cutL_get xs hi))
  · obtain ⟨q, hq, _⟩ := hc _ x j y (cutL_get xs hx) hy
    have e1 : off + lo.toNat * m + i * m + j = off + (i + lo.toNat) * m + j := by rw [Nat.add_mul]; omega
    rw [e1, Array.getD_eq_getD_getElem?, hq]; rfl
  · obtain ⟨q, hq, hs⟩ := hc _ x j y (cutL_get xs hx) hy
    have e1 : off + lo.toNat * m + i * m + j = off + (i + lo.toNat) * m + j := by rw [Nat.add_mul]; omega
    simp only [e1, Array.getD_eq_getD_getElem?, hq]; exact hs
theorem bnd_val {x : Option AV} {v : Option Value} (hp : bndP x) (hv : ∀ u, x = some u -> ∃ cu, v = some cu /\ V S ρ H u cu) (hn : x = none -> v = none) : v = bndW x := by
  cases x with
  | none => exact hn rfl
  | some u =>
    cases u <;> simp only [bndP] at hp
    obtain ⟨cu, rfl, hcu⟩ := hv _ rfl
    rw [hcu.int_inv]; rfl
theorem slice_ok {t : TypeId} {x : AV} {cv : Value} {lo hi : Option AV} {vlo vhi : Option Value} (hp : sliceP P t x lo hi) (hx : V S ρ H x cv)
    (hlo : ∀ u, lo = some u -> ∃ cu, vlo = some cu /\ V S ρ H u cu) (hlo' : lo = none -> vlo = none) (hhi : ∀ u, hi = some u -> ∃ cu, vhi = some cu /\ V S ρ H u cu) (hhi' : hi = none -> vhi = none) :
    ∃ cu, (Instr.sliceAt t cv vlo vhi none).run P w = .ok cu w /\ V S ρ H (sliceV x lo hi) cu := by
  have lst : ∀ (v : AV) (xs : List AV) (n : Nat), v.elems = some (xs, 1) -> xs.length = n -> V S ρ H v cv -> ((bndP lo /\ bndP hi) /\ ed P t = some (none, 1)) /\ (∃ e, P.underlying t = some (.slice e)) /\ 0 <= bndV 0 lo /\ bndV 0 lo <= bndV n hi /\ bndV n hi <= n ->
      ∀ u : AV, u.elems = some (cutL xs (bndV 0 lo) (bndV n hi), 1) -> ∃ cu, (Instr.sliceAt t cv vlo vhi none).run P w = .ok cu w /\ V S ρ H u cu := by
    rintro v xs n he rfl hv ⟨⟨⟨b1, b2⟩, b3⟩, b4, b5, b6, b7⟩ u hu
    obtain ⟨a, cap, rfl, hcap, hr⟩ := cut_seen he hu hv b5 b6 b7
    exact ⟨_, run_slice_seen b3 b4 a _ cap hcap b1 b2 (bnd_val b1 hlo hlo') (bnd_val b2 hhi hhi') b5 b6 b7, hr⟩
  unfold sliceP at hp
  split at hp
  · exact lst _ _ _ rfl (by simp) hx hp _ (by simp [sliceV, AV.elems, cutL_map])
  · exact lst _ _ _ rfl (by simp) hx hp _ (by simp [sliceV, AV.elems, cutL_map])
  · exact lst _ _ _ rfl (by simp) hx hp _ (by simp [sliceV, AV.elems, cutL_map])
  · exact lst _ _ _ rfl (by simp) hx hp _ (by simp [sliceV, AV.elems, cutL_map])
  · exact lst _ _ _ rfl (by simp) hx hp _ (by simp [sliceV, AV.elems, cutL_map])
  · rename_i s
    obtain ⟨⟨b1, b2⟩, b3, b5, b6, b7⟩ := hp
    have e1 := bnd_val b1 hlo hlo'
    have e2 := bnd_val b2 hhi hhi'
    have hcv : cv = .string s := hx.str_inv
    subst hcv
    refine ⟨.string (s.extract (bndV 0 lo).toNat (bndV s.size hi).toNat), ?_, .pure _ _ (.str _)⟩
    rw [run_sliceAt_string w t _ _ _ _ b3]
    cases lo with
    | none =>
      subst e1; (try simp only [bndW])
      cases hi with
      | none => subst e2; (try simp only [bndW]); rw [run_slice_string_all w t s b3]; simp [bndV]
      | some u =>
        cases u <;> simp only [bndP] at b2
        subst e2; (try simp only [bndW])
        simp only [bndV] at *
        rw [run_slice_string_h w t s b3 _ _ (by omega) (by omega)]; simp
    | some u =>
      cases u <;> simp only [bndP] at b1
      subst e1; (try simp only [bndW])
      cases hi with
      | none =>
        subst e2; (try simp only [bndW])
        simp only [bndV] at *
        rw [run_slice_string_l w t s b3 _ _ (by omega) (by omega)]; simp
      | some u =>
        cases u <;> simp only [bndP] at b2
        subst e2; (try simp only [bndW])
        simp only [bndV] at *
        exact run_slice_string (P := P) (w := w) t s _ _ _ _ b3 b5 b6 b7
  · exact hp.elim
end
end Go.Vc
namespace Go.Vc
open Go.RowKit
def flatZ (P : Program) (t : TypeId) : Option (List Value) :=
  match P.info? t, P.underlying t with
  | some it, some (.struct fields) =>
    match it.zero, fields.toList.mapM (fun f => (P.info? f.type).map fun i => (f.offset, i.size)) with
    | some z, some places => if places = (List.range z.cells.size).map (fun k => (k, 1)) then some z.cells.toList else none
    | _, _ => none
  | some it, some (.array _ el) =>
    match it.zero, P.info? el with
    | some z, some ie => if ie.size = 1 then some z.cells.toList else none
    | _, _ => none
  | _, _ => none
def setAll : List AV -> List Nat -> List AV -> List AV
  | cs, i :: is, v :: vs => setAll (cs.set i v) is vs
  | cs, _, _ => cs
def belowN (n : Nat) : List Nat -> Prop
  | [] => True
  | i :: is => i < n /\ belowN n is
def buildS (z : Option (List Value)) (is : List Nat) (vs : List AV) : Res :=
  match z with
  | some z => ⟨belowN z.length is /\ vs.all AV.cell1 = true, .agg (setAll (z.map cst1) is vs), [], 0⟩
  | none => ⟨False, .undef, [], 0⟩
theorem buildS_new (z is vs) : (buildS z is vs).new = [] := by cases z <;> rfl
section
variable {P : Program} {S : Store} {ρ : Rho} {H : HF} {e : Env} {a : Act}
theorem fill_flat {n : Nat} {place : Nat -> Option (Nat × Nat)} (hpl : ∀ i, i < n -> place i = some (i, 1)) : ∀ (ps : List (Nat × Operand)) (cs : List AV) (cells : Array Value), cells.size = n -> cs.length = n ->
    (∀ (j : Nat) x v, cs[j]? = some x -> cells[j]? = some v -> V S ρ H x v) -> belowN n (ps.map Prod.fst) -> (∀ p ∈ ps, (opnd e p.2).cell1 = true /\ V S ρ H (opnd e p.2) (a.eval p.2)) ->
    ∃ cells', Instr.fill place cells (ps.map fun p => (p.1, a.eval p.2)) = some cells' /\ cells'.size = (setAll cs (ps.map Prod.fst) (ps.map fun p => opnd e p.2)).length /\
      ∀ (j : Nat) x v, (setAll cs (ps.map Prod.fst) (ps.map fun p => opnd e p.2))[j]? = some x -> cells'[j]? = some v -> V S ρ H x v
  | [], cs, cells, h1, h2, h3, _, _ => ⟨cells, rfl, by simp [setAll, h1, h2], h3⟩
  | (i, x) :: ps, cs, cells, h1, h2, h3, hb, hp => by
    obtain ⟨hi, hb⟩ : i < n /\ belowN n (ps.map Prod.fst) := hb
    obtain ⟨c1, hv⟩ := hp (i, x) List.mem_cons_self
    obtain ⟨_, o2⟩ := hv.oneCell c1
    have hrec := fill_flat hpl ps (cs.set i (opnd e x)) (cells.setIfInBounds i (a.eval x)) (by simpa using h1) (by simpa using h2) (fun j y v hy hv' => by
      rw [List.getElem?_set] at hy
      rw [Array.getElem?_setIfInBounds] at hv'
      by_cases e1 : i = j
      · subst e1
        rw [if_pos rfl, if_pos (by omega)] at hy
        rw [if_pos rfl, if_pos (by omega)] at hv'
        cases hy; cases hv'; exact hv
      · rw [if_neg e1] at hy
        rw [if_neg e1] at hv'
        exact h3 j y v hy hv') hb (fun p hm => hp p (List.mem_cons_of_mem _ hm))
    obtain ⟨cells', r1, r2, r3⟩ := hrec
    refine ⟨cells', ?_, r2, r3⟩
    simp only [List.map_cons, Instr.fill, hpl i hi, o2]
    rw [if_neg (by simp; omega)]
    simpa using r1
theorem build_ok {w : World} {t : TypeId} {ps : List (Nat × Operand)} (hp : (buildS (flatZ P t) (ps.map Prod.fst) (ps.map fun p => opnd e p.2)).pre) (hx : ∀ p ∈ ps, V S ρ H (opnd e p.2) (a.eval p.2)) :
    ∃ cv, (Instr.build t (ps.map fun p => (p.1, a.eval p.2)).toArray).run P w = .ok cv w /\ V S ρ H (buildS (flatZ P t) (ps.map Prod.fst) (ps.map fun p => opnd e p.2)).val cv := by
  cases hz : flatZ P t with
  | none => rw [hz] at hp; exact hp.elim
  | some zs =>
    rw [hz] at hp
    obtain ⟨hb, hc⟩ : belowN zs.length (ps.map Prod.fst) /\ (ps.map fun p => opnd e p.2).all AV.cell1 = true := hp
    unfold flatZ at hz
    split at hz
    · rename_i it fields hit hu
      split at hz
      · rename_i z places hz0 hpl
        split at hz
        · rename_i hpe
          cases hz
          have hplace : ∀ i, i < z.cells.size -> places.toArray[i]? = some (i, 1) := fun i hi => by
            rw [hpe]; simp [hi]
          obtain ⟨cells', h1, h2, h3⟩ := fill_flat (S := S) (ρ := ρ) (H := H) (e := e) (a := a) (n := z.cells.size) hplace ps (z.cells.toList.map cst1) z.cells rfl (by simp) (fun j x v hx' hv' => by
            rw [List.getElem?_map] at hx'
            obtain ⟨y0, hy0, rfl⟩ := Option.map_eq_some_iff.1 hx'
            have h0 : z.cells[j]? = some y0 := by simpa using hy0
            rw [h0] at hv'; cases hv'
            exact .pure _ _ (cst1_v S _)) (by simpa using hb) (fun p hm => ⟨List.all_eq_true.1 hc _ (List.mem_map.2 ⟨p, hm, rfl⟩), hx p hm⟩)
          refine ⟨.agg cells', run_build w t _ cells' ?_, .agg _ _ h2 h3⟩
          unfold Program.built
          simp only [hit, hu, hz0, hpl]
          exact h1
        · cases hz
      · cases hz
    · rename_i it len el hit hu
      split at hz
      · rename_i z ie hz0 hie
        split at hz
        · rename_i h1s
          cases hz
          obtain ⟨cells', h1, h2, h3⟩ := fill_flat (S := S) (ρ := ρ) (H := H) (e := e) (a := a) (n := z.cells.size) (place := fun i => some (i * ie.size, ie.size)) (fun i _ => by simp [h1s]) ps (z.cells.toList.map cst1) z.cells rfl (by simp) (fun j x v hx' hv' => by
            rw [List.getElem?_map] at hx'
            obtain ⟨y0, hy0, rfl⟩ := Option.map_eq_some_iff.1 hx'
            have h0 : z.cells[j]? = some y0 := by simpa using hy0
            rw [h0] at hv'; cases hv'
            exact .pure _ _ (cst1_v S _)) (by simpa using hb) (fun p hm => ⟨List.all_eq_true.1 hc _ (List.mem_map.2 ⟨p, hm, rfl⟩), hx p hm⟩)
          refine ⟨.agg cells', run_build w t _ cells' ?_, .agg _ _ h2 h3⟩
          unfold Program.built
          simp only [hit, hu, hz0, hie]
          exact h1
        · cases hz
      · cases hz
    · cases hz
end
end Go.Vc
namespace Go.Vc
open Go.RowKit
theorem args_ok {S : Store} {ρ : Rho} {H : HF} {e : Env} {a : Act} {xs : List Operand} (h : ∀ x, x ∈ xs -> V S ρ H (opnd e x) (a.eval x)) :
    ∀ (j : Nat) x v, (xs.map (opnd e))[j]? = some x -> (xs.map a.eval)[j]? = some v -> V S ρ H x v := by
  intro j x v hx hv
  rw [List.getElem?_map] at hx hv
  obtain ⟨o, ho, rfl⟩ := Option.map_eq_some_iff.1 hx
  rw [ho] at hv; cases hv
  exact h o (List.mem_of_getElem? ho)
inductive GOp where
  | fz (l : List Nat)
  | up (d : Nat) (k : Blk)
  | upf (d off : Nat) (k : Blk)
  | row (d : Nat)
  | post
  | cut (l : List Nat)
  | skip
  | drop (l : List Nat) (k : Nat)
  | ren (d k : Nat)
  | renb (d k : Nat)
  | frb (d : Nat)
  | mv (q k : Nat)
structure Hint where
  own : Nat -> Bool
  fz : Nat -> List GOp
  n0 : Nat
  ms : Nat -> Bool
  mat : Nat -> Bool
  ord : Nat -> List Nat
  lt : Nat -> List Nat
instance : CoeFun Hint (fun _ => Nat -> Bool) := ⟨Hint.own⟩
def pureR (b : Bool) (r : Res) : Res := ⟨b = true /\ r.pre, r.val, r.new, r.cnt⟩
def selR (b : Bool) (r s : Res) : Res := bif b then r else s
def rv (p : Prop) (v : AV) : Res := ⟨p, v, [], 0⟩
def bview (h : Heap) (v : AV) : AV := v.tr (frzA (fun _ => false) h.look)
def AV.noL1 : AV -> Bool
  | .ints _ | .rows _ | .strs _ | .bools _ | .pairs _ | .bytes _ | .iptr _ | .vec _ | .agg _ | .tup _ | .fn _ _ | .bnd _ _ => false
  | _ => true
def AV.noL2 : AV -> Bool
  | .agg cs => cs.all AV.noL1
  | .fn _ cs => cs.all AV.noL1
  | v => v.noL1
def AV.noL : AV -> Bool
  | .agg cs => cs.all AV.noL2
  | .tup cs => cs.all AV.noL2
  | .fn _ cs => cs.all AV.noL2
  | v => v.noL1
def Blk.noL : Blk -> Bool
  | .box cs => cs.all AV.noL1
  | .arr (.rows _) => false
  | .arr _ => true
  | .mat _ => true
def Heap.noL : Heap -> Bool
  | [] => true
  | (_, k) :: h => k.noL && Heap.noL h
def callF (C : Table) (h : Heap) (f : AV) (args : List AV) (n : Nat) : Prop × AV × Heap :=
  match f with
  | .fn g caps => ((C.find g ((args ++ caps).map (bview h)) n).1 /\ ((args ++ caps).map (bview h)).all AV.pureB = true /\
      ((args ++ caps).all AV.pureB || ((C.find g ((args ++ caps).map (bview h)) n).2.1.noL && Heap.noL (C.find g ((args ++ caps).map (bview h)) n).2.2)) = true,
      (C.find g ((args ++ caps).map (bview h)) n).2)
  | .bnd g caps => ((C.find g ((caps ++ args).map (bview h)) n).1 /\ ((caps ++ args).map (bview h)).all AV.pureB = true /\
      ((caps ++ args).all AV.pureB || ((C.find g ((caps ++ args).map (bview h)) n).2.1.noL && Heap.noL (C.find g ((caps ++ args).map (bview h)) n).2.2)) = true,
      (C.find g ((caps ++ args).map (bview h)) n).2)
  | _ => (False, .undef, [])
def frzNew (own : Bool) (n : Nat) (r : Prop × AV × Heap) : Res :=
  bif own then ⟨r.1, r.2.1, r.2.2, topH r.2.2 - n⟩ else ⟨r.1, r.2.1.tr (frzA (fun _ => false) r.2.2.look), [], topH r.2.2 - n⟩
def boxOK (x : AV) : Bool := bif isAgg1 x then x.cells.all AV.cell1 else x.cell1
def boxR (own : Bool) (n : Nat) (x : AV) : Res :=
  bif own then ⟨boxOK x = true, .bx n 0, [(n, .box x.cells)], 1⟩ else ⟨x.isUndef = false /\ x.pureB = true, .iptr x.cells, [], 0⟩
def allocR (P : Program) (own : Bool) (n : Nat) (t : TypeId) : Res :=
  match zv P t with
  | some z => boxR own n (cst z)
  | none => ⟨False, .undef, [], 0⟩
def ptrB : AV -> Bool
  | .bx _ _ | .iptr _ | .pa _ _ | .pm _ _ _ | .po _ _ => true
  | _ => false
theorem V.ptr {S : Store} {ρ : Rho} {H : HF} {v : AV} {cv : Value} (h : V S ρ H v cv) (hp : ptrB v = true) : ∃ a, cv = .pointer (some a) := by
  cases h with
  | pure _ _ h =>
    cases h with
    | iptr => exact ⟨_, rfl⟩
    | lst _ _ _ _ _ he => cases v <;> first | (simp [AV.elems] at he; done) | cases hp
    | _ => cases hp
  | vec => cases hp
  | agg => cases hp
  | tup => cases hp
  | fn => cases hp
  | sl => cases hp
  | mt => cases hp
  | mr => cases hp
  | bx => exact ⟨_, rfl⟩
  | pa => exact ⟨_, rfl⟩
  | pm => exact ⟨_, rfl⟩
  | po => exact ⟨_, rfl⟩
def evalH (P : Program) (C : Table) (hint : Hint) (o : Oper) (e : Env) (h : Heap) (n : Nat) : Res :=
  match o.op with
  | .move x => rv True (opnd e x)
  | .assign x => rv True (opnd e x)
  | .binOp op t x y _ => rv (arithP P t op (opnd e x) (opnd e y)) (arithV op (opnd e x) (opnd e y))
  | .unOp .not _ x => rv (notP (opnd e x)) (notV (opnd e x))
  | .unOp .neg _ x => rv (negP (opnd e x)) (negV (opnd e x))
  | .convert s t x => rv (convP P s t (ik P t) (opnd e x)) (convV (ik P t) (opnd e x))
  | .indexAddr t x i => rv (idxP (ed P t) (blkOf h (opnd e x)) (opnd e x) (opnd e i)) (idxV (ed P t) (opnd e x) (opnd e i))
  | .index t x i => rv (sidxP P t (opnd e x) (opnd e i)) (sidxV (opnd e x) (opnd e i))
  | .load t x => rv (loadP (td P t) (blkOf h (opnd e x)) (opnd e x)) (loadV (td P t) (blkOf h (opnd e x)) (opnd e x))
  | .fieldAddr t x f => rv (fieldP (fd P t f) (blkOf h (opnd e x)) (opnd e x)) (fieldV (fd P t f) (opnd e x))
  | .field t x f => rv (partP (fd P t f) (opnd e x)) (partV (fd P t f) (opnd e x))
  | .extract x k => rv (extractP k (opnd e x)) (extractV k (opnd e x))
  | .makeFunc (.func f) ⟨[]⟩ ⟨xs⟩ => rv True (.fn f (xs.map (opnd e)))
  | .makeFunc (.func f) ⟨x :: xs⟩ ⟨[]⟩ => rv (((x :: xs).map (opnd e)).all AV.pureB = true) (.bnd f ((x :: xs).map (opnd e)))
  | .box _ x => boxR (hint (o.dst.getD 0)) n (opnd e x)
  | .alloc t => allocR P (hint (o.dst.getD 0)) n t
  | .call ⟨.builtin .len, ⟨[x]⟩, ⟨[t]⟩⟩ => rv (lenP P t (blkOf h (opnd e x)) (opnd e x)) (lenV (blkOf h (opnd e x)) (opnd e x))
  | .call ⟨.builtin .min, ⟨[x, y]⟩, _⟩ => rv (minmaxP .min (opnd e x) (opnd e y)) (minmaxV .min (opnd e x) (opnd e y))
  | .call ⟨.builtin .max, ⟨[x, y]⟩, _⟩ => rv (minmaxP .max (opnd e x) (opnd e y)) (minmaxV .max (opnd e x) (opnd e y))
  | .buildSlice t len ⟨ps⟩ => selR (hint.mat (o.dst.getD 0)) (buildMR P n t len (ps.map Prod.fst)) (selR ((ps.map fun p => opnd e p.2).all AV.pureB) (buildR P (hint (o.dst.getD 0)) n t len (ps.map Prod.fst) (ps.map fun p => opnd e p.2))
      (vecR P t len (ps.map Prod.fst) (ps.map fun p => opnd e p.2)))
  | .makeSlice t l c => selR (hint.mat (o.dst.getD 0)) (makeMR P n t (opnd e l) (opnd e c)) (makeR P (hint (o.dst.getD 0)) n t (opnd e l) (opnd e c))
  | .slice t x lo hi none => rv (sliceP P t (opnd e x) (lo.map (opnd e)) (hi.map (opnd e))) (sliceV (opnd e x) (lo.map (opnd e)) (hi.map (opnd e)))
  | .call ⟨.builtin .append, ⟨[s, y]⟩, ⟨[ts, tx]⟩⟩ => appN P (hint (o.dst.getD 0)) n ts tx (opnd e s) (opnd e y)
  | .call ⟨.value f, ⟨xs⟩, _⟩ => frzNew (hint (o.dst.getD 0)) n (callF C h (opnd e f) (xs.map (opnd e)) n)
  | .build t ⟨ps⟩ => buildS (flatZ P t) (ps.map Prod.fst) (ps.map fun p => opnd e p.2)
  | .nilCheck x => rv (ptrB (opnd e x) = true) (opnd e x)
  | _ => ⟨False, .undef, [], 0⟩
def Callable (P : Program) (f : FuncId) : Prop := ∃ fn, P.funcs[f]? = some fn /\ fn.body.isSome = true /\ (fn.name == "runtime.NumGoroutine") = false
section
variable {P : Program} {own : Nat -> Prop} {C : Table} {hint : Hint} {o : Oper} {e : Env} {h : Heap} {hF : HF} {n : Nat}
theorem run_callFunc {f : FuncId} (hc : Callable P f) (args : Array Value) (w : World) : (callFunc f args).run P w = .ok (.enter f args) w := by
  obtain ⟨fn, hf, hb, hn⟩ := hc
  have hb' : ¬ fn.body = none := by intro h; rw [h] at hb; cases hb
  have hn' : ¬ fn.name = "runtime.NumGoroutine" := by simpa using hn
  simp [callFunc, hf, hn', hb']
theorem AV.trL_of {φ : AV -> AV} {l : List AV} (h : ∀ x ∈ l, x.tr φ = x) : AV.trL φ l = l := by
  rw [AV.trL_eq]
  induction l with
  | nil => rfl
  | cons a l ih => simp only [List.map_cons]; rw [h a (by simp), ih (fun x hx => h x (by simp [hx]))]
theorem AV.pure1_tr {φ : AV -> AV} {v : AV} (h : v.pure1 = true) : v.tr φ = v := by
  cases v <;> first | rfl | simp [AV.pure1] at h
theorem AV.pure2_tr {φ : AV -> AV} {v : AV} (h : v.pure2 = true) : v.tr φ = v := by
  cases v with
  | agg cs => have h : cs.all AV.pure1 = true := h; show AV.agg _ = _; rw [AV.trL_of (fun x hx => AV.pure1_tr (List.all_eq_true.1 h x hx))]
  | tup cs => have h : cs.all AV.pure1 = true := h; show AV.tup _ = _; rw [AV.trL_of (fun x hx => AV.pure1_tr (List.all_eq_true.1 h x hx))]
  | fn f cs => have h : cs.all AV.pure1 = true := h; show AV.fn f _ = _; rw [AV.trL_of (fun x hx => AV.pure1_tr (List.all_eq_true.1 h x hx))]
  | _ => exact AV.pure1_tr h
theorem AV.pureB_tr {φ : AV -> AV} {v : AV} (h : v.pureB = true) : v.tr φ = v := by
  cases v with
  | agg cs => have h : cs.all AV.pure2 = true := h; show AV.agg _ = _; rw [AV.trL_of (fun x hx => AV.pure2_tr (List.all_eq_true.1 h x hx))]
  | tup cs => have h : cs.all AV.pure2 = true := h; show AV.tup _ = _; rw [AV.trL_of (fun x hx => AV.pure2_tr (List.all_eq_true.1 h x hx))]
  | fn f cs => have h : cs.all AV.pure2 = true := h; show AV.fn f _ = _; rw [AV.trL_of (fun x hx => AV.pure2_tr (List.all_eq_true.1 h x hx))]
  | _ => exact AV.pure1_tr h
theorem bviews_pure {h : Heap} {l : List AV} (hp : l.all AV.pureB = true) : l.map (bview h) = l := by
  have := AV.trL_of (φ := frzA (fun _ => false) h.look) (l := l) (fun x hx => AV.pureB_tr (List.all_eq_true.1 hp x hx))
  rwa [AV.trL_eq] at this
theorem Sees.noL1 {S S' : Store} {v : AV} {cv : Value} (h : Sees S v cv) (hn : v.noL1 = true) : Sees S' v cv := by
  cases h with
  | int k n => exact .int k n
  | bool b => exact .bool b
  | str s => exact .str s
  | nils a => exact .nils a
  | nilI => exact .nilI
  | errI => exact .errI _ _
  | undef => exact .undef _
  | skipd => exact .skipd
  | tt => exact .tt
  | ff => exact .ff
  | lst v xs m a cap he => cases v <;> first | (simp [AV.elems] at he; done) | cases hn
  | agg => cases hn
  | tup => cases hn
  | fn => cases hn
  | bnd => cases hn
  | iptr => cases hn
theorem V.noL1 {S S' : Store} {ρ : Rho} {H : HF} {v : AV} {cv : Value} (h : V S ρ H v cv) (hn : v.noL1 = true) : V S' ρ H v cv := by
  cases h with
  | pure _ _ h => exact .pure _ _ (h.noL1 hn)
  | vec => cases hn
  | agg => cases hn
  | tup => cases hn
  | fn => cases hn
  | sl r v xs m a hr he ha => exact .sl r v xs m a hr he ha
  | mt r xss a hr ha => exact .mt r xss a hr ha
  | mr r i xss row cv hr h0 hi h => exact .mr r i xss row cv hr h0 hi h
  | bx r off cs hr ho => exact .bx r off cs hr ho
  | pa r i v xs m hr he h0 hi => exact .pa r i v xs m hr he h0 hi
  | pm r i j xss row hr h0 hi hj0 hj => exact .pm r i j xss row hr h0 hi hj0 hj
  | po r i xss hr h0 hi => exact .po r i xss hr h0 hi
theorem V.noL2 {S S' : Store} {ρ : Rho} {H : HF} {v : AV} {cv : Value} (h : V S ρ H v cv) (hn : v.noL2 = true) : V S' ρ H v cv := by
  cases v with
  | agg cs =>
    have hn : cs.all AV.noL1 = true := hn
    obtain ⟨vs, rfl, hl, hc⟩ := h.agg_inv
    exact .agg _ _ hl (fun j x v hx hv => (hc j x v hx hv).noL1 (List.all_eq_true.1 hn x (List.mem_of_getElem? hx)))
  | fn f cs =>
    have hn : cs.all AV.noL1 = true := hn
    obtain ⟨vs, rfl, hl, hc⟩ := h.fn_inv
    exact .fn _ _ _ hl (fun j x v hx hv => (hc j x v hx hv).noL1 (List.all_eq_true.1 hn x (List.mem_of_getElem? hx)))
  | _ => exact h.noL1 hn
theorem V.noL {S S' : Store} {ρ : Rho} {H : HF} {v : AV} {cv : Value} (h : V S ρ H v cv) (hn : v.noL = true) : V S' ρ H v cv := by
  cases v with
  | agg cs =>
    have hn : cs.all AV.noL2 = true := hn
    obtain ⟨vs, rfl, hl, hc⟩ := h.agg_inv
    exact .agg _ _ hl (fun j x v hx hv => (hc j x v hx hv).noL2 (List.all_eq_true.1 hn x (List.mem_of_getElem? hx)))
  | tup cs =>
    have hn : cs.all AV.noL2 = true := hn
    obtain ⟨vs, rfl, hl, hc⟩ := h.tup_inv
    exact .tup _ _ hl (fun j x v hx hv => (hc j x v hx hv).noL2 (List.all_eq_true.1 hn x (List.mem_of_getElem? hx)))
  | fn f cs =>
    have hn : cs.all AV.noL2 = true := hn
    obtain ⟨vs, rfl, hl, hc⟩ := h.fn_inv
    exact .fn _ _ _ hl (fun j x v hx hv => (hc j x v hx hv).noL2 (List.all_eq_true.1 hn x (List.mem_of_getElem? hx)))
  | _ => exact h.noL1 hn
theorem Heap.noL_look {h : Heap} (hn : Heap.noL h = true) {r : Nat} {k : Blk} (hr : h.look r = some k) : k.noL = true := by
  induction h with
  | nil => cases hr
  | cons x h ih =>
    obtain ⟨q, b⟩ := x
    simp only [Heap.noL, Bool.and_eq_true] at hn
    simp only [Heap.look] at hr
    split at hr
    · cases hr; exact hn.1
    · exact ih hn.2 hr
theorem BlkRel.noL {S S' : Store} {ρ : Rho} {H : HF} {w : World} {r : Nat} {k : Blk} (h : BlkRel S ρ H w r k) (hn : k.noL = true) : BlkRel S' ρ H w r k := by
  cases k with
  | box cs =>
    have hn : cs.all AV.noL1 = true := hn
    obtain ⟨c, h1, h2, h3⟩ := h
    exact ⟨c, h1, h2, fun j x v hx hv => (h3 j x v hx hv).noL1 (List.all_eq_true.1 hn x (List.mem_of_getElem? hx))⟩
  | arr v =>
    obtain ⟨xs, m, c, h1, h2, h3, h4, h5, h6⟩ := h
    refine ⟨xs, m, c, h1, h2, h3, h4, h5, fun i x j y hx hy => ?_⟩
    obtain ⟨u, hu, hs⟩ := h6 i x j y hx hy
    refine ⟨u, hu, hs.noL1 ?_⟩
    have hm := List.mem_of_getElem? hx
    have hm2 := List.mem_of_getElem? hy
    cases v <;> simp [AV.elems] at h1 <;> first | (cases hn; done) | skip
    all_goals
      obtain ⟨rfl, rfl⟩ := h1
      obtain ⟨z, _, rfl⟩ := List.mem_map.1 hm
      simp [AV.cells] at hm2
      first | (subst hm2; rfl) | (rcases hm2 with rfl | rfl <;> rfl)
  | mat xss => exact h
theorem lend_back {S S1 S2 : Store} {ρ2 : Rho} {w w2 : World} {new : Heap} {val : AV} {cv : Value} (ha : Amb S) (hlt : ∀ b c, S b = some c -> b < w.heap.size) (h01 : S.le S1) (h1 : Rel (w.heap.size <= ·) S2 ρ2 new.look w2) (h2 : S1.le S2)
    (h3 : ∀ b, S1 b = none -> S2 b ≠ none -> w.heap.size <= b) (h4 : Kept (w.heap.size <= ·) w w2) (h5 : V S2 ρ2 new.look val cv) (n1 : val.noL = true) (n2 : Heap.noL new = true) :
    ∃ S3, Rel (w.heap.size <= ·) S3 ρ2 new.look w2 /\ S.le S3 /\ (∀ b, S b = none -> S3 b ≠ none -> w.heap.size <= b) /\ V S3 ρ2 new.look val cv := by
  classical
  let S3 : Store := fun b => if S b = none /\ b < w.heap.size then none else S2 b
  have sub : ∀ b c, S3 b = some c -> S2 b = some c := fun b c h => by
    simp only [S3] at h; split at h
    · cases h
    · exact h
  refine ⟨S3, ⟨fun b c h => h1.stab b c (sub b c h), ha.mono (S' := S3) (fun b c h => ?_), fun r k hr => (h1.blk r k hr).noL (Heap.noL_look n2 hr), fun r j hf => ⟨(h1.owned r j hf).1, ?_⟩, h1.sep⟩, fun b c h => ?_, fun b hb hb' => ?_, h5.noL n1⟩
  · simp only [S3]; rw [if_neg (by rw [h]; simp)]; exact h2 b c (h01 b c h)
  · simp only [S3]; split
    · rfl
    · exact (h1.owned r j hf).2
  · simp only [S3]; rw [if_neg (by rw [h]; simp)]; exact h2 b c (h01 b c h)
  · simp only [S3] at hb'; split at hb'
    · exact (hb' rfl).elim
    · rename_i hc; exact Nat.le_of_not_lt (fun hlt => hc ⟨hb, hlt⟩)
theorem lend {S : Store} {ρ : Rho} {H : HF} {w : World} (hrel : Rel own S ρ H w) (same : ∀ r k k', h.look r = some k -> H r = some k' -> k = k') :
    ∃ S', S.le S' /\ StoreIn S' w /\ ∀ v cv, V S ρ H v cv -> (bview h v).pureB = true -> Sees S' (bview h v) cv := by
  obtain ⟨S', f1, f2, f3, f4⟩ := Go.Vc.freeze hrel (fun _ => false)
  refine ⟨S', f1, ⟨f3.amb, f3.stab⟩, fun v cv hv hp => ?_⟩
  refine V.sees (S := S') (ρ := ρ) (H := frzH (fun _ => false) H) (hv.tr f1 (fun a cv hra hva => ?_)) hp
  have h5 := f4 a cv hva
  have e1 : a.tr (frzA (fun _ => false) H) = frzA (fun _ => false) H a := by cases a <;> first | rfl | cases hra
  rw [e1] at h5
  have ud : ∀ {u : Value}, V S' ρ (frzH (fun _ => false) H) .undef u := .pure _ _ (.undef _)
  have key : ∀ r, (∀ k, H r = some k -> h.look r = some k -> frzA (fun _ => false) h.look a = frzA (fun _ => false) H a) -> (h.look r = none -> frzA (fun _ => false) h.look a = .undef) -> (∃ k, H r = some k) -> V S' ρ (frzH (fun _ => false) H) (frzA (fun _ => false) h.look a) cv := by
    intro r h6 h7 ⟨k, hk⟩
    cases hl : h.look r with
    | none => rw [h7 hl]; exact ud
    | some k' => rw [h6 k hk (by rw [hl, same r k' k hl hk])]; exact h5
  cases hva with
  | pure _ _ h => cases a <;> simp [AV.isRef] at hra <;> (cases h with | lst _ _ _ _ _ he => simp [AV.elems] at he)
  | vec => cases hra
  | agg => cases hra
  | tup => cases hra
  | fn => cases hra
  | sl r v xs m a hr he ha => exact key r (fun k h1 h2 => by simp [frzA, h1, h2]) (fun h1 => by simp [frzA, h1]) ⟨_, hr⟩
  | mt r xss a hr ha => exact key r (fun k h1 h2 => by simp [frzA, h1, h2]) (fun h1 => by simp [frzA, h1]) ⟨_, hr⟩
  | mr r i xss row cv hr h0 hi h => exact key r (fun k h1 h2 => by simp [frzA, h1, h2]) (fun h1 => by simp [frzA, h1]) ⟨_, hr⟩
  | bx r off cs hr ho => exact ud
  | pa r i v xs m hr he h0 hi => exact ud
  | pm r i j xss row hr h0 hi hj0 hj => exact ud
  | po r i xss hr h0 hi => exact ud
theorem args_app {S : Store} {ρ : Rho} {H : HF} {as bs : List AV} {us vs : Array Value} (hl : us.size = as.length) (h1 : ∀ (j : Nat) x v, as[j]? = some x -> us[j]? = some v -> V S ρ H x v)
    (h2 : ∀ (j : Nat) x v, bs[j]? = some x -> vs[j]? = some v -> V S ρ H x v) : ∀ (j : Nat) x v, (as ++ bs)[j]? = some x -> (us ++ vs)[j]? = some v -> V S ρ H x v := by
  intro j x v hx hv
  by_cases hj : j < as.length
  · rw [List.getElem?_append_left hj] at hx
    rw [Array.getElem?_append_left (by omega)] at hv
    exact h1 j x v hx hv
  · rw [List.getElem?_append_right (by omega)] at hx
    rw [Array.getElem?_append_right (by omega)] at hv
    rw [hl] at hv
    exact h2 _ _ _ hx hv
theorem callF_core (hC : TableOK P C) (hCall : ∀ f c, (f, c) ∈ C -> Callable P f) (hle : ∀ r k, h.look r = some k -> hF r = some k) {g : FuncId} {avs : List AV}
    (hp : (C.find g (avs.map (bview h)) n).1 /\ (avs.map (bview h)).all AV.pureB = true /\ (avs.all AV.pureB || ((C.find g (avs.map (bview h)) n).2.1.noL && Heap.noL (C.find g (avs.map (bview h)) n).2.2)) = true)
    (hmk : ∀ (S : Store) (ρ : Rho) (H : HF) (a : Act) (w : World), (∀ x, x ∈ o.op.operands -> V S ρ H (opnd e x) (a.eval x)) ->
      ∃ us : Array Value, us.size = avs.length /\ (∀ (j : Nat) x v, avs[j]? = some x -> us[j]? = some v -> V S ρ H x v) /\ (execOp a.eval o).run P w = .ok (.enter g us) w) :
    OpOK P own o e hF (C.find g (avs.map (bview h)) n).2.1 (C.find g (avs.map (bview h)) n).2.2 := by
  intro S ρ H a w hown hsub hrel hx hnew next Q hK
  obtain ⟨us, hsz, hargsV, hrun⟩ := hmk S ρ H a w hx
  obtain ⟨hpre, hpure, hlend⟩ := hp
  have hfind : (g, .p (C.find g)) ∈ C := by
    rcases Table.find_mem (C := C) (f := g) with h | h
    · rw [h] at hpre; exact hpre.elim
    · exact h
  obtain ⟨hspec, hkeys⟩ := hC g _ hfind _ _ hpre
  unfold Oper.wp
  rw [hrun]
  show Calls P g _ w _
  cases hpp : avs.all AV.pureB with
  | true =>
    rw [bviews_pure hpp] at hspec hnew hK hpure
    have hargs : ∀ (j : Nat) x v, avs[j]? = some x -> us[j]? = some v -> Sees S x v := fun j x v hx hv =>
      V.sees (hargsV j x v hx hv) (List.all_eq_true.1 hpure x (List.mem_of_getElem? hx))
    have hcalls := hspec S w us ⟨hrel.amb, hrel.stab⟩ hsz hargs
    refine hcalls.mono ?_
    rintro en w' ⟨cv, S', ρ', rfl, h1, h2, h3, h4, h5⟩
    obtain ⟨hg, hk⟩ := grow_call hrel hown hnew h1 h2 h3 h4
    exact hK cv _ _ _ hg (h5.ext (fun _ _ h => h) hk)
  | false =>
    rw [hpp] at hlend
    simp only [Bool.false_or, Bool.and_eq_true] at hlend
    obtain ⟨S1, l1, l2, l3⟩ := lend (h := h) hrel (fun r k k' h1 h2 => by
      have e1 := hle _ _ h1; have e2 := hsub _ _ h2; rw [e1] at e2; exact Option.some.inj e2)
    have hargs : ∀ (j : Nat) x v, (avs.map (bview h))[j]? = some x -> us[j]? = some v -> Sees S1 x v := fun j x v hx hv => by
      have hb := List.all_eq_true.1 hpure x (List.mem_of_getElem? hx)
      rw [List.getElem?_map] at hx
      obtain ⟨y, hy, rfl⟩ := Option.map_eq_some_iff.1 hx
      exact l3 y v (hargsV j y v hy hv) hb
    have hcalls := hspec S1 w us l2 (by simpa using hsz) hargs
    refine hcalls.mono ?_
    rintro en w' ⟨cv, S', ρ', rfl, h1, h2, h3, h4, h5⟩
    obtain ⟨S3, g1, g2, g3, g4⟩ := lend_back hrel.amb (fun b c hb => hrel.store_lt hb) l1 h1 h2 h3 h4 h5 hlend.1 hlend.2
    obtain ⟨hg, hk⟩ := grow_call hrel hown hnew g1 g2 g3 h4
    exact hK cv _ _ _ hg (g4.ext (fun _ _ h => h) hk)
theorem callF_ok (hC : TableOK P C) (hCall : ∀ f c, (f, c) ∈ C -> Callable P f) (hle : ∀ r k, h.look r = some k -> hF r = some k) {f : Operand} {xs : List Operand} {ts : Array TypeId} (ho : o.op = .call ⟨.value f, ⟨xs⟩, ts⟩)
    (hp : (callF C h (opnd e f) (xs.map (opnd e)) n).1) (_hn : ∀ r, h.look r ≠ none -> r < n) :
    OpOK P own o e hF (callF C h (opnd e f) (xs.map (opnd e)) n).2.1 (callF C h (opnd e f) (xs.map (opnd e)) n).2.2 := by
  cases hf : opnd e f with
  | fn g caps =>
    rw [hf] at hp
    have hfind : (g, .p (C.find g)) ∈ C := by
      rcases Table.find_mem (C := C) (f := g) with h | h
      · have := hp.1; rw [h] at this; exact this.elim
      · exact h
    refine callF_core hC hCall hle hp (fun S ρ H a w hx => ?_)
    rw [ho] at hx
    have hxf : V S ρ H (opnd e f) (a.eval f) := hx f (by simp [Op.operands, Call.operands])
    have hxs : ∀ x, x ∈ xs -> V S ρ H (opnd e x) (a.eval x) := fun x hm => hx x (by simp [Op.operands, Call.operands, hm])
    rw [hf] at hxf
    obtain ⟨vs, hev, hvl, hvs⟩ := hxf.fn_inv
    refine ⟨(xs.map a.eval).toArray ++ vs, by simp [hvl], args_app (by simp) (fun j x v hx hv => args_ok hxs j x v hx (by simpa using hv)) hvs, ?_⟩
    simp [execOp, ho, resolve, hev, Deferred.ofValue, invoke]
    exact run_callFunc (hCall g _ hfind) _ w
  | bnd g caps =>
    rw [hf] at hp
    have hfind : (g, .p (C.find g)) ∈ C := by
      rcases Table.find_mem (C := C) (f := g) with h | h
      · have := hp.1; rw [h] at this; exact this.elim
      · exact h
    refine callF_core hC hCall hle hp (fun S ρ H a w hx => ?_)
    rw [ho] at hx
    have hxf : V S ρ H (opnd e f) (a.eval f) := hx f (by simp [Op.operands, Call.operands])
    have hxs : ∀ x, x ∈ xs -> V S ρ H (opnd e x) (a.eval x) := fun x hm => hx x (by simp [Op.operands, Call.operands, hm])
    rw [hf] at hxf
    obtain ⟨vs, hev, hvl, hvs⟩ := hxf.bnd_inv
    refine ⟨vs ++ (xs.map a.eval).toArray, by simp [hvl], args_app hvl hvs (fun j x v hx hv => args_ok hxs j x v hx (by simpa using hv)), ?_⟩
    simp [execOp, ho, resolve, hev, Deferred.ofValue, invoke]
    exact run_callFunc (hCall g _ hfind) _ w
  | _ => rw [hf] at hp; exact hp.elim
theorem V.tr_keep {S : Store} {ρ : Rho} {H : HF} {φ : AV -> AV} (hφ : ∀ a cv, a.isRef = true -> V S ρ H a cv -> φ a = a) {v : AV} {cv : Value} (h : V S ρ H v cv) : v.tr φ = v := by
  have L : ∀ (cs : List AV) (vs : Array Value), vs.size = cs.length -> (∀ (j : Nat) x v, cs[j]? = some x -> vs[j]? = some v -> x.tr φ = x) -> AV.trL φ cs = cs := fun cs vs hl ih => by
    apply AV.trL_id
    intro j x hx
    have hj : j < vs.size := by rw [hl]; exact (List.getElem?_eq_some_iff.1 hx).1
    exact ih j x vs[j] hx (by simp [hj])
  induction h with
  | pure v cv h => exact h.tr_id φ
  | vec cs a b off c vals cap hrow hcap hc h ih => show AV.vec _ = _; rw [AV.trL_id (fun j x hx => ih j x hx)]
  | agg cs vs hl h ih => show AV.agg _ = _; rw [L cs vs hl ih]
  | tup cs vs hl h ih => show AV.tup _ = _; rw [L cs vs hl ih]
  | fn f cs vs hl h ih => show AV.fn f _ = _; rw [L cs vs hl ih]
  | sl r v xs m a hr he ha => exact hφ (.sl r) _ rfl (.sl r v xs m a hr he ha)
  | mt r xss a hr ha => exact hφ (.mt r) _ rfl (.mt r xss a hr ha)
  | mr r i xss row cv hr h0 hi h => exact hφ (.mr r i) _ rfl (.mr r i xss row cv hr h0 hi h)
  | bx r off cs hr ho => exact hφ (.bx r off) _ rfl (.bx r off cs hr ho)
  | pa r i v xs m hr he h0 hi => exact hφ (.pa r i) _ rfl (.pa r i v xs m hr he h0 hi)
  | pm r i j xss row hr h0 hi hj0 hj => exact hφ (.pm r i j) _ rfl (.pm r i j xss row hr h0 hi hj0 hj)
  | po r i xss hr h0 hi => exact hφ (.po r i) _ rfl (.po r i xss hr h0 hi)
theorem frzA_keep {keep : Nat -> Bool} {S : Store} {ρ : Rho} {H H' : HF} (hk : ∀ r k, H r = some k -> keep r = true) (a : AV) (cv : Value) (hra : a.isRef = true) (h : V S ρ H a cv) : frzA keep H' a = a := by
  cases h with
  | pure _ _ h => cases a <;> simp [AV.isRef] at hra <;> (cases h with | lst _ _ _ _ _ he => simp [AV.elems] at he)
  | vec => cases hra
  | agg => cases hra
  | tup => cases hra
  | fn => cases hra
  | sl r v xs m a hr he ha => simp [frzA, hk _ _ hr]
  | mt r xss a hr ha => simp [frzA, hk _ _ hr]
  | mr r i xss row cv hr h0 hi h => simp [frzA, hk _ _ hr]
  | bx r off cs hr ho => simp [frzA, hk _ _ hr]
  | pa r i v xs m hr he h0 hi => simp [frzA, hk _ _ hr]
  | pm r i j xss row hr h0 hi hj0 hj => simp [frzA, hk _ _ hr]
  | po r i xss hr h0 hi => simp [frzA, hk _ _ hr]
theorem OpOK.freeze {v : AV} {new : Heap} (h : OpOK P own o e hF v new) (hfresh : ∀ r k, hF r = some k -> new.look r = none) : OpOK P own o e hF (v.tr (frzA (fun _ => false) new.look)) [] := by
  intro S ρ H a w hown hsub hrel hx _ next Q hK
  have hnew : ∀ r, new.look r ≠ none -> H r = none := fun r hr => by
    cases hH : H r with
    | none => rfl
    | some k => exact absurd (hfresh r k (hsub r k hH)) hr
  refine h S ρ H a w hown hsub hrel hx hnew next Q (fun cv S' ρ' w' hg hv => ?_)
  obtain ⟨S'', h1, h2, h3, h4⟩ := Go.Vc.freeze hg.rel (fun r => (new.look r).isNone)
  have hkeep : ∀ r k, H r = some k -> (new.look r).isNone = true := fun r k hr => by
    rw [hfresh r k (hsub r k hr)]; rfl
  have eH : frzH (fun r => (new.look r).isNone) (addH new H) = H := by
    funext r
    cases hn : new.look r with
    | some k =>
      have e0 := hnew r (by rw [hn]; simp)
      simp [frzH, hn, e0]
    | none =>
      simp only [frzH, hn, Option.isNone_none, cond_true, addH_old hn]
      cases hH : H r with
      | none => rfl
      | some k =>
        cases k with
        | box cs =>
          obtain ⟨c, _, hl, hc⟩ := hrel.blk r _ hH
          simp only [Option.map_some, Blk.tr]
          congr 2
          apply AV.trL_id
          intro j x hx
          have hj : j < c.size := by rw [hl]; exact (List.getElem?_eq_some_iff.1 hx).1
          exact V.tr_keep (fun a cv hra hv => frzA_keep hkeep a cv hra hv) (hc j x c[j] hx (by simp [hj]))
        | arr v => rfl
        | mat xss => rfl
  rw [eH] at h3 h4
  have hv' : V S'' ρ' H (v.tr (frzA (fun _ => false) new.look)) cv := by
    refine hv.tr h1 (fun a cv hra hva => ?_)
    have h5 := h4 a cv hva
    have e1 : a.tr (frzA (fun r => (new.look r).isNone) (addH new H)) = frzA (fun r => (new.look r).isNone) (addH new H) a := by cases a <;> first | rfl | cases hra
    rw [e1] at h5
    have one : ∀ r, (new.look r = none -> frzA (fun _ => false) new.look a = .undef) -> (∀ k, new.look r = some k -> frzA (fun r => (new.look r).isNone) (addH new H) a = frzA (fun _ => false) new.look a) ->
        V S'' ρ' H (frzA (fun _ => false) new.look a) cv := fun r ha hb => by
      cases hn : new.look r with
      | none => rw [ha hn]; exact .pure _ _ (.undef _)
      | some k => rw [hb k hn] at h5; exact h5
    cases a with
    | sl r => exact one r (fun hn => by simp [frzA, hn]) (fun k hn => by simp [frzA, hn, addH_new hn])
    | mt r => exact one r (fun hn => by simp [frzA, hn]) (fun k hn => by simp [frzA, hn, addH_new hn])
    | mr r i => exact one r (fun hn => by simp [frzA, hn]) (fun k hn => by simp [frzA, hn, addH_new hn])
    | bx r o => exact .pure _ _ (.undef _)
    | pa r i => exact .pure _ _ (.undef _)
    | pm r i j => exact .pure _ _ (.undef _)
    | po r i => exact .pure _ _ (.undef _)
    | _ => cases hra
  exact hK cv S'' ρ' w' ⟨h3, fun b c hb => h1 b c (hg.store b c hb), fun b hb hb' => by
    by_cases hS : S' b = none
    · exact h2 b hS hb'
    · exact hg.fresh b hb hS, ⟨fun _ _ h => h, fun r k j hr => hg.keep.blk r k j hr, fun r k hr => hg.keep.cap r k hr, fun r k i hr => hg.keep.rcap r k i hr⟩, hg.kept⟩ hv'
theorem ofPure (v : AV) (h : ∀ (S : Store) (ρ : Rho) (H : HF) (a : Act) (w : World), (∀ r k, H r = some k -> hF r = some k) -> Rel own S ρ H w -> (∀ x, x ∈ o.op.operands -> V S ρ H (opnd e x) (a.eval x)) ->
      ∃ cv, (execOp a.eval o).run P w = .ok (.value cv) w /\ V S ρ H v cv) : OpOK P own o e hF v [] := OpOK.ofRun h
theorem box_okR {t : TypeId} {x : AV} {ow : Bool} (hp : (boxR ow n x).pre)
    (hrun : ∀ (S : Store) (ρ : Rho) (H : HF) (a : Act) (w : World), (∀ y, y ∈ o.op.operands -> V S ρ H (opnd e y) (a.eval y)) ->
      ∃ cx, V S ρ H x cx /\ (execOp a.eval o).run P w = .ok (.value (.pointer (some ⟨w.heap.size, 0, none⟩))) { w with heap := w.heap.push (.cells cx.cells t) }) :
    OpOK P own o e hF (boxR ow n x).val (boxR ow n x).new := by
  intro S ρ H a w hown hsub hrel hx hnew next Q hK
  obtain ⟨cx, hvx, hr⟩ := hrun S ρ H a w hx
  unfold Oper.wp
  rw [hr]
  cases ow with
  | true =>
    have hu : boxOK x = true := hp
    obtain ⟨hl, hc⟩ : cx.cells.size = x.cells.length /\ ∀ (j : Nat) y v, x.cells[j]? = some y -> cx.cells[j]? = some v -> V S ρ H y v := by
      unfold boxOK at hu
      cases ha : isAgg1 x with
      | true =>
        rw [ha] at hu
        cases x <;> simp [isAgg1] at ha
        rename_i cs
        obtain ⟨vs, rfl, hl, hcs⟩ := hvx.agg_inv
        exact ⟨hl, hcs⟩
      | false =>
        rw [ha] at hu
        have hu : x.cell1 = true := hu
        have e : x.cells = [x] := by cases x <;> first | rfl | simp [isAgg1] at ha
        obtain ⟨o1, o2⟩ := hvx.oneCell hu
        rw [e, o2]
        refine ⟨rfl, fun j y v hy hv => ?_⟩
        cases j with
        | zero => simp at hy hv; subst hy; subst hv; exact hvx
        | succ j => simp at hy
    have hn : H n = none := hnew n (by simp [boxR, Heap.look])
    have g := box_own hrel hown hn cx.cells t x.cells hl hc
    refine hK _ _ _ _ g ?_
    have := V.bx (S := S) (ρ := ρ.set n w.heap.size 0) (H := addH [(n, .box x.cells)] H) n 0 x.cells (addH_self _ _ _) (Nat.zero_le _)
    simp only [Rho.set, if_true] at this
    exact this
  | false =>
    have hu : x.isUndef = false /\ x.pureB = true := hp
    obtain ⟨hl, hc⟩ := cells_agg hvx hu.2 hu.1
    obtain ⟨g, hv⟩ := box_stable hrel hown cx.cells t x.cells hl hc
    exact hK _ _ _ _ g hv
theorem evalH_ok (hC : TableOK P C) (hCall : ∀ f c, (f, c) ∈ C -> Callable P f) (hle : ∀ r k, h.look r = some k -> hF r = some k)
    (hfr : ∀ r, n <= r -> r < n + (evalH P C hint o e h n).cnt -> (evalH P C hint o e h n).new.look r = none -> hF r = none)
    (hn : ∀ r, h.look r ≠ none -> r < n)
    (hp : (evalH P C hint o e h n).pre) : OpOK P own o e hF (evalH P C hint o e h n).val (evalH P C hint o e h n).new := by
  unfold evalH at hp hfr ⊢
  split at hp <;> (rename_i ho; simp only [ho] at hfr ⊢)
  · exact ofPure _ (fun S ρ H a w hsub hrel hx => ⟨_, by simp [execOp, ho], hx _ (by rw [ho]; simp [Op.operands])⟩)
  · exact ofPure _ (fun S ρ H a w hsub hrel hx => ⟨_, by simp [execOp, ho], hx _ (by rw [ho]; simp [Op.operands])⟩)
  · rename_i op t x y t2
    refine ofPure _ (fun S ρ H a w hsub hrel hx => ?_)
    rw [ho] at hx
    have h1 := hx x (by simp [Op.operands])
    have h2 := hx y (by simp [Op.operands])
    obtain ⟨cv, hr, hv⟩ := binOp_ok (w := w) hp h1 h2
    exact ⟨cv, by simp [execOp, ho, eqGuard_ok x y hp h1 h2, hr], hv⟩
  · rename_i t x
    refine ofPure _ (fun S ρ H a w hsub hrel hx => ?_)
    rw [ho] at hx
    obtain ⟨cv, hr, hv⟩ := not_ok (P := P) (w := w) hp (hx x (by simp [Op.operands]))
    exact ⟨cv, by simp [execOp, ho, hr], hv⟩
  · rename_i t x
    refine ofPure _ (fun S ρ H a w hsub hrel hx => ?_)
    rw [ho] at hx
    obtain ⟨cv, hr, hv⟩ := neg_ok (P := P) (w := w) hp (hx x (by simp [Op.operands]))
    exact ⟨cv, by simp [execOp, ho, hr], hv⟩
  · rename_i s t x
    refine ofPure _ (fun S ρ H a w hsub hrel hx => ?_)
    rw [ho] at hx
    obtain ⟨cv, hr, hv⟩ := conv_ok (w := w) hrel hp (hx x (by simp [Op.operands]))
    exact ⟨cv, by simp [execOp, ho, hr], hv⟩
  · rename_i t x i
    refine ofPure _ (fun S ρ H a w hsub hrel hx => ?_)
    rw [ho] at hx
    obtain ⟨cv, hr, hv⟩ := idx_ok hle hsub hrel hp (hx x (by simp [Op.operands])) (hx i (by simp [Op.operands]))
    exact ⟨cv, by simp [execOp, ho, hr], hv⟩
  · rename_i t x i
    refine ofPure _ (fun S ρ H a w hsub hrel hx => ?_)
    rw [ho] at hx
    obtain ⟨cv, hr, hv⟩ := sidx_ok (w := w) hp (hx x (by simp [Op.operands])) (hx i (by simp [Op.operands]))
    exact ⟨cv, by simp [execOp, ho, hr], hv⟩
  · rename_i t x
    refine ofPure _ (fun S ρ H a w hsub hrel hx => ?_)
    rw [ho] at hx
    obtain ⟨cv, hr, hv⟩ := load_ok hle hsub hrel hp (hx x (by simp [Op.operands]))
    exact ⟨cv, by simp [execOp, ho, hr], hv⟩
  · rename_i t x f
    refine ofPure _ (fun S ρ H a w hsub hrel hx => ?_)
    rw [ho] at hx
    obtain ⟨cv, hr, hv⟩ := fieldAddr_ok (w := w) hle hsub hp (hx x (by simp [Op.operands]))
    exact ⟨cv, by simp [execOp, ho, hr], hv⟩
  · rename_i t x f
    refine ofPure _ (fun S ρ H a w hsub hrel hx => ?_)
    rw [ho] at hx
    obtain ⟨cv, hr, hv⟩ := part_ok (w := w) hp (hx x (by simp [Op.operands]))
    exact ⟨cv, by simp [execOp, ho, hr], hv⟩
  · rename_i x k
    refine ofPure _ (fun S ρ H a w hsub hrel hx => ?_)
    rw [ho] at hx
    obtain ⟨cv, hr, hv⟩ := extract_ok (P := P) (w := w) hp (hx x (by simp [Op.operands]))
    exact ⟨cv, by simp [execOp, ho, hr], hv⟩
  · rename_i f xs
    refine ofPure _ (fun S ρ H a w hsub hrel hx => ?_)
    rw [ho] at hx
    refine ⟨.func (.func f) #[] (xs.map a.eval).toArray, by simp [execOp, ho, Instr.makeFunc], .fn f _ _ (by simp) (fun j x v h1 h2 => args_ok (fun x hm => hx x (by simp [Op.operands]; exact hm)) j x v h1 (by simpa using h2))⟩
  · rename_i f x xs
    refine ofPure _ (fun S ρ H a w hsub hrel hx => ?_)
    rw [ho] at hx
    have hpp : ((x :: xs).map (opnd e)).all AV.pureB = true := hp
    refine ⟨.func (.func f) ((x :: xs).map a.eval).toArray #[], by simp [execOp, ho, Instr.makeFunc], .pure _ _ (.bnd f _ _ (by simp) (fun j y v h1 h2 => ?_))⟩
    exact V.sees (args_ok (xs := x :: xs) (fun y hm => hx y (by simp [Op.operands]; simpa using hm)) j y v h1 (by simpa using h2)) (List.all_eq_true.1 hpp y (List.mem_of_getElem? h1))
  · rename_i t x
    refine box_okR (t := t) hp (fun S ρ H a w hx => ?_)
    rw [ho] at hx
    exact ⟨a.eval x, hx x (by simp [Op.operands]), by simp [execOp, ho, Instr.box, newVar, newRow]⟩
  · rename_i t
    unfold allocR at hp ⊢
    cases hz : zv P t with
    | none => rw [hz] at hp; exact hp.elim
    | some z =>
      simp only [hz] at hp ⊢
      refine box_okR (t := t) hp (fun S ρ H a w hx => ⟨z, cst_v S ρ H z, ?_⟩)
      obtain ⟨i, hi, hiz⟩ := Option.bind_eq_some_iff.1 hz
      simp [execOp, ho, Instr.alloc, zeroValue, typeInfo, hi, hiz, newVar, newRow]
  · rename_i x t
    refine ofPure _ (fun S ρ H a w hsub hrel hx => ?_)
    rw [ho] at hx
    obtain ⟨cv, hr, hv⟩ := len_ok (ty := o.type) hle hsub hrel hp (hx x (by simp [Op.operands, Call.operands]))
    exact ⟨cv, by simp [execOp, ho, resolve, invoke, builtin, hr], hv⟩
  · rename_i x y ts
    refine ofPure _ (fun S ρ H a w hsub hrel hx => ?_)
    rw [ho] at hx
    obtain ⟨cv, hr, hv⟩ := minmax_ok (P := P) (w := w) (ts := ts) (ty := o.type) (cs := #[x, y].map fun | .const _ => true | _ => false) hp (hx x (by simp [Op.operands, Call.operands])) (hx y (by simp [Op.operands, Call.operands]))
    exact ⟨cv, by simp [execOp, ho, resolve, invoke] at hr ⊢; exact hr, hv⟩
  · rename_i x y ts
    refine ofPure _ (fun S ρ H a w hsub hrel hx => ?_)
    rw [ho] at hx
    obtain ⟨cv, hr, hv⟩ := minmax_ok (P := P) (w := w) (ts := ts) (ty := o.type) (cs := #[x, y].map fun | .const _ => true | _ => false) hp (hx x (by simp [Op.operands, Call.operands])) (hx y (by simp [Op.operands, Call.operands]))
    exact ⟨cv, by simp [execOp, ho, resolve, invoke] at hr ⊢; exact hr, hv⟩
  · rename_i t len ps
    cases hm : hint.mat (o.dst.getD 0) with
    | true => simp only [hm, selR, cond_true] at hp ⊢; exact buildMR_ok ho hp
    | false =>
      cases hpu : (ps.map fun p => opnd e p.2).all AV.pureB with
      | true => simp only [hm, hpu, selR, cond_true, cond_false] at hp ⊢; exact buildR_ok ho hp hpu
      | false => simp only [hm, hpu, selR, cond_false] at hp ⊢; exact vecR_ok ho hp
  · cases hm : hint.mat (o.dst.getD 0) with
    | true => simp only [hm, selR, cond_true] at hp ⊢; exact makeMR_ok ho hp
    | false => simp only [hm, selR, cond_false] at hp ⊢; exact makeR_ok ho hp
  · rename_i t x lo hi
    refine ofPure _ (fun S ρ H a w hsub hrel hx => ?_)
    rw [ho] at hx
    obtain ⟨cv, hr, hv⟩ := slice_ok (w := w) (vlo := lo.map a.eval) (vhi := hi.map a.eval) hp (hx x (by simp [Op.operands])) (fun u hu => by
        obtain ⟨y, rfl, rfl⟩ := Option.map_eq_some_iff.1 hu
        exact ⟨_, rfl, hx y (by simp [Op.operands])⟩) (fun h => by cases lo <;> simp at h ⊢) (fun u hu => by
        obtain ⟨y, rfl, rfl⟩ := Option.map_eq_some_iff.1 hu
        exact ⟨_, rfl, hx y (by simp [Op.operands])⟩) (fun h => by cases hi <;> simp at h ⊢)
    exact ⟨cv, by simp [execOp, ho, hr], hv⟩
  · exact appN_ok ho hp
  · rename_i f xs ts
    cases hh : hint (o.dst.getD 0) with
    | true =>
      simp only [hh, frzNew, cond_true] at hp ⊢
      exact callF_ok hC hCall hle ho hp hn
    | false =>
      simp only [hh, frzNew, cond_false] at hp hfr ⊢
      refine (callF_ok hC hCall hle ho hp hn).freeze (fun r k hr => ?_)
      cases hl : (callF C h (opnd e f) (xs.map (opnd e)) n).2.2.look r with
      | none => rfl
      | some k' =>
        have hb : n <= r /\ r < n + (topH (callF C h (opnd e f) (xs.map (opnd e)) n).2.2 - n) := by
          cases hf : opnd e f with
          | fn g caps =>
            rw [hf] at hp hl
            obtain ⟨hpre, _⟩ := hp
            have hfind : (g, .p (C.find g)) ∈ C := by
              rcases Table.find_mem (C := C) (f := g) with h | h
              · rw [h] at hpre; exact hpre.elim
              · exact h
            have h1 := (hC g _ hfind _ _ hpre).2 r (by simp only [callF] at hl; rw [hl]; simp)
            have h2 := topH_look (h := (callF C h (.fn g caps) (xs.map (opnd e)) n).2.2) (r := r) (by rw [hl]; simp)
            exact ⟨h1, by omega⟩
          | bnd g caps =>
            rw [hf] at hp hl
            obtain ⟨hpre, _⟩ := hp
            have hfind : (g, .p (C.find g)) ∈ C := by
              rcases Table.find_mem (C := C) (f := g) with h | h
              · rw [h] at hpre; exact hpre.elim
              · exact h
            have h1 := (hC g _ hfind _ _ hpre).2 r (by simp only [callF] at hl; rw [hl]; simp)
            have h2 := topH_look (h := (callF C h (.bnd g caps) (xs.map (opnd e)) n).2.2) (r := r) (by rw [hl]; simp)
            exact ⟨h1, by omega⟩
          | _ => rw [hf] at hp; exact hp.elim
        rw [hfr r hb.1 hb.2 rfl] at hr; cases hr
  · rename_i t ps
    have hnew : (buildS (flatZ P t) (ps.map Prod.fst) (ps.map fun p => opnd e p.2)).new = [] := by unfold buildS; split <;> rfl
    rw [hnew]
    refine ofPure _ (fun S ρ H a w hsub hrel hx => ?_)
    rw [ho] at hx
    obtain ⟨cv, hr, hv⟩ := build_ok (P := P) (w := w) (a := a) hp (fun p hm => hx p.2 (by simp [Op.operands]; exact ⟨p.1, hm⟩))
    have hr' : (Instr.build t (ps.map fun x => (x.1, a.eval x.2)).toArray).run P w = .ok cv w := hr
    exact ⟨cv, by simp [execOp, ho, hr'], hv⟩
  · rename_i x
    refine ofPure _ (fun S ρ H a w hsub hrel hx => ?_)
    rw [ho] at hx
    have hv := hx x (by simp [Op.operands])
    obtain ⟨ad, hc⟩ := hv.ptr hp
    rw [hc] at hv
    exact ⟨_, by simp [execOp, ho, hc], hv⟩
  · exact hp.elim
end
end Go.Vc
