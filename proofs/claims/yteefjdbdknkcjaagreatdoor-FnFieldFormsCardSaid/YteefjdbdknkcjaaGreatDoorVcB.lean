/- An abstract run of the model's code, with proofs that it is sound: whatever order a region draws, whatever capacity an append draws. Conditions: none. Part two. -/
import Derived.Test.YteefjdbdknkcjaaGreatDoorVcA
import Derived.Tactics
import Derived.WalkSpells
import Derived.Laws.CopyRow
import Derived.Laws.Rows
import Derived.WideLaws
import Derived.StillTail
set_option linter.unusedSimpArgs false
set_option linter.unusedVariables false
namespace Go.Vc
open Go.RowKit
def dset (e : Env) (d : Option Tmp) (v : AV) : Env := match d with | some d => (d, v) :: e | none => e
def gdst : List Oper -> Nat -> Option Tmp
  | [], _ => none
  | o :: _, 0 => o.dst
  | _ :: l, n + 1 => gdst l n
theorem gdst_eq (l : List Oper) (j : Nat) : gdst l j = (l[j]?).bind (·.dst) := by
  induction l generalizing j with
  | nil => rfl
  | cons o l ih => cases j with
    | zero => rfl
    | succ j => simp [gdst, ih]
def partB (b : Bool) (A B : Prop) : Prop := (b = true -> A) /\ (b = false -> B)
theorem partB_true (A B : Prop) : partB true A B = A := by simp [partB]
theorem partB_false (A B : Prop) : partB false A B = B := by simp [partB]
theorem partB_intro {b : Bool} {A B : Prop} (h1 : b = true -> A) (h2 : b = false -> B) : partB b A B := ⟨h1, h2⟩
def guardS (want : Bool) (d : Tmp) (e : Env) (v : AV) (yes no : Env -> Prop) : Prop :=
  match v with
  | .bool b => partB b (bif want then yes ((d, .tt) :: e) else no ((d, .tt) :: e)) (bif want then no ((d, .ff) :: e) else yes ((d, .ff) :: e))
  | .tt => bif want then yes e else no e
  | .ff => bif want then no e else yes e
  | .skipd => no e
  | _ => False
def guardD (want : Bool) (d : Option Tmp) (e : Env) (yes no : Env -> Prop) : Prop :=
  match d with
  | some d => guardS want d e (e.get d) yes no
  | none => no e
def guardA (all : List Oper) (gd : Option (Nat × Bool)) (e : Env) (yes no : Env -> Prop) : Prop :=
  match gd with
  | none => yes e
  | some (j, want) => guardD want (gdst all j) e yes no
def pickS (v : AV) (A B : Prop) : Prop :=
  match v with
  | .bool t => partB t A B
  | .tt => A
  | .ff => B
  | _ => False
structure ResM where
  pre : Prop
  env : Env
  heap : Heap
def noM : ResM := ⟨False, [], []⟩
def hset : Heap -> Nat -> Blk -> Heap
  | [], _, _ => []
  | (k, v) :: h, r, b => if k = r then (k, b) :: h else (k, v) :: hset h r b
theorem hset_look (h : Heap) (r : Nat) (b : Blk) (q : Nat) : (hset h r b).look q = if q = r then (match h.look r with | some _ => some b | none => none) else h.look q := by
  induction h with
  | nil => simp [hset, Heap.look]
  | cons x h ih =>
    obtain ⟨k, v⟩ := x
    unfold hset
    by_cases hk : k = r
    · subst hk
      simp only [if_true, Heap.look]
      by_cases hq : q = k
      · subst hq; simp
      · rw [if_neg (Ne.symm hq), if_neg hq, if_neg (Ne.symm hq)]
    · rw [if_neg hk]
      simp only [Heap.look, ih, hk, if_false]
      by_cases hq : q = r
      · subst hq; simp [hk]
      · simp [hq]
def memN : List Nat -> Nat -> Bool
  | [], _ => false
  | a :: l, d => bif a == d then true else memN l d
def purN (ns ws : List Nat) : AV -> AV
  | .sl q => bif memN ns q then .undef else .sl q
  | .mt q => bif memN ns q then .undef else .mt q
  | .mr q i => bif memN ns q || memN ws q then .undef else .mr q i
  | .bx q o => bif memN ns q then .undef else .bx q o
  | .pa q i => bif memN ns q then .undef else .pa q i
  | .pm q i j => bif memN ns q || memN ws q then .undef else .pm q i j
  | .po q i => bif memN ns q then .undef else .po q i
  | v => v
def trE (φ : AV -> AV) : Env -> Env
  | [] => []
  | (t, v) :: e => (t, v.tr φ) :: trE φ e
def trH (φ : AV -> AV) (ns : List Nat) : Heap -> Heap
  | [] => []
  | (q, k) :: h => bif memN ns q then trH φ ns h else (q, k.tr φ) :: trH φ ns h
theorem trE_get (φ : AV -> AV) (e : Env) (t : Tmp) (h0 : φ .undef = .undef) : (trE φ e).get t = (e.get t).tr φ := by
  induction e with
  | nil => rfl
  | cons x e ih =>
    obtain ⟨q, v⟩ := x
    simp only [trE, Env.get]
    split
    · rfl
    · exact ih
theorem trH_look (φ : AV -> AV) (ns : List Nat) (h : Heap) (q : Nat) : (trH φ ns h).look q = if memN ns q then none else (h.look q).map (Blk.tr φ) := by
  induction h with
  | nil => simp [trH, Heap.look]
  | cons x h ih =>
    obtain ⟨k, v⟩ := x
    simp only [trH]
    cases hm : memN ns k with
    | true =>
      simp only [cond_true, ih, Heap.look]
      by_cases e : k = q
      · subst e; simp [hm]
      · simp [e]
    | false =>
      simp only [cond_false, Heap.look, ih]
      by_cases e : k = q
      · subst e; simp [hm]
      · simp [e]
def rowR (hint : Hint) (d : TD) (r : Nat) (i : Int) (xss : List (List Int)) (n : Nat) (k : Option Blk) (e : Env) (h : Heap) : ResM :=
  match d, k with
  | .one, some (.arr (.ints ys)) => ⟨hint.n0 <= r /\ (n == r) = false, trE (purN [n] [r]) e, (r, .mat (xss.set i.toNat ys)) :: trH (purN [n] [r]) [n, r] h⟩
  | _, _ => noM
def appM (hint : Hint) (P : Program) (ts tx : TypeId) (s : AV) (k : Option Blk) (y : AV) (e : Env) (h : Heap) : ResM :=
  match s, k, y with
  | .mt r, some (.mat xss), .vec [.sl n] => match h.look n with
    | some (.arr (.ints ys)) => ⟨(hint.n0 <= r /\ (n == r) = false) /\ apP (ap P ts) 1 (xss.length + 1) /\ isSl P tx, trE (purN [r, n] []) e, (r, .mat (xss ++ [ys])) :: trH (purN [r, n] []) [n, r] h⟩
    | _ => noM
  | .mt r, some (.mat xss), .mt n => match h.look n with
    | some (.mat yss) => ⟨(hint.n0 <= r /\ (n == r) = false) /\ apP (ap P ts) 1 (xss.length + yss.length) /\ isSl P tx, trE (purN [r, n] []) e, (r, .mat (xss ++ yss)) :: trH (purN [r, n] []) [n, r] h⟩
    | _ => noM
  | _, _, _ => noM
inductive ARef where
  | whole (r : Nat)
  | row (r : Nat) (i : Int)
def ARef.base : ARef -> Nat
  | .whole r => r
  | .row r _ => r
def ren0 (k : Nat) : AV -> AV × List ARef
  | .sl r => (.sl k, [.whole r])
  | .mt r => (.mt k, [.whole r])
  | .bx r o => (.bx k o, [.whole r])
  | .mr r i => (.sl k, [.row r i])
  | v => (bif v.pureB then v else .undef, [])
def renD (a : AV × List ARef) (b : List AV × List ARef) : List AV × List ARef := (a.1 :: b.1, a.2 ++ b.2)
def renL0 : Nat -> List AV -> List AV × List ARef
  | _, [] => ([], [])
  | k, v :: l => renD (ren0 k v) (renL0 (k + (ren0 k v).2.length) l)
def ren1 (k : Nat) : AV -> AV × List ARef
  | .agg cs => (.agg (renL0 k cs).1, (renL0 k cs).2)
  | .fn f cs => (.fn f (renL0 k cs).1, (renL0 k cs).2)
  | v => ren0 k v
def renL : Nat -> List AV -> List AV × List ARef
  | _, [] => ([], [])
  | k, v :: l => renD (ren1 k v) (renL (k + (ren1 k v).2.length) l)
def subB (h : Heap) : ARef -> Option Blk
  | .whole r => h.look r
  | .row r i => match h.look r with
    | some (.mat xss) => some (.arr (.ints (ix xss i)))
    | _ => none
def subC (k : Nat) (b : Option Blk) (h : Heap) : Heap :=
  match b with
  | some b => (k, b) :: h
  | none => h
def subH (h : Heap) : Nat -> List ARef -> Heap
  | _, [] => []
  | k, a :: l => subC k (subB h a) (subH h (k + 1) l)
def Blk.plain : Blk -> Bool
  | .box cs => cs.all AV.pure1
  | _ => true
def plainO : Option Blk -> Bool
  | some b => b.plain
  | none => false
def Heap.plain : Heap -> Bool
  | [] => true
  | (_, k) :: h => k.plain && Heap.plain h
def distB : List Nat -> Bool
  | [] => true
  | a :: l => !memN l a && distB l
def rowO : ARef -> Option Blk -> Bool
  | .whole _, _ => true
  | .row _ _, some (.arr (.ints _)) => true
  | _, _ => false
def rowsOK (post : Heap) : Nat -> List ARef -> Bool
  | _, [] => true
  | i, a :: l => rowO a (post.look i) && rowsOK post (i + 1) l
def updB (h post : Heap) (i : Nat) : ARef -> Option Blk
  | .whole _ => post.look i
  | .row r j => match h.look r, post.look i with
    | some (.mat xss), some (.arr (.ints ys)) => some (.mat (xss.set j.toNat ys))
    | _, _ => none
def mkUpd (h post : Heap) : Nat -> List ARef -> List (Nat × Option Blk)
  | _, [] => []
  | i, a :: l => (a.base, updB h post i a) :: mkUpd h post (i + 1) l
def assoc : List (Nat × Option Blk) -> Nat -> Option (Option Blk)
  | [], _ => none
  | (k, v) :: l, q => bif k == q then some v else assoc l q
def goneC (k : Option Blk) (r : Nat) (l : List Nat) : List Nat :=
  match k with
  | some _ => l
  | none => r :: l
def gone (post : Heap) : Nat -> List ARef -> List Nat
  | _, [] => []
  | i, a :: l => goneC (post.look i) a.base (gone post (i + 1) l)
def updC (φ : AV -> AV) (q : Nat) (k : Blk) (u : Option (Option Blk)) (h : Heap) : Heap :=
  match u with
  | some (some k') => (q, k') :: h
  | some none => h
  | none => (q, k.tr φ) :: h
def updH (φ : AV -> AV) (upd : List (Nat × Option Blk)) : Heap -> Heap
  | [] => []
  | (q, k) :: h => updC φ q k (assoc upd q) (updH φ upd h)
def newM (m n : Nat) : Heap -> Heap
  | [] => []
  | (i, k) :: l => bif Nat.ble m i then (n + (i - m), k) :: newM m n l else newM m n l
def backR (refs : List ARef) (m n i : Nat) (w : Nat -> AV) (r : Nat -> Int -> AV) : AV :=
  match refs[i]? with
  | some (.whole q) => w q
  | some (.row q j) => r q j
  | none => w (n + (i - m))
def backA (refs : List ARef) (m n : Nat) : AV -> AV
  | .sl i => backR refs m n i .sl .mr
  | .mt i => backR refs m n i .mt fun _ _ => .undef
  | .bx i o => backR refs m n i (fun q => .bx q o) fun _ _ => .undef
  | .mr i j => backR refs m n i (fun q => .mr q j) fun _ _ => .undef
  | .pa _ _ => .undef
  | .pm _ _ _ => .undef
  | .po _ _ => .undef
  | v => v
structure ResC where
  pre : Prop
  val : AV
  env : Env
  heap : Heap
  cnt : Nat
def callC (ra : List AV × List ARef) (F : List AV -> Heap -> Nat -> Prop × AV × Heap) (e : Env) (h : Heap) (n : Nat) : ResC :=
  (fun (m : Nat) (r : Prop × AV × Heap) => (fun (g : List Nat) =>
    ⟨r.1 /\ (distB (ra.2.map ARef.base) && ra.2.all (fun a => plainO (subB h a)) && Heap.plain r.2.2 && rowsOK r.2.2 0 ra.2) = true, r.2.1.tr (backA ra.2 m n), trE (purN g []) e,
      newM m n r.2.2 ++ updH (purN g []) (mkUpd h r.2.2 0 ra.2) h, topH r.2.2 - m⟩) (gone r.2.2 0 ra.2)) ra.2.length (F ra.1 (subH h 0 ra.2) ra.2.length)
def callM (C : Table) (f : AV) (args : List AV) (e : Env) (h : Heap) (n : Nat) : ResC :=
  match f with
  | .fn g caps => callC (renL 0 (args ++ caps)) (C.findM g) e h n
  | _ => ⟨False, .undef, [], [], 0⟩
def zK (ra : List AV × List ARef) (F : List AV -> Heap -> Nat -> Prop × (Z -> Prop × AV × Heap)) (e : Env) (h : Heap) (n : Nat) (K : AV -> Env -> Heap -> Nat -> Prop) : Prop :=
  ((F ra.1 (subH h 0 ra.2) ra.2.length).1 /\ (distB (ra.2.map ARef.base) && ra.2.all (fun a => plainO (subB h a))) = true) /\
    ∀ z, ((F ra.1 (subH h 0 ra.2) ra.2.length).2 z).1 -> (callC ra (fun _ _ _ => (True, ((F ra.1 (subH h 0 ra.2) ra.2.length).2 z).2)) e h n).pre /\
      K (callC ra (fun _ _ _ => (True, ((F ra.1 (subH h 0 ra.2) ra.2.length).2 z).2)) e h n).val (callC ra (fun _ _ _ => (True, ((F ra.1 (subH h 0 ra.2) ra.2.length).2 z).2)) e h n).env
        (callC ra (fun _ _ _ => (True, ((F ra.1 (subH h 0 ra.2) ra.2.length).2 z).2)) e h n).heap (callC ra (fun _ _ _ => (True, ((F ra.1 (subH h 0 ra.2) ra.2.length).2 z).2)) e h n).cnt
def callZ (C : Table) (f : AV) (args : List AV) (e : Env) (h : Heap) (n : Nat) (K : AV -> Env -> Heap -> Nat -> Prop) : Prop :=
  match f with
  | .fn g caps => zK (renL 0 (args ++ caps)) (C.findZ g) e h n K
  | _ => False
def mkey : Operand -> Nat
  | .func f => f
  | .tmp t => 100000 + t
  | _ => 0
def setElem (v : AV) (i : Int) (x : AV) : Option AV :=
  match v, x with
  | .ints xs, .int .i64 n => some (.ints (xs.set i.toNat n))
  | .bools xs, .bool b => some (.bools (xs.set i.toNat b))
  | .rows xs, .ints r => some (.rows (xs.set i.toNat r))
  | .strs xs, .str s => some (.strs (xs.set i.toNat s))
  | _, _ => none
def setCells (cs : List AV) (off : Nat) (xs : List AV) : List AV := cs.take off ++ xs ++ cs.drop (off + xs.length)
def storeR (hint : Hint) (d : TD) (k : Option Blk) (p x : AV) (e : Env) (h : Heap) : ResM :=
  match p, k with
  | .bx r off, some (.box cs) => ⟨off + x.cells.length <= cs.length /\ (match d with | .one => x.cell1 = true | .agg n => (isAgg1 x = true /\ x.cells.length = n) /\ x.cells.all AV.cell1 = true | .bad => False), e, hset h r (.box (setCells cs off x.cells))⟩
  | .pa r i, some (.arr v) => match d, setElem v i x with
    | .one, some v' => ⟨True, e, hset h r (.arr v')⟩
    | _, _ => noM
  | .pm r i j, some (.mat xss) => match d, x with
    | .one, .int .i64 n => ⟨True, e, hset h r (.mat (xss.set i.toNat ((ix xss i).set j.toNat n)))⟩
    | _, _ => noM
  | .po r i, some (.mat xss) => match x with
    | .sl n => rowR hint d r i xss n (h.look n) e h
    | _ => noM
  | _, _ => noM
def purA (r : Nat) : AV -> AV
  | .sl q => bif q == r then .undef else .sl q
  | .mt q => bif q == r then .undef else .mt q
  | .mr q i => bif q == r then .undef else .mr q i
  | .bx q o => bif q == r then .undef else .bx q o
  | .pa q i => bif q == r then .undef else .pa q i
  | .pm q i j => bif q == r then .undef else .pm q i j
  | .po q i => bif q == r then .undef else .po q i
  | v => v
def purE (r : Nat) : Env -> Env
  | [] => []
  | (t, v) :: e => (t, v.tr (purA r)) :: purE r e
def purH (r : Nat) : Heap -> Heap
  | [] => []
  | (q, k) :: h => (q, k.tr (purA r)) :: purH r h
def appR (hint : Hint) (P : Program) (ts tx : TypeId) (s : AV) (k : Option Blk) (y : AV) (e : Env) (h : Heap) : ResM :=
  match s, k with
  | .sl r, some (.arr v) => match catE v y with
    | some v' => ⟨hint.n0 <= r /\ apP (ap P ts) (widthOf v) (lenOf v') /\ isSl P tx, purE r e, hset (purH r h) r (.arr v')⟩
    | none => noM
  | _, _ => noM
def appS (v : AV) (A M B : Prop) : Prop := match v with | .sl _ => A | .mt _ => M | _ => B
def isNilc : BinOp -> Operand -> Bool
  | .eql, .const (.slice none 0 0) => true
  | .neq, .const (.slice none 0 0) => true
  | .eql, .const .nilIface => true
  | .neq, .const .nilIface => true
  | _, _ => false
def isIf (P : Program) (t : TypeId) : Prop := P.underlying t = some (.interface (P.methodsAt t))
def negB : BinOp -> Bool -> Bool
  | .neq, b => !b
  | _, b => b
def nilV (v : AV) (K : Bool -> Prop) : Prop :=
  match v with
  | .ints xs => ∀ b, (b = true -> xs = []) -> K b
  | .rows xs => ∀ b, (b = true -> xs = []) -> K b
  | .strs xs => ∀ b, (b = true -> xs = []) -> K b
  | .nils => ∀ b, K b
  | _ => False
def nilE (v : AV) (K : Bool -> Prop) : Prop :=
  match v with
  | .nilI => K true
  | .errI => K false
  | _ => False
def nilS (P : Program) (t : TypeId) (v : AV) (y : Operand) (K : Bool -> Prop) : Prop :=
  match y with
  | .const .nilIface => isIf P t /\ nilE v K
  | _ => isSl P t /\ nilV v K
def opsA (P : Program) (C : Table) (hint : Hint) (all : List Oper) : List Oper -> Env -> Heap -> Nat -> (Env -> Heap -> Nat -> Prop) -> Prop
  | [], e, h, n, K => K e h n
  | o :: rest, e, h, n, K => guardA all o.guard e
      (fun e => match o.op with
        | .pick c a b => pickS (opnd e c) (opsA P C hint all rest (dset e o.dst (opnd e a)) h n K) (opsA P C hint all rest (dset e o.dst (opnd e b)) h n K)
        | .store t p x => (storeR hint (td P t) (blkOf h (opnd e p)) (opnd e p) (opnd e x) e h).pre /\
            opsA P C hint all rest (dset (storeR hint (td P t) (blkOf h (opnd e p)) (opnd e p) (opnd e x) e h).env o.dst .skipd) (storeR hint (td P t) (blkOf h (opnd e p)) (opnd e p) (opnd e x) e h).heap n K
        | .call ⟨.builtin .append, ⟨[s, y]⟩, ⟨[ts, tx]⟩⟩ => appS (opnd e s)
            ((appR hint P ts tx (opnd e s) (blkOf h (opnd e s)) (opnd e y) e h).pre /\
              opsA P C hint all rest (dset (appR hint P ts tx (opnd e s) (blkOf h (opnd e s)) (opnd e y) e h).env o.dst (opnd e s)) (appR hint P ts tx (opnd e s) (blkOf h (opnd e s)) (opnd e y) e h).heap n K)
            ((appM hint P ts tx (opnd e s) (blkOf h (opnd e s)) (opnd e y) e h).pre /\
              opsA P C hint all rest (dset (appM hint P ts tx (opnd e s) (blkOf h (opnd e s)) (opnd e y) e h).env o.dst (opnd e s)) (appM hint P ts tx (opnd e s) (blkOf h (opnd e s)) (opnd e y) e h).heap n K)
            ((evalH P C hint o e h n).pre /\ opsA P C hint all rest (dset e o.dst (evalH P C hint o e h n).val) ((evalH P C hint o e h n).new ++ h) (n + (evalH P C hint o e h n).cnt) K)
        | .call ⟨.value f, ⟨xs⟩, _⟩ => bif hint.ms (mkey f) then
            (bif hint.ms (1000000 + mkey f) then callZ C (opnd e f) (xs.map (opnd e)) e h n (fun v e' h' c => opsA P C hint all rest (dset e' o.dst v) h' (n + c) K)
              else ((callM C (opnd e f) (xs.map (opnd e)) e h n).pre /\ opsA P C hint all rest (dset (callM C (opnd e f) (xs.map (opnd e)) e h n).env o.dst (callM C (opnd e f) (xs.map (opnd e)) e h n).val) (callM C (opnd e f) (xs.map (opnd e)) e h n).heap (n + (callM C (opnd e f) (xs.map (opnd e)) e h n).cnt) K))
            else ((evalH P C hint o e h n).pre /\ opsA P C hint all rest (dset e o.dst (evalH P C hint o e h n).val) ((evalH P C hint o e h n).new ++ h) (n + (evalH P C hint o e h n).cnt) K)
        | .binOp op t x y _ => bif isNilc op y then nilS P t (opnd e x) y (fun b => opsA P C hint all rest (dset e o.dst (.bool (negB op b))) h n K)
            else ((evalH P C hint o e h n).pre /\ opsA P C hint all rest (dset e o.dst (evalH P C hint o e h n).val) ((evalH P C hint o e h n).new ++ h) (n + (evalH P C hint o e h n).cnt) K)
        | _ => (evalH P C hint o e h n).pre /\ opsA P C hint all rest (dset e o.dst (evalH P C hint o e h n).val) ((evalH P C hint o e h n).new ++ h) (n + (evalH P C hint o e h n).cnt) K)
      (fun e => opsA P C hint all rest (dset e o.dst .skipd) h n K)
structure Cx where
  W : World
  own : Nat -> Prop
  k : Nat
  S0 : Store
  n0 : Nat
  ρ0 : Rho
  hown : ∀ b, W.heap.size <= b -> own b
def RhoFix (n0 : Nat) (ρ0 ρ : Rho) (H : HF) : Prop := ∀ r, r < n0 -> H r ≠ none -> (∀ j, ρ.blk r j = ρ0.blk r j) /\ ρ.cap r = ρ0.cap r /\ ∀ i, ρ.rcap r i = ρ0.rcap r i
theorem RhoFix.look {n0 : Nat} {ρ0 ρ : Rho} {H H' : HF} (h : RhoFix n0 ρ0 ρ H) (hk : ∀ r, H' r ≠ none -> H r ≠ none) : RhoFix n0 ρ0 ρ H' := fun r h1 h2 => h r h1 (hk r h2)
theorem RhoFix.keep {n0 : Nat} {ρ0 ρ ρ' : Rho} {H H' : HF} (h : RhoFix n0 ρ0 ρ H) (hk : RhoKeep ρ ρ' H H') (hn : ∀ r, r < n0 -> H' r ≠ none -> H r ≠ none) : RhoFix n0 ρ0 ρ' H' := fun r h1 h2 => by
  obtain ⟨k, hk'⟩ := Option.ne_none_iff_exists'.1 (hn r h1 h2)
  obtain ⟨g1, g2, g3⟩ := h r h1 (hn r h1 h2)
  exact ⟨fun j => by rw [hk.blk r k j hk', g1], by rw [hk.cap r k hk', g2], fun i => by rw [hk.rcap r k i hk', g3]⟩
def Sat (x : Cx) (e : Env) (h : Heap) (n : Nat) (a : Act) (w : World) : Prop :=
  ∃ S ρ, x.S0.le S /\ (∀ b, x.S0 b = none -> S b ≠ none -> x.own b) /\ Rel x.own S ρ h.look w /\ RhoFix x.n0 x.ρ0 ρ h.look /\ EnvRel S ρ h.look e a /\ Kept x.own x.W w /\ a.tmps.size = x.k /\ a.defers = [] /\ (∀ r, h.look r ≠ none -> r < n) /\ x.n0 <= n
theorem EnvRel.put {S : Store} {ρ : Rho} {H : HF} {e : Env} {a : Act} (h : EnvRel S ρ H e a) {d : Option Tmp} {v : AV} {cv : Value} (hv : V S ρ H v cv) (hd : ∀ t, d = some t -> t < a.tmps.size) :
    EnvRel S ρ H (dset e d v) (a.put d cv) := by
  cases d with
  | none => exact h
  | some d =>
    intro t
    simp only [dset, Act.put, Env.get]
    have hd' := hd d rfl
    by_cases ht : d = t
    · subst ht
      rw [if_pos rfl]
      simpa [hd'] using hv
    · rw [if_neg ht]
      have := h t
      rw [Array.getD_eq_getD_getElem?] at this ⊢
      rwa [Array.getElem?_setIfInBounds_ne ht]
theorem EnvRel.refine {S : Store} {ρ : Rho} {H : HF} {e : Env} {a : Act} (h : EnvRel S ρ H e a) {d : Tmp} {v : AV} (hv : V S ρ H v (a.tmps.getD d Go.undef)) : EnvRel S ρ H ((d, v) :: e) a := by
  intro t
  simp only [Env.get]
  by_cases ht : d = t
  · subst ht; rw [if_pos rfl]; exact hv
  · rw [if_neg ht]; exact h t
theorem EnvRel.ext {S S' : Store} {ρ ρ' : Rho} {H H' : HF} {e : Env} {a : Act} (hS : S.le S') (hk : RhoKeep ρ ρ' H H') (h : EnvRel S ρ H e a) : EnvRel S' ρ' H' e a := fun t => (h t).ext hS hk
theorem put_size (a : Act) (d : Option Tmp) (v : Value) : (a.put d v).tmps.size = a.tmps.size := by cases d <;> simp [Act.put]
theorem put_defers (a : Act) (d : Option Tmp) (v : Value) : (a.put d v).defers = a.defers := by cases d <;> rfl
theorem Sat.refine {x : Cx} {e : Env} {h : Heap} {n : Nat} {a : Act} {w : World} {d : Tmp} {v : AV} (hs : Sat x e h n a w) (hv : ∀ S ρ, V S ρ h.look v (a.tmps.getD d Go.undef)) : Sat x ((d, v) :: e) h n a w := by
  obtain ⟨S, ρ, h1, h2, h3, hf, h4, h5⟩ := hs
  exact ⟨S, ρ, h1, h2, h3, hf, h4.refine (hv S ρ), h5⟩
theorem Sat.put {x : Cx} {e : Env} {h : Heap} {n : Nat} {a : Act} {w : World} {d : Option Tmp} {v : AV} {cv : Value} (hs : Sat x e h n a w) (hd : ∀ t, d = some t -> t < x.k)
    (hv : ∀ S ρ, EnvRel S ρ h.look e a -> V S ρ h.look v cv) : Sat x (dset e d v) h n (a.put d cv) w := by
  obtain ⟨S, ρ, h1, h2, h3, hf, h4, h5, h6, h7, h8⟩ := hs
  exact ⟨S, ρ, h1, h2, h3, hf, h4.put (hv S ρ h4) (fun t ht => by rw [h6]; exact hd t ht), h5, by rw [put_size]; exact h6, by rw [put_defers]; exact h7, h8⟩
theorem addH_look (new h : Heap) : addH new h.look = (new ++ h).look := by
  funext r
  induction new with
  | nil => rfl
  | cons x new ih =>
    obtain ⟨k, v⟩ := x
    by_cases hk : k = r
    · subst hk; simp [addH, Heap.look]
    · have : addH ((k, v) :: new) h.look r = addH new h.look r := by simp [addH, Heap.look, hk]
      rw [this, ih]; simp [Heap.look, hk]
theorem guard_ok {x : Cx} {all : List Oper} {o : Oper} {e : Env} {h : Heap} {n : Nat} {a : Act} {w : World} {yes no : Env -> Prop} (hg : guardA all o.guard e yes no) (hs : Sat x e h n a w) :
    ∃ e', Sat x e' h n a w /\
      ((Region.wanted o (yielded all.toArray a.tmps) = true /\ yes e') \/ (Region.wanted o (yielded all.toArray a.tmps) = false /\ no e')) := by
  unfold guardA at hg
  cases hgd : o.guard with
  | none => rw [hgd] at hg; exact ⟨e, hs, .inl ⟨by simp [Region.wanted, hgd], hg⟩⟩
  | some jw =>
    obtain ⟨j, want⟩ := jw
    rw [hgd] at hg
    have hy : yielded all.toArray a.tmps j = ((gdst all j).bind fun d => match a.tmps[d]? with | some (.bool b) => some b | _ => none) := by
      unfold yielded
      rw [gdst_eq]
      simp only [List.getElem?_toArray]
      cases (all[j]?).bind (·.dst) <;> rfl
    have hw : Region.wanted o (yielded all.toArray a.tmps) = (yielded all.toArray a.tmps j == some want) := by simp [Region.wanted, hgd]
    rw [hw, hy]
    have hg : guardD want (gdst all j) e yes no := hg
    unfold guardD at hg
    cases hd : gdst all j with
    | none => rw [hd] at hg; exact ⟨e, hs, .inr ⟨by simp, hg⟩⟩
    | some d =>
      rw [hd] at hg
      have hs' := hs
      obtain ⟨S, ρ, _, _, _, _, hE, _⟩ := hs'
      have hV := hE d
      have cell : ∀ b, a.tmps.getD d Go.undef = .bool b -> a.tmps[d]? = some (.bool b) := fun b hb => by
        rw [Array.getD_eq_getD_getElem?] at hb
        cases hc : a.tmps[d]? with
        | none => rw [hc] at hb; simp [Go.undef] at hb
        | some v => rw [hc] at hb; simp at hb; rw [hb]
      simp only [guardS] at hg
      split at hg
      · rename_i b hb
        rw [hb] at hV
        have hc := hV.bool_inv
        simp only [Option.bind_some, cell _ hc]
        cases b with
        | true =>
          refine ⟨(d, .tt) :: e, hs.refine (fun S ρ => by rw [hc]; exact .pure _ _ .tt), ?_⟩
          have := hg.1 rfl
          cases want with
          | false => exact .inr ⟨rfl, this⟩
          | true => exact .inl ⟨rfl, this⟩
        | false =>
          refine ⟨(d, .ff) :: e, hs.refine (fun S ρ => by rw [hc]; exact .pure _ _ .ff), ?_⟩
          have := hg.2 rfl
          cases want with
          | false => exact .inl ⟨rfl, this⟩
          | true => exact .inr ⟨rfl, this⟩
      · rename_i hb
        rw [hb] at hV
        simp only [Option.bind_some, cell _ hV.tt_inv]
        refine ⟨e, hs, ?_⟩
        cases want with
        | false => exact .inr ⟨rfl, hg⟩
        | true => exact .inl ⟨rfl, hg⟩
      · rename_i hb
        rw [hb] at hV
        simp only [Option.bind_some, cell _ hV.ff_inv]
        refine ⟨e, hs, ?_⟩
        cases want with
        | false => exact .inl ⟨rfl, hg⟩
        | true => exact .inr ⟨rfl, hg⟩
      · rename_i hb
        rw [hb] at hV
        have hc := hV.skipd_inv
        refine ⟨e, hs, .inr ⟨?_, hg⟩⟩
        simp only [Option.bind_some]
        cases hc' : a.tmps[d]? with
        | none => rfl
        | some v =>
          rw [Array.getD_eq_getD_getElem?, hc'] at hc
          simp [Go.undef] at hc
          rw [hc]; rfl
      · exact hg.elim
end Go.Vc
namespace Go.Vc
open Go.RowKit
section
variable {S : Store} {ρ : Rho} {H H' : HF} {w : World} {own : Nat -> Prop}
theorem V.shape {r : Nat} {k k' : Blk} (hk : H r = some k) (hk' : H' r = some k') (ho : ∀ q, q ≠ r -> H' q = H q) (hs : SameShape k k') {v : AV} {cv : Value} (h : V S ρ H v cv) : V S ρ H' v cv := by
  refine h.keep (fun _ _ h => h) (fun a cv hra hv => ?_)
  cases hv with
  | pure _ _ h => exact .pure _ _ h
  | vec => cases hra
  | agg => cases hra
  | tup => cases hra
  | fn => cases hra
  | sl q v xs m a hr he ha =>
    by_cases e : q = r
    · subst e; rw [hk] at hr; cases hr
      cases hs with
      | arr _ v' xs1 xs2 m' h1 h2 hl =>
        rw [he] at h1; simp only [Option.some.injEq, Prod.mk.injEq] at h1; obtain ⟨rfl, rfl⟩ := h1
        rw [hl]; exact .sl q v' xs2 m a hk' h2 ha
    · exact .sl q v xs m a (by rw [ho q e]; exact hr) he ha
  | mt q xss a hr ha =>
    by_cases e : q = r
    · subst e; rw [hk] at hr; cases hr
      cases hs with
      | mat _ b hl h => rw [hl]; exact .mt q b a hk' ha
    · exact .mt q xss a (by rw [ho q e]; exact hr) ha
  | mr q i xss row cv hr h0 hi h =>
    by_cases e : q = r
    · subst e; rw [hk] at hr; cases hr
      cases hs with
      | mat _ b hl hh =>
        have hlt : i.toNat < b.length := by rw [<- hl]; exact (List.getElem?_eq_some_iff.1 hi).1
        have hb : b[i.toNat]? = some b[i.toNat] := by simp [hlt]
        have hlen := hh _ _ _ hi hb
        obtain ⟨a, hc0, h1, h2⟩ := h
        exact .mr q i b b[i.toNat] cv hk' h0 hb ⟨a, by rw [<- hlen]; exact hc0, by rw [<- hlen]; exact h1, h2⟩
    · exact .mr q i xss row cv (by rw [ho q e]; exact hr) h0 hi h
  | bx q off cs hr ho' =>
    by_cases e : q = r
    · subst e; rw [hk] at hr; cases hr
      cases hs with
      | box _ cs' hl => exact .bx q off cs' hk' (by rw [<- hl]; exact ho')
    · exact .bx q off cs (by rw [ho q e]; exact hr) ho'
  | pa q i v xs m hr he h0 hi =>
    by_cases e : q = r
    · subst e; rw [hk] at hr; cases hr
      cases hs with
      | arr _ v' xs1 xs2 m' h1 h2 hl =>
        rw [he] at h1; simp only [Option.some.injEq, Prod.mk.injEq] at h1; obtain ⟨rfl, rfl⟩ := h1
        exact .pa q i v' xs2 m hk' h2 h0 (by rw [<- hl]; exact hi)
    · exact .pa q i v xs m (by rw [ho q e]; exact hr) he h0 hi
  | pm q i j xss row hr h0 hi hj0 hj =>
    by_cases e : q = r
    · subst e; rw [hk] at hr; cases hr
      cases hs with
      | mat _ b hl hh =>
        have hlt : i.toNat < b.length := by rw [<- hl]; exact (List.getElem?_eq_some_iff.1 hi).1
        have hb : b[i.toNat]? = some b[i.toNat] := by simp [hlt]
        exact .pm q i j b _ hk' h0 hb hj0 (by rw [<- hh _ _ _ hi hb]; exact hj)
    · exact .pm q i j xss row (by rw [ho q e]; exact hr) h0 hi hj0 hj
  | po q i xss hr h0 hi =>
    by_cases e : q = r
    · subst e; rw [hk] at hr; cases hr
      cases hs with
      | mat _ b hl h => exact .po q i b hk' h0 (by rw [<- hl]; exact hi)
    · exact .po q i xss (by rw [ho q e]; exact hr) h0 hi
theorem foot_shape {r j : Nat} {k k' : Blk} (hk : H r = some k) (hk' : H' r = some k') (ho : ∀ q, q ≠ r -> H' q = H q) (hs : SameShape k k') {q : Nat} (hf : foot ρ H' q j) : foot ρ H q j := by
  by_cases e : q = r
  · subst e
    unfold foot at *
    rw [hk'] at hf; rw [hk]
    cases hs with
    | box => exact hf
    | arr => exact hf
    | mat a b hl h =>
      rcases hf with hf | ⟨i, row, rfl, hi, hne⟩
      · exact .inl hf
      · have hlt : i < a.length := by rw [hl]; exact (List.getElem?_eq_some_iff.1 hi).1
        have ha : a[i]? = some a[i] := by simp [hlt]
        exact .inr ⟨i, a[i], rfl, ha, hne⟩
  · exact foot_congr (ho q e) rfl (fun _ => rfl) hf
theorem Rel.write (hrel : Rel own S ρ H w) {r j : Nat} {k k' : Blk} (hk : H r = some k) (hf : foot ρ H r j) (hk' : H' r = some k') (ho : ∀ q, q ≠ r -> H' q = H q) (hs : SameShape k k')
    (c1 : Array Value) (hb : BlkRel S ρ H' (w.setRow (ρ.blk r j) c1) r k') : Rel own S ρ H' (w.setRow (ρ.blk r j) c1) := by
  have hown := hrel.owned r j hf
  have other : ∀ b, b ≠ ρ.blk r j -> (w.setRow (ρ.blk r j) c1).heap[b]? = w.heap[b]? := fun b hb => setRow_other w _ _ _ hb
  have keepC : ∀ q i c, q ≠ r -> foot ρ H q i -> OwnCells w (ρ.blk q i) c -> OwnCells (w.setRow (ρ.blk r j) c1) (ρ.blk q i) c := fun q i c hq hfq ⟨el, he⟩ =>
    ⟨el, by rw [other _ (fun e => hq (hrel.sep q i r j hfq hf e).1)]; exact he⟩
  refine ⟨fun b c hS => ?_, hrel.amb, fun q kq hq => ?_, fun q i hfq => ?_, fun q i q' i' h1 h2 e => ?_⟩
  · obtain ⟨el, fr, he⟩ := hrel.stab b c hS
    refine ⟨el, fr, ?_⟩
    rw [other b (fun e => by subst e; rw [hown.2] at hS; cases hS)]; exact he
  · by_cases e : q = r
    · subst e; rw [hk'] at hq; cases hq; exact hb
    · rw [ho q e] at hq
      have hbq := hrel.blk q kq hq
      have sh : ∀ v cv, V S ρ H v cv -> V S ρ H' v cv := fun v cv h => h.shape hk hk' ho hs
      cases kq with
      | box cs => obtain ⟨c, h1, h2, h3⟩ := hbq; exact ⟨c, keepC q 0 c e (foot_box hq) h1, h2, fun i x v hx hv => sh _ _ (h3 i x v hx hv)⟩
      | arr v => obtain ⟨xs, m, c, h1, h2, h3⟩ := hbq; exact ⟨xs, m, c, h1, fun h0 => keepC q 0 c e (foot_arr hq h0) (h2 h0), h3⟩
      | mat xss =>
        obtain ⟨c, h1, h2, h3, h4⟩ := hbq
        refine ⟨c, fun h0 => keepC q 0 c e (foot_mat hq h0) (h1 h0), h2, h3, fun i row hi => ⟨(h4 i row hi).1, fun hne => ?_⟩⟩
        obtain ⟨d, hd, hr⟩ := (h4 i row hi).2 hne
        exact ⟨d, keepC q (i + 1) d e (foot_row hq hi hne) hd, hr⟩
  · exact hrel.owned q i (foot_shape hk hk' ho hs hfq)
  · exact hrel.sep q i q' i' (foot_shape hk hk' ho hs h1) (foot_shape hk hk' ho hs h2) e
theorem Kept.write {W : World} (hk : Kept own W w) {b : Nat} (hb : own b) (c : Array Value) : Kept own W (w.setRow b c) :=
  ⟨by rw [setRow_os]; exact hk.os, by rw [setRow_tape]; exact hk.tape, by rw [setRow_output]; exact hk.output, by rw [setRow_size]; exact hk.size,
    fun q hq hno => by rw [setRow_other w b q c (fun e => hno (by subst e; exact hb))]; exact hk.block q hq hno, by rw [setRow_drawn]; exact hk.drawn⟩
theorem store_cells {x : AV} {cv : Value} (h : V S ρ H x cv) (hc : x.cell1 = true \/ isAgg1 x = true /\ x.cells.all AV.cell1 = true) :
    cv.cells.size = x.cells.length /\ (∀ v ∈ cv.cells.toList, v.oneCell' = true) /\ ∀ (j : Nat) y v, x.cells[j]? = some y -> cv.cells[j]? = some v -> V S ρ H y v := by
  rcases hc with h1 | ⟨h1, h2⟩
  · have e : x.cells = [x] := by cases x <;> first | rfl | simp [AV.cell1] at h1
    obtain ⟨o1, o2⟩ := h.oneCell h1
    rw [e, o2]
    refine ⟨rfl, by simp [o1], fun j y v hy hv => ?_⟩
    cases j with
    | zero => simp at hy hv; subst hy; subst hv; exact h
    | succ j => simp at hy
  · cases x <;> simp [isAgg1] at h1
    rename_i cs
    obtain ⟨vs, rfl, hl, hcs⟩ := h.agg_inv
    refine ⟨hl, fun v hv => ?_, hcs⟩
    obtain ⟨j, hj, rfl⟩ := List.mem_iff_getElem.1 hv
    have hj' : j < vs.size := by simpa [Value.cells] using hj
    have hj2 : j < cs.length := by omega
    exact ((hcs j cs[j] vs[j] (by simp [hj2]) (by simp [hj'])).oneCell (List.all_eq_true.1 h2 _ (List.getElem_mem hj2))).1
theorem getElem?_splice {α : Type} (l vs : List α) (o j : Nat) (h : o + vs.length <= l.length) :
    (l.take o ++ vs ++ l.drop (o + vs.length))[j]? = if o <= j /\ j < o + vs.length then vs[j - o]? else l[j]? := by
  by_cases h1 : j < o
  · rw [if_neg (by omega), List.append_assoc, List.getElem?_append_left (by simp; omega), List.getElem?_take, if_pos h1]
  · by_cases h2 : j < o + vs.length
    · rw [if_pos ⟨by omega, h2⟩, List.append_assoc, List.getElem?_append_right (by simp; omega), List.getElem?_append_left (by simp; omega)]
      simp [Nat.min_eq_left (show o <= l.length by omega)]
    · rw [if_neg (by omega), List.getElem?_append_right (by simp; omega), List.getElem?_drop]
      congr 1
      simp; omega
variable {P : Program}
theorem run_storeAt {t : TypeId} {b o : Nat} {c : Array Value} {cv : Value} (hc : OwnCells w b c) (ht : (td P t = .one /\ (P.info? t).map (·.size) = some cv.cells.size) \/ td P t = .agg cv.cells.size)
    (ho : o + cv.cells.size <= c.size) (h1 : ∀ v ∈ cv.cells.toList, v.oneCell' = true) :
    (Instr.storeAt t (.pointer (some ⟨b, o, none⟩)) cv).run P w = .ok () (w.setRow b (c.toList.take o ++ cv.cells.toList ++ c.toList.drop (o + cv.cells.toList.length)).toArray) := by
  obtain ⟨el, hg⟩ := hc
  have hs : (sizeOf t).run P w = .ok cv.cells.size w := by
    rcases ht with ⟨h, hi⟩ | h
    · obtain ⟨i, hi1, hi2⟩ := Option.map_eq_some_iff.1 hi
      simp [sizeOf, typeInfo, hi1, hi2]
    · exact (run_isAgg_agg h).2
  have := run_storeCells_at (P := P) b o el cv.cells.toList 0 c w hg (by simpa using ho) h1
  simp only [Instr.storeAt, Instr.sureAddr, storeVar, Sem.run_bind, Sem.run_pure, Result.andThen_ok, hs, ne_eq, not_true_eq_false, if_false]
  simpa using this
end
end Go.Vc
namespace Go.Vc
open Go.RowKit
theorem setCells_len (cs : List AV) (off : Nat) (xs : List AV) (h : off + xs.length <= cs.length) : (setCells cs off xs).length = cs.length := by
  simp [setCells]; omega
theorem splice_one {α : Type} (l : List α) (v : α) (o q : Nat) (h : o < l.length) : (l.take o ++ [v] ++ l.drop (o + 1))[q]? = if q = o then some v else l[q]? := by
  have := getElem?_splice l [v] o q (by simp; omega)
  simp only [List.length_singleton] at this
  rw [this]
  by_cases hq : q = o
  · subst hq; simp
  · simp only [hq, if_false]; rw [if_neg (by omega)]
section
variable {P : Program} {hint : Hint}
theorem hset_self {h : Heap} {r : Nat} {k k' : Blk} (hk : h.look r = some k) : (hset h r k').look r = some k' := by rw [hset_look, if_pos rfl, hk]
theorem hset_other {h : Heap} {r q : Nat} {k' : Blk} (hq : q ≠ r) : (hset h r k').look q = h.look q := by rw [hset_look, if_neg hq]
theorem store_ok {x : Cx} {e : Env} {h : Heap} {n : Nat} {a : Act} {w : World} {t : TypeId} {p v : Operand} {o : Oper} (ho : o.op = .store t p v) (hs : Sat x e h n a w)
    (hp : (storeR hint (td P t) (blkOf h (opnd e p)) (opnd e p) (opnd e v) e h).pre) (hd : ∀ t, o.dst = some t -> t < x.k)
    (hpo : ∀ r i, opnd e p ≠ .po r i)
    {next : Act -> World -> Prop} {Q : Exit -> Act -> World -> Prop}
    (hK : ∀ a' w', Sat x (dset (storeR hint (td P t) (blkOf h (opnd e p)) (opnd e p) (opnd e v) e h).env o.dst .skipd) (storeR hint (td P t) (blkOf h (opnd e p)) (opnd e p) (opnd e v) e h).heap n a' w' -> next a' w') : o.wp P a w next Q := by
  obtain ⟨S, ρ, s1, s2, hrel, hfx, hE, hkept, hk, hdf, hn, hn0⟩ := hs
  have hvp := hE.opnd p
  have hvv := hE.opnd v
  -- what is left, once the store has run and the relation holds again
  have fin : ∀ (h' : Heap) (w' : World), (Instr.storeAt t (a.eval p) (a.eval v)).run P w = .ok () w' -> Rel x.own S ρ h'.look w' -> (∀ v cv, V S ρ h.look v cv -> V S ρ h'.look v cv) -> Kept x.own x.W w' -> ((∀ r, h'.look r ≠ none -> r < n) /\ ∀ r, h'.look r ≠ none -> h.look r ≠ none) ->
      (∀ a' w', Sat x (dset e o.dst .skipd) h' n a' w' -> next a' w') -> o.wp P a w next Q := by
    intro h' w' hr hrel' hV hkept' hn' hK
    unfold Oper.wp
    have : (execOp a.eval o).run P w = .ok .skip w' := by simp [execOp, ho, hr]
    rw [this]
    refine hK _ _ ⟨S, ρ, s1, s2, hrel', hfx.look hn'.2, EnvRel.put (fun t => hV _ _ (hE t)) (.pure _ _ .skipd) (fun t ht => by rw [hk]; exact hd t ht), hkept', by rw [put_size]; exact hk, by rw [put_defers]; exact hdf, hn'.1, hn0⟩
  have hn1 : ∀ r k', ∀ q, (hset h r k').look q ≠ none -> h.look q ≠ none := fun r k' q hq e => by
    refine hq ?_
    rw [hset_look]; split
    · rename_i e'; subst e'; rw [e]
    · exact e
  have hn' : ∀ r k', (∀ q, (hset h r k').look q ≠ none -> q < n) /\ ∀ q, (hset h r k').look q ≠ none -> h.look q ≠ none := fun r k' => ⟨fun q hq => hn q (hn1 r k' q hq), hn1 r k'⟩
  generalize hpa : opnd e p = pa at *
  generalize hva : opnd e v = va at *
  unfold storeR at hp hK
  split at hp
  · -- a variable
    rename_i r off cs hkb
    have hkb' : h.look r = some (.box cs) := hkb
    rw [hkb] at hK
    simp only at hK
    obtain ⟨cs', hev, hr, hoff⟩ := hvp.bx_inv
    rw [hkb'] at hr; cases hr
    obtain ⟨c, hc, hsz, hcell⟩ := hrel.blk r _ hkb'
    obtain ⟨hlen, htd⟩ := hp
    have hcl : va.cell1 = true \/ isAgg1 va = true /\ va.cells.all AV.cell1 = true := by
      split at htd
      · exact .inl htd
      · exact .inr ⟨htd.1.1, htd.2⟩
      · exact htd.elim
    obtain ⟨hsz2, hone, hcv⟩ := store_cells hvv hcl
    have htt : (td P t = .one /\ (P.info? t).map (·.size) = some (a.eval v).cells.size) \/ td P t = .agg (a.eval v).cells.size := by
      split at htd
      · rename_i hdt
        have e1 : va.cells = [va] := by cases va <;> first | rfl | simp [AV.cell1] at htd
        refine .inl ⟨hdt, ?_⟩
        rw [(run_isAgg_one (w := w) hdt).2, hsz2, e1]; rfl
      · rename_i m hdt
        right; rw [hdt, hsz2, htd.1.2]
      · exact htd.elim
    have hrun := run_storeAt (P := P) (o := off) hc htt (by omega) hone
    have hshape : SameShape (.box cs) (.box (setCells cs off va.cells)) := .box _ _ (setCells_len _ _ _ hlen).symm
    have hlk := hset_self (k' := .box (setCells cs off va.cells)) hkb'
    refine fin _ _ (by rw [hev]; exact hrun) (hrel.write hkb' (foot_box hkb') hlk (fun q hq => hset_other hq) hshape _ ?_) (fun v cv hv => hv.shape hkb' hlk (fun q hq => hset_other hq) hshape)
      (hkept.write (hrel.owned r 0 (foot_box hkb')).1 _) (hn' _ _) hK
    obtain ⟨el, hg⟩ := hc
    refine ⟨_, ⟨el, setRow_heap w _ _ _ _ _ hg⟩, ?_, fun j y u hy hu => ?_⟩
    · rw [setCells_len _ _ _ hlen, <- hsz]; simp; omega
    · refine V.shape hkb' hlk (fun q hq => hset_other hq) hshape ?_
      have hu' : (c.toList.take off ++ (a.eval v).cells.toList ++ c.toList.drop (off + (a.eval v).cells.toList.length))[j]? = some u := by simpa using hu
      rw [getElem?_splice _ _ _ _ (by simp; omega)] at hu'
      unfold setCells at hy
      rw [getElem?_splice _ _ _ _ hlen] at hy
      have eL : (a.eval v).cells.toList.length = va.cells.length := by simpa using hsz2
      rw [eL] at hu'
      split at hy
      · rename_i hj; rw [if_pos hj] at hu'; exact hcv _ _ _ hy (by simpa using hu')
      · rename_i hj; rw [if_neg hj] at hu'; exact hcell _ _ _ hy (by simpa using hu')
  · -- an element
    rename_i r i va' hkb
    have hkb' : h.look r = some (.arr va') := hkb
    rw [hkb] at hK
    simp only at hK
    obtain ⟨v', xs, m, hev, hr, he, h0, hi⟩ := hvp.pa_inv
    rw [hkb'] at hr; cases hr
    obtain ⟨xs1, m1, c, he1, hc, hsz, hcap, hm, hcell⟩ := hrel.blk r _ hkb'
    rw [he] at he1; simp only [Option.some.injEq, Prod.mk.injEq] at he1; obtain ⟨rfl, rfl⟩ := he1
    split at hp <;> first | exact hp.elim | skip
    rename_i v2 hdt hse
    have hcap0 : ρ.cap r ≠ 0 := by omega
    -- what setElem makes
    have hset : v2.elems = some (xs.set i.toNat va, m) /\ m = 1 /\ va.cell1 = true /\ va.pureB = true /\ va.cells = [va] := by
      unfold setElem at hse
      split at hse <;> first | cases hse | skip
      all_goals
        simp only [AV.elems, Option.some.injEq, Prod.mk.injEq] at he
        obtain ⟨rfl, rfl⟩ := he
        simp [AV.elems, AV.cell1, AV.pureB, AV.pure1, AV.cells]
    obtain ⟨he2, rfl, hc1, hpure, hcells⟩ := hset
    obtain ⟨hsz2, hone, hcv⟩ := store_cells hvv (.inl hc1)
    rw [hcells] at hsz2 hcv
    have hcells' : (a.eval v).cells = #[a.eval v] := (hvv.oneCell hc1).2
    have hrun := run_storeAt (P := P) (hc hcap0) (t := t) (o := i.toNat * 1) (cv := a.eval v) (.inl ⟨hdt, by rw [(run_isAgg_one (w := w) hdt).2, hsz2]; rfl⟩) (by rw [hsz2]; simp; omega) hone
    have hshape : SameShape (.arr va') (.arr v2) := .arr _ _ xs _ 1 he he2 (by simp)
    have hlk := hset_self (k' := .arr v2) hkb'
    have hK' : ∀ a' w', Sat x (dset e o.dst .skipd) (hset h r (.arr v2)) n a' w' -> next a' w' := by
      intro a' w' hh; refine hK a' w' ?_
      rw [hdt, hse]; exact hh
    refine fin _ _ (by rw [hev]; exact hrun) (hrel.write hkb' (foot_arr hkb' hcap0) hlk (fun q hq => hset_other hq) hshape _ ?_) (fun v cv hv => hv.shape hkb' hlk (fun q hq => hset_other hq) hshape)
      (hkept.write (hrel.owned r 0 (foot_arr hkb' hcap0)).1 _) (hn' _ _) hK'
    obtain ⟨el, hg⟩ := hc hcap0
    refine ⟨xs.set i.toNat va, 1, _, he2, fun _ => ⟨el, setRow_heap w _ _ _ _ _ hg⟩, by simp [hcells']; omega, by simpa using hcap, fun y hy => ?_, fun i' y j z hy hz => ?_⟩
    · rcases List.mem_or_eq_of_mem_set hy with h | h
      · exact hm y h
      · subst h; rw [hcells]; rfl
    · have hg2 : ∀ q, (c.toList.take (i.toNat * 1) ++ (a.eval v).cells.toList ++ c.toList.drop (i.toNat * 1 + (a.eval v).cells.toList.length)).toArray[q]? = if q = i.toNat then some (a.eval v) else c[q]? := fun q => by
        rw [List.getElem?_toArray, getElem?_splice _ _ _ _ (by rw [hcells']; simp; omega), hcells']
        simp only [Nat.mul_one, List.length_singleton]
        by_cases hq : q = i.toNat
        · subst hq; simp
        · rw [if_neg (by omega), if_neg hq]; simp
      rw [List.getElem?_set] at hy
      split at hy
      · rename_i hii; subst hii
        (try rw [if_pos hi] at hy); cases hy
        rw [hcells] at hz
        cases j with
        | zero =>
          simp at hz; subst hz
          exact ⟨a.eval v, by rw [hg2]; simp, hvv.sees hpure⟩
        | succ j => simp at hz
      · rename_i hii
        obtain ⟨u, hu, hsu⟩ := hcell i' y j z hy hz
        have hj0 : j = 0 := by
          have h1 := hm y (List.mem_of_getElem? hy)
          have h2 := (List.getElem?_eq_some_iff.1 hz).1
          omega
        subst hj0
        refine ⟨u, ?_, hsu⟩
        rw [hg2, if_neg (by simp; omega)]; exact hu
  · -- a cell of a matrix
    rename_i r i j xss hkb
    have hkb' : h.look r = some (.mat xss) := hkb
    rw [hkb] at hK
    simp only at hK
    obtain ⟨xss', row, hev, hr, h0, hi, hj0, hj⟩ := hvp.pm_inv
    rw [hkb'] at hr; cases hr
    have hir : ix xss i = row := by have := ix_get (List.getElem?_eq_some_iff.1 hi).1; rw [hi] at this; exact (Option.some.inj this).symm
    have hilt := (List.getElem?_eq_some_iff.1 hi).1
    obtain ⟨c, hc, hsz, hcap, hrows⟩ := hrel.blk r _ hkb'
    split at hp <;> first | exact hp.elim | skip
    rename_i m hdt
    have hne : ρ.rcap r i.toNat ≠ 0 := (let ⟨⟨_, _, hra⟩, _⟩ := hrows _ _ hi; hra.rcap_ne hj)
    obtain ⟨d, hd, hdl, hdn⟩ := (hrows _ _ hi).2 hne
    have hcv := hvv.int_inv
    have hrun := run_storeAt (P := P) hd (t := t) (o := j.toNat) (cv := a.eval v) (.inl ⟨hdt, by rw [(run_isAgg_one (w := w) hdt).2, hcv]; rfl⟩) (by rw [hcv]; simp [Value.cells]; have hlc : row.length <= ρ.rcap r i.toNat := (let ⟨⟨_, _, _, hra, _⟩, _⟩ := hrows _ _ hi; hra); omega) (by rw [hcv]; simp [Value.cells, Value.oneCell'])
    have hshape : SameShape (.mat xss) (.mat (xss.set i.toNat ((ix xss i).set j.toNat m))) := by
      refine .mat _ _ (by simp) (fun q y z hy hz => ?_)
      rw [List.getElem?_set] at hz
      split at hz
      · rename_i e; subst e; (try rw [if_pos hilt] at hz); cases hz
        rw [hi] at hy; cases hy; rw [hir]; simp
      · rw [hy] at hz; cases hz; rfl
    have hlk := hset_self (k' := .mat (xss.set i.toNat ((ix xss i).set j.toNat m))) hkb'
    have hf := foot_row (ρ := ρ) hkb' hi hne
    have hK' : ∀ a' w', Sat x (dset e o.dst .skipd) (hset h r (.mat (xss.set i.toNat ((ix xss i).set j.toNat m)))) n a' w' -> next a' w' := by
      intro a' w' hh; refine hK a' w' ?_
      rw [hdt]; exact hh
    refine fin _ _ (by rw [hev]; exact hrun) (hrel.write hkb' hf hlk (fun q hq => hset_other hq) hshape _ ?_) (fun v cv hv => hv.shape hkb' hlk (fun q hq => hset_other hq) hshape)
      (hkept.write (hrel.owned r _ hf).1 _) (hn' _ _) hK'
    obtain ⟨el, hg⟩ := hd
    have hneq : ρ.cap r ≠ 0 -> ρ.blk r 0 ≠ ρ.blk r (i.toNat + 1) := fun hc0 e => by
      have := (hrel.sep r 0 r (i.toNat + 1) (foot_mat hkb' hc0) hf e).2; omega
    refine ⟨c, fun h0' => ?_, hsz, by simpa using hcap, fun q rw' hq => ⟨?_, fun hne' => ?_⟩⟩
    · obtain ⟨el0, hg0⟩ := hc h0'
      exact ⟨el0, by rw [setRow_other _ _ _ _ (hneq h0')]; exact hg0⟩
    · rw [List.getElem?_set] at hq
      split at hq
      · rename_i e; subst e; (try rw [if_pos hilt] at hq); cases hq
        obtain ⟨u, hu, a', hc', rfl, ha'⟩ := (hrows _ _ hi).1
        exact ⟨_, hu, a', by rw [hir]; simpa using hc', by rw [hir]; simp, ha'⟩
      · exact (hrows _ _ hq).1
    · rw [List.getElem?_set] at hq
      split at hq
      · rename_i e; subst e; (try rw [if_pos hilt] at hq); cases hq
        refine ⟨_, ⟨el, setRow_heap w _ _ _ _ _ hg⟩, by rw [hcv]; simp [Value.cells]; have hlc : row.length <= ρ.rcap r i.toNat := (let ⟨⟨_, _, _, hra, _⟩, _⟩ := hrows _ _ hi; hra); omega, fun q n' hq => ?_⟩
        rw [hir, List.getElem?_set] at hq
        have e2 : (a.eval v).cells.toList = [Value.int .i64 m] := by rw [hcv]; rfl
        rw [List.getElem?_toArray, e2]
        rw [show d.toList.take j.toNat ++ [Value.int .i64 m] ++ d.toList.drop (j.toNat + [Value.int .i64 m].length) = d.toList.take j.toNat ++ [Value.int .i64 m] ++ d.toList.drop (j.toNat + 1) from rfl, splice_one _ _ _ _ (by have hlc : row.length <= ρ.rcap r i.toNat := (let ⟨⟨_, _, _, hra, _⟩, _⟩ := hrows _ _ hi; hra); simp; omega)]
        split at hq
        · rename_i e; subst e; (try rw [if_pos hj] at hq); cases hq; simp
        · rename_i e; rw [if_neg (fun h => e h.symm)]; simpa using hdn _ _ hq
      · rename_i e
        obtain ⟨d', ⟨el', hd'⟩, h2⟩ := (hrows _ _ hq).2 hne'
        refine ⟨d', ⟨el', ?_⟩, h2⟩
        rw [setRow_other _ _ _ _ (fun e' => ?_)]; exact hd'
        have := (hrel.sep r (q + 1) r (i.toNat + 1) (foot_row hkb' hq hne') hf e').2
        omega
  · exact (hpo _ _ rfl).elim
  · exact hp.elim
end
end Go.Vc
namespace Go.Vc
open Go.RowKit
section
variable {P : Program} {S : Store} {ρ : Rho} {H : HF} {w : World} {own : Nat -> Prop}
theorem purA_ref {r : Nat} {a : AV} {cv : Value} {ρ' : Rho} {H' : HF} {S' : Store} (hS : S.le S') (hH : ∀ q k, q ≠ r -> H q = some k -> H' q = some (k.tr (purA r))) (hb : ∀ q j, q ≠ r -> ρ'.blk q j = ρ.blk q j) (hc : ∀ q, q ≠ r -> ρ'.cap q = ρ.cap q) (hrc : ∀ q i, q ≠ r -> ρ'.rcap q i = ρ.rcap q i)
    (hra : a.isRef = true) (h : V S ρ H a cv) : V S' ρ' H' (purA r a) cv := by
  have ud : ∀ {u : Value}, V S' ρ' H' .undef u := .pure _ _ (.undef _)
  cases h with
  | pure _ _ h => cases a <;> simp [AV.isRef] at hra <;> (cases h with | lst _ _ _ _ _ he => simp [AV.elems] at he)
  | vec => cases hra
  | agg => cases hra
  | tup => cases hra
  | fn => cases hra
  | sl q v xs m a hr he ha =>
    by_cases e : q = r
    · subst e; simp [purA]; exact ud
    · have := V.sl (S := S') (ρ := ρ') (H := H') q v xs m a (hH q _ e hr) he (by rw [hb _ _ e, hc _ e]; exact ha)
      rw [hc _ e] at this; simp only [purA, cond_eq_ite, beq_iff_eq, e, if_false]; exact this
  | mt q xss a hr ha =>
    by_cases e : q = r
    · subst e; simp [purA]; exact ud
    · have := V.mt (S := S') (ρ := ρ') (H := H') q xss a (hH q _ e hr) (by rw [hb _ _ e, hc _ e]; exact ha)
      rw [hc _ e] at this; simp only [purA, cond_eq_ite, beq_iff_eq, e, if_false]; exact this
  | mr q i xss row cv hr h0 hi h =>
    by_cases e : q = r
    · subst e; simp [purA]; exact ud
    · simp only [purA, e, cond_eq_ite, beq_iff_eq, if_false]
      exact .mr q i xss row cv (hH q _ e hr) h0 hi (h.keep (hb _ _ e) (hrc _ _ e))
  | bx q off cs hr ho =>
    by_cases e : q = r
    · subst e; simp [purA]; exact ud
    · have := V.bx (S := S') (ρ := ρ') (H := H') q off _ (hH q _ e hr) (by rw [AV.trL_eq]; simpa using ho)
      rw [hb _ _ e] at this; simp only [purA, cond_eq_ite, beq_iff_eq, e, if_false]; exact this
  | pa q i v xs m hr he h0 hi =>
    by_cases e : q = r
    · subst e; simp [purA]; exact ud
    · have := V.pa (S := S') (ρ := ρ') (H := H') q i v xs m (hH q _ e hr) he h0 hi
      rw [hb _ _ e] at this; simp only [purA, cond_eq_ite, beq_iff_eq, e, if_false]; exact this
  | pm q i j xss row hr h0 hi hj0 hj =>
    by_cases e : q = r
    · subst e; simp [purA]; exact ud
    · have := V.pm (S := S') (ρ := ρ') (H := H') q i j xss row (hH q _ e hr) h0 hi hj0 hj
      rw [hb _ _ e] at this; simp only [purA, cond_eq_ite, beq_iff_eq, e, if_false]; exact this
  | po q i xss hr h0 hi =>
    by_cases e : q = r
    · subst e; simp [purA]; exact ud
    · have := V.po (S := S') (ρ := ρ') (H := H') q i xss (hH q _ e hr) h0 hi
      rw [hb _ _ e] at this; simp only [purA, cond_eq_ite, beq_iff_eq, e, if_false]; exact this
theorem Rel.renew (hrel : Rel own S ρ H w) {r : Nat} {v v' : AV} (hk : H r = some (.arr v)) {ρ' : Rho} {H' : HF} (hHr : H' r = some (.arr v')) (hH : ∀ q, q ≠ r -> H' q = (H q).map (Blk.tr (purA r)))
    (hb : ∀ q j, q ≠ r -> ρ'.blk q j = ρ.blk q j) (hc : ∀ q, q ≠ r -> ρ'.cap q = ρ.cap q) (hrc : ∀ q i, q ≠ r -> ρ'.rcap q i = ρ.rcap q i) {w' : World} (hw : ∀ b c, OwnCells w b c -> (ρ.cap r ≠ 0 -> b ≠ ρ.blk r 0) -> OwnCells w' b c) (hs : ∀ b c, S b = some c -> CellsIn w' b c)
    (hnew : BlkRel S ρ' H' w' r (.arr v')) (hown : ρ'.cap r ≠ 0 -> own (ρ'.blk r 0) /\ S (ρ'.blk r 0) = none) (hsep : ρ'.cap r ≠ 0 -> ∀ q j, q ≠ r -> foot ρ H q j -> ρ.blk q j ≠ ρ'.blk r 0) :
    Rel own S ρ' H' w' /\ ∀ x cv, V S ρ H x cv -> V S ρ' H' (x.tr (purA r)) cv := by
  have hV : ∀ x cv, V S ρ H x cv -> V S ρ' H' (x.tr (purA r)) cv := fun x cv hx => hx.tr (fun _ _ h => h) (fun a cv hra ha => purA_ref (fun _ _ h => h) (fun q k hq hk => by rw [hH q hq, hk]; rfl) hb hc hrc hra ha)
  have ft : ∀ q j, q ≠ r -> foot ρ' H' q j -> foot ρ H q j := fun q j hq hf => by
    unfold foot at hf ⊢
    rw [hH q hq] at hf
    cases hh : H q with
    | none => rw [hh] at hf; exact hf.elim
    | some k =>
      rw [hh] at hf
      cases k with
      | box cs => exact hf
      | arr u => simp only [Option.map_some, Blk.tr] at hf; rw [hc q hq] at hf; exact hf
      | mat xss => simp only [Option.map_some, Blk.tr] at hf; rw [hc q hq] at hf; simp only [hrc q _ hq] at hf; exact hf
  have fr : ∀ j, foot ρ' H' r j -> j = 0 /\ ρ'.cap r ≠ 0 := fun j hf => by unfold foot at hf; rw [hHr] at hf; exact hf
  refine ⟨⟨hs, hrel.amb, fun q k hq => ?_, fun q j hf => ?_, fun q j q' j' h1 h2 e => ?_⟩, hV⟩
  · by_cases e : q = r
    · subst e; rw [hHr] at hq; cases hq; exact hnew
    · rw [hH q e] at hq
      obtain ⟨k0, hk0, rfl⟩ := Option.map_eq_some_iff.1 hq
      have hbl := hrel.blk q k0 hk0
      have ne : ∀ j, foot ρ H q j -> ρ.cap r ≠ 0 -> ρ.blk q j ≠ ρ.blk r 0 := fun j hf hc0 he => e (hrel.sep q j r 0 hf (foot_arr hk hc0) he).1
      cases k0 with
      | box cs =>
        obtain ⟨c, g1, g2, g3⟩ := hbl
        refine ⟨c, by rw [hb q 0 e]; exact hw _ _ g1 (ne 0 (foot_box hk0)), by rw [AV.trL_eq]; simpa using g2, fun j y u hy hu => ?_⟩
        rw [AV.trL_eq, List.getElem?_map] at hy
        obtain ⟨y0, hy0, rfl⟩ := Option.map_eq_some_iff.1 hy
        exact hV _ _ (g3 j y0 u hy0 hu)
      | arr u =>
        obtain ⟨xs, m, c, g1, g2, g3, g4, g5⟩ := hbl
        exact ⟨xs, m, c, g1, fun h0 => by rw [hc q e] at h0; rw [hb q 0 e]; exact hw _ _ (g2 h0) (ne 0 (foot_arr hk0 h0)), by rw [hc q e]; exact g3, by rw [hc q e]; exact g4, g5⟩
      | mat xss =>
        obtain ⟨c, g1, g2, g3, g4⟩ := hbl
        refine ⟨c, fun h0 => by rw [hc q e] at h0; rw [hb q 0 e]; exact hw _ _ (g1 h0) (ne 0 (foot_mat hk0 h0)), by rw [hc q e]; exact g2, by rw [hc q e]; exact g3, fun i row hi => ⟨?_, fun hne => ?_⟩⟩
        · obtain ⟨u, hu, hrow⟩ := (g4 i row hi).1
          exact ⟨u, hu, hrow.keep (hb q _ e) (hrc q _ e)⟩
        · rw [hrc q _ e] at hne ⊢
          obtain ⟨d, hd, hr⟩ := (g4 i row hi).2 hne
          rw [hb q _ e]
          exact ⟨d, hw _ _ hd (ne _ (foot_row hk0 hi hne)), hr⟩
  · by_cases e : q = r
    · subst e; obtain ⟨rfl, h0⟩ := fr j hf; exact hown h0
    · rw [hb q j e]; exact hrel.owned q j (ft q j e hf)
  · by_cases e1 : q = r
    · by_cases e2 : q' = r
      · rw [e1] at h1; rw [e2] at h2; rw [e1, e2]; exact ⟨rfl, by rw [(fr j h1).1, (fr j' h2).1]⟩
      · exfalso
        rw [e1] at h1 e
        obtain ⟨rfl, h0⟩ := fr j h1
        rw [hb q' j' e2] at e
        exact hsep h0 q' j' e2 (ft q' j' e2 h2) e.symm
    · by_cases e2 : q' = r
      · exfalso
        rw [e2] at h2 e
        obtain ⟨rfl, h0⟩ := fr j' h2
        rw [hb q j e1] at e
        exact hsep h0 q j e1 (ft q j e1 h1) e
      · rw [hb q j e1, hb q' j' e2] at e
        exact hrel.sep q j q' j' (ft q j e1 h1) (ft q' j' e2 h2) e
theorem purE_get (r : Nat) (e : Env) (t : Tmp) : (purE r e).get t = (e.get t).tr (purA r) := by
  induction e with
  | nil => rfl
  | cons x e ih =>
    obtain ⟨q, v⟩ := x
    simp only [purE, Env.get]
    split
    · rfl
    · exact ih
theorem purH_look (r : Nat) (h : Heap) (q : Nat) : (purH r h).look q = (h.look q).map (Blk.tr (purA r)) := by
  induction h with
  | nil => rfl
  | cons x h ih =>
    obtain ⟨k, v⟩ := x
    simp only [purH, Heap.look]
    split
    · rfl
    · exact ih
end
end Go.Vc
namespace Go.Vc
open Go.RowKit
section
variable {P : Program} {hint : Hint}
theorem run_append_room {w : World} (t tx ty e : TypeId) (i : TypeInfo) (ht : P.underlying t = some (.slice e)) (hi : P.info? e = some i) {b : Nat} {c : Array Value} (hc : OwnCells w b c) (sLen sCap : Nat) (x : Value) (n : Nat) (news : List Value)
    (hs : Src P i.size tx x n news w) (hroom : sLen + n <= sCap) (hle : sLen * i.size + news.length <= c.size) :
    (Builtin.append_ #[t, tx] ty #[.slice (some ⟨b, 0, none⟩) sLen sCap, x]).run P w =
      .ok (.slice (some ⟨b, 0, none⟩) (sLen + n) sCap) (w.setRow b (c.toList.take (sLen * i.size) ++ news ++ c.toList.drop (sLen * i.size + news.length)).toArray) := by
  obtain ⟨el, hg⟩ := hc
  have hst := run_storeCells_at (P := P) b (sLen * i.size) el news 0 c w hg (by simpa using hle) hs.one
  simp only [Nat.add_zero] at hst
  rcases hs.kind with ⟨e', hk⟩ | hk <;> simp [Builtin.append_, run_underlying ht, run_underlying hk, sizeOf, typeInfo, hi, hs.len, hroom, hs.cells, Addr.add_lit, hst]
theorem arrIs_append {S : Store} {c : Array Value} {xs ys : List AV} {m : Nat} (h1 : ArrIs S c xs m) (hy : ∀ x, x ∈ ys -> x.cells.length = m)
    (h2 : ∀ (i : Nat) x (j : Nat) z, ys[i]? = some x -> x.cells[j]? = some z -> ∃ u, c[(xs.length + i) * m + j]? = some u /\ Sees S z u) : ArrIs S c (xs ++ ys) m := by
  refine ⟨fun x hx => ?_, fun i x j y hx hy' => ?_⟩
  · rcases List.mem_append.1 hx with h | h
    · exact h1.1 x h
    · exact hy x h
  · by_cases hi : i < xs.length
    · rw [List.getElem?_append_left hi] at hx; exact h1.2 i x j y hx hy'
    · rw [List.getElem?_append_right (by omega)] at hx
      obtain ⟨u, hu, hs⟩ := h2 _ x j y hx hy'
      exact ⟨u, by rw [show xs.length + (i - xs.length) = i by omega] at hu; exact hu, hs⟩
theorem arrIs_congr {S : Store} {c d : Array Value} {xs : List AV} {m : Nat} (h1 : ArrIs S c xs m) (h : ∀ q, q < xs.length * m -> d[q]? = c[q]?) : ArrIs S d xs m := by
  refine ⟨h1.1, fun i x j y hx hy => ?_⟩
  obtain ⟨u, hu, hs⟩ := h1.2 i x j y hx hy
  have hi := (List.getElem?_eq_some_iff.1 hx).1
  have hj := (List.getElem?_eq_some_iff.1 hy).1
  rw [h1.1 x (List.mem_of_getElem? hx)] at hj
  have : (i + 1) * m <= xs.length * m := Nat.mul_le_mul_right _ hi
  rw [Nat.add_mul] at this
  exact ⟨u, by rw [h _ (by omega)]; exact hu, hs⟩
theorem append_ok {x : Cx} (hx0 : x.n0 <= hint.n0) {e : Env} {h : Heap} {n : Nat} {a : Act} {w : World} {s y : Operand} {ts tx : TypeId} {o : Oper} (ho : o.op = .call ⟨.builtin .append, ⟨[s, y]⟩, ⟨[ts, tx]⟩⟩) (hs : Sat x e h n a w)
    (hp : (appR hint P ts tx (opnd e s) (blkOf h (opnd e s)) (opnd e y) e h).pre) (hd : ∀ t, o.dst = some t -> t < x.k)
    {next : Act -> World -> Prop} {Q : Exit -> Act -> World -> Prop}
    (hK : ∀ a' w', Sat x (dset (appR hint P ts tx (opnd e s) (blkOf h (opnd e s)) (opnd e y) e h).env o.dst (opnd e s)) (appR hint P ts tx (opnd e s) (blkOf h (opnd e s)) (opnd e y) e h).heap n a' w' -> next a' w') : o.wp P a w next Q := by
  obtain ⟨S, ρ, s1, s2, hrel, hfx, hE, hkept, hk, hdf, hn, hn0⟩ := hs
  have hvs := hE.opnd s
  have hvy := hE.opnd y
  generalize hsa : opnd e s = sa at *
  generalize hya : opnd e y = ya at *
  unfold appR at hp hK
  split at hp <;> first | exact hp.elim | skip
  rename_i r v hkb
  have hkb' : h.look r = some (.arr v) := hkb
  rw [hkb] at hK
  simp only at hK
  split at hp <;> first | exact hp.elim | skip
  rename_i v' hcat
  rw [hcat] at hK
  simp only at hp hK
  obtain ⟨hge, hap, hsl⟩ := hp
  obtain ⟨xs, m, ys, he, he', hy⟩ := catE_spec hcat
  obtain ⟨hm12, hwid⟩ := elems_m he
  unfold apP at hap
  split at hap <;> first | exact hap.elim | skip
  rename_i k b hz
  obtain ⟨rfl, hbytes⟩ := hap
  rw [hwid] at hz
  obtain ⟨el, i, z, ht, hi, hzero, hzs, hsize, hby⟩ := ap_spec hz
  obtain ⟨news, hsrc, hnews⟩ := src_ok hrel hm12 hy hvy hsl
  have hylen : ∀ x, x ∈ ys -> x.cells.length = m := by
    rcases hy with hy | ⟨_, rfl⟩
    · exact elems_cells hy
    · intro x hx; cases hx
  obtain ⟨a0, hval, ha0⟩ : ∃ a0, a.eval s = .slice a0 xs.length (ρ.cap r) /\ (ρ.cap r ≠ 0 -> a0 = some ⟨ρ.blk r 0, 0, none⟩) := by
    obtain ⟨v1, xs1, m1, a0, hcv, hr, hx, ha⟩ := hvs.sl_inv
    rw [hkb'] at hr; cases hr; rw [he] at hx; simp only [Option.some.injEq, Prod.mk.injEq] at hx; obtain ⟨rfl, rfl⟩ := hx
    exact ⟨a0, hcv, ha⟩
  obtain ⟨xs1, m1, c, he1, hc, hsz, hcap, harr⟩ := hrel.blk r _ hkb'
  rw [he] at he1; simp only [Option.some.injEq, Prod.mk.injEq] at he1; obtain ⟨rfl, rfl⟩ := he1
  have hlen' : lenOf v' = xs.length + ys.length := by rw [<- elems_len he']; simp
  rw [hlen'] at hbytes
  have hbytes2 : (xs.length + ys.length) * b <= 140737488355328 := Nat.le_trans (Nat.mul_le_mul_left _ (Nat.le_succ b)) hbytes
  have hl1 : xs.length + ys.length <= 140737488355328 := Nat.le_trans (Nat.le_mul_of_pos_right _ (Nat.succ_pos b)) hbytes
  have hnl := hsrc.newsLen
  -- the heap behind it
  have hHr : (hset (purH r h) r (.arr v')).look r = some (.arr v') := hset_self (k := (Blk.arr v).tr (purA r)) (by rw [purH_look, hkb']; rfl)
  have hHo : ∀ q, q ≠ r -> (hset (purH r h) r (.arr v')).look q = (h.look q).map (Blk.tr (purA r)) := fun q hq => by rw [hset_other hq, purH_look]
  have hn' : ∀ q, (hset (purH r h) r (.arr v')).look q ≠ none -> q < n := fun q hq => by
    by_cases e' : q = r
    · subst e'; exact hn q (by rw [hkb']; simp)
    · rw [hHo q e'] at hq; exact hn q (fun e2 => hq (by rw [e2]; rfl))
  -- the end of each way
  have fin : ∀ (ρ' : Rho) (w' : World) (cv : Value), (Builtin.append_ #[ts, tx] o.type #[a.eval s, a.eval y]).run P w = .ok cv w' ->
      Rel x.own S ρ' (hset (purH r h) r (.arr v')).look w' -> (∀ u cv, V S ρ h.look u cv -> V S ρ' (hset (purH r h) r (.arr v')).look (u.tr (purA r)) cv) -> V S ρ' (hset (purH r h) r (.arr v')).look (.sl r) cv -> Kept x.own x.W w' -> (∀ q, q ≠ r -> (∀ j, ρ'.blk q j = ρ.blk q j) /\ ρ'.cap q = ρ.cap q /\ ∀ i, ρ'.rcap q i = ρ.rcap q i) ->
      o.wp P a w next Q := by
    intro ρ' w' cv hr hrel' hV hvr hkept' hfix
    unfold Oper.wp
    have : (execOp a.eval o).run P w = .ok (.value cv) w' := by simp [execOp, ho, resolve, invoke, builtin, hr]
    rw [this]
    refine hK _ _ ⟨S, ρ', s1, s2, hrel', fun q h1 h2 => by
      have hqr : q ≠ r := fun e => by subst e; omega
      obtain ⟨g1, g2, g3⟩ := hfix q hqr
      obtain ⟨f1, f2, f3⟩ := hfx q h1 (fun e => h2 (by rw [hHo q hqr, e]; rfl))
      exact ⟨fun j => by rw [g1, f1], by rw [g2, f2], fun i => by rw [g3, f3]⟩, EnvRel.put (fun t => by rw [purE_get]; exact hV _ _ (hE t)) hvr (fun t ht => by rw [hk]; exact hd t ht), hkept', by rw [put_size]; exact hk, by rw [put_defers]; exact hdf, hn', hn0⟩
  have hvrmk : ∀ (ρ' : Rho) (a1 : Option Addr), (ρ'.cap r ≠ 0 -> a1 = some ⟨ρ'.blk r 0, 0, none⟩) -> V S ρ' (hset (purH r h) r (.arr v')).look (.sl r) (.slice a1 (xs.length + ys.length) (ρ'.cap r)) := fun ρ' a1 ha => by
    have := V.sl (S := S) (ρ := ρ') r v' (xs ++ ys) m a1 hHr he' ha
    simpa using this
  rw [hval] at fin
  by_cases hroom : xs.length + ys.length <= ρ.cap r
  · by_cases hc0 : ρ.cap r = 0
    · -- nothing on nothing
      have hx0 : xs = [] := List.length_eq_zero_iff.1 (by omega)
      have hy0 : ys = [] := List.length_eq_zero_iff.1 (by omega)
      subst hx0; subst hy0
      have hn0 : news = [] := List.length_eq_zero_iff.1 (by rw [hnl]; simp)
      subst hn0
      obtain ⟨g1, g2⟩ := Rel.renew (H' := (hset (purH r h) r (.arr v')).look) hrel hkb' hHr hHo (ρ' := ρ) (fun _ _ _ => rfl) (fun _ _ => rfl) (fun _ _ _ => rfl) (w' := w) (fun b c hb _ => hb) hrel.stab
        ⟨_, m, c, he', hc, hsz, by simp, by simpa using harr⟩ (fun h0 => hrel.owned r 0 (foot_arr hkb' h0)) (fun h0 q j hq hf e' => hq (hrel.sep q j r 0 hf (foot_arr hkb' h0) e').1)
      refine fin ρ w (.slice a0 0 (ρ.cap r)) ?_ g1 g2 (by simpa using hvrmk ρ a0 ha0) hkept (fun _ _ => ⟨fun _ => rfl, rfl, fun _ => rfl⟩)
      exact run_append_nothing w ts tx o.type el i ht hi a0 0 (ρ.cap r) (Nat.zero_le _) (a.eval y) (by rw [hsize]; exact hsrc)
    · -- there is room
      have ha := ha0 hc0
      subst ha
      have hcc := hc hc0
      have hfit : xs.length * m + news.length <= c.size := by rw [hnl, hsz, <- Nat.add_mul]; exact Nat.mul_le_mul_right _ hroom
      have hrun := run_append_room (P := P) ts tx o.type el i ht hi hcc xs.length (ρ.cap r) (a.eval y) ys.length news (by rw [hsize]; exact hsrc) hroom (by rw [hsize]; exact hfit)
      rw [hsize] at hrun
      have hg2 : ∀ q, (c.toList.take (xs.length * m) ++ news ++ c.toList.drop (xs.length * m + news.length)).toArray[q]? = if xs.length * m <= q /\ q < xs.length * m + news.length then news[q - xs.length * m]? else c[q]? := fun q => by
        rw [List.getElem?_toArray, getElem?_splice _ _ _ _ (by simpa using hfit)]
        simp
      have hf0 := foot_arr (ρ := ρ) hkb' hc0
      obtain ⟨g1, g2⟩ := Rel.renew (H' := (hset (purH r h) r (.arr v')).look) hrel hkb' hHr hHo (ρ' := ρ) (fun _ _ _ => rfl) (fun _ _ => rfl) (fun _ _ _ => rfl) (w' := w.setRow (ρ.blk r 0) (c.toList.take (xs.length * m) ++ news ++ c.toList.drop (xs.length * m + news.length)).toArray)
        (fun b c' ⟨el', hb⟩ hne => ⟨el', by rw [setRow_other _ _ _ _ (hne hc0)]; exact hb⟩)
        (fun b c' hb => by
          obtain ⟨el', fr, hb'⟩ := hrel.stab b c' hb
          refine ⟨el', fr, ?_⟩
          rw [setRow_other _ _ _ _ (fun e' => ?_)]; exact hb'
          have := (hrel.owned r 0 hf0).2; rw [<- e', hb] at this; cases this)
        (by
          obtain ⟨el', hg⟩ := hcc
          refine ⟨xs ++ ys, m, _, he', fun _ => ⟨el', setRow_heap w _ _ _ _ _ hg⟩, by simp; omega, by simpa using hroom, arrIs_append (arrIs_congr harr (fun q hq => by rw [hg2, if_neg (by omega)])) hylen (fun i x j z hx hz => ?_)⟩
          obtain ⟨u, hu, hsu⟩ := hnews i x j z hx hz
          refine ⟨u, ?_, hsu⟩
          have := (List.getElem?_eq_some_iff.1 hu).1
          rw [hg2, Nat.add_mul, if_pos (by omega), show xs.length * m + i * m + j - xs.length * m = i * m + j by omega]; exact hu)
        (fun h0 => hrel.owned r 0 hf0) (fun h0 q j hq hf e' => hq (hrel.sep q j r 0 hf hf0 e').1)
      exact fin ρ _ _ hrun g1 g2 (hvrmk ρ _ (fun _ => rfl)) (hkept.write (hrel.owned r 0 hf0).1 _) (fun _ _ => ⟨fun _ => rfl, rfl, fun _ => rfl⟩)
  · -- a new row
    have hold : (Builtin.firstCells i.size xs.length (.slice a0 xs.length (ρ.cap r))).run P w.drew = .ok (c.toList.take (xs.length * m)).toArray w.drew := by
      by_cases hc0 : ρ.cap r = 0
      · have hx0 : xs = [] := List.length_eq_zero_iff.1 (by omega)
        subst hx0
        cases a0 with
        | none => simpa using run_firstCells_none (P := P) w.drew i.size 0 0 (ρ.cap r)
        | some a0 => simpa using run_firstCells_some (P := P) w.drew i.size 0 a0 0 (ρ.cap r) [] (by simp) (fun j u hu => by simp at hu)
      · have ha := ha0 hc0
        subst ha
        obtain ⟨el', hg⟩ := hc hc0
        refine run_firstCells_some (P := P) w.drew i.size xs.length _ _ _ _ (by rw [hsize, List.length_take]; simp only [Array.length_toList]; rw [hsz]; exact Nat.min_eq_left (Nat.mul_le_mul_right _ hcap)) (fun j u hu => ?_)
        rw [List.getElem?_take] at hu
        split at hu
        · rw [Addr.add_lit]
          simp only [Nat.zero_add]
          have : w.cell? ⟨ρ.blk r 0, j, none⟩ = c[j]? := (OwnCells.cellsIn ⟨el', hg⟩).cell j
          have e2 : w.drew.cell? ⟨ρ.blk r 0, j, none⟩ = w.cell? ⟨ρ.blk r 0, j, none⟩ := rfl
          rw [e2, this]; simpa using hu
        · cases hu
    have hrun := run_append_grow_src (P := P) w ts tx o.type el i z ht hi hzero a0 xs.length (ρ.cap r) _ hold (a.eval y) ys.length news (by rw [hsize]; exact hsrc) (by omega) (by omega) (by rw [hby]; exact growslice_fits (by omega) hbytes2)
    have hgc := grownCap_ge w (xs.length + ys.length) (ρ.cap r) el
    generalize hgcap : grownCap w (xs.length + ys.length) (ρ.cap r) el = gc at hrun hgc
    have hxl : (c.toList.take (xs.length * m)).length = xs.length * m := by
      rw [List.length_take]; simp only [Array.length_toList]; rw [hsz]; exact Nat.min_eq_left (Nat.mul_le_mul_right _ hcap)
    have hzl : (Builtin.zeroCells z.cells (gc - (xs.length + ys.length))).size = (gc - (xs.length + ys.length)) * m := by simp [Builtin.zeroCells, hzs]
    generalize hcc : (c.toList.take (xs.length * m) ++ news).toArray ++ Builtin.zeroCells z.cells (gc - (xs.length + ys.length)) = cc at hrun
    have hccs : cc.size = gc * m := by
      rw [<- hcc]; simp only [Array.size_append, List.size_toArray, List.length_append, hxl, hzl, hnl]
      rw [<- Nat.add_mul, <- Nat.add_mul]; congr 1; omega
    have hcq : ∀ q, q < xs.length * m -> cc[q]? = c[q]? := fun q hq => by
      rw [<- hcc, Array.getElem?_append_left (by simp only [List.size_toArray, List.length_append, hxl]; omega), List.getElem?_toArray, List.getElem?_append_left (by rw [hxl]; exact hq), List.getElem?_take, if_pos hq]; simp
    have hcn : ∀ q, q < news.length -> cc[xs.length * m + q]? = news[q]? := fun q hq => by
      rw [<- hcc, Array.getElem?_append_left (by simp only [List.size_toArray, List.length_append, hxl]; omega), List.getElem?_toArray, List.getElem?_append_right (by rw [hxl]; omega), hxl]
      congr 1; omega
    have hbig : ∀ q j, foot ρ h.look q j -> ρ.blk q j < w.heap.size := fun q j hf => hrel.foot_lt hf
    let ρ' : Rho := ρ.set r w.heap.size gc
    have eb : ∀ j, ρ'.blk r j = w.heap.size := fun j => by simp [ρ', Rho.set]
    have ec : ρ'.cap r = gc := by simp [ρ', Rho.set]
    obtain ⟨g1, g2⟩ := Rel.renew (H' := (hset (purH r h) r (.arr v')).look) hrel hkb' hHr hHo (ρ' := ρ') (fun q j hq => by simp [ρ', Rho.set, hq]) (fun q hq => by simp [ρ', Rho.set, hq]) (fun q i hq => by simp [ρ', Rho.set, hq]) (w' := w.drew.alloc (.cells cc el))
      (fun b c' ⟨el', hb⟩ _ => ⟨el', by rw [Below.heap_alloc _ _ _ (show b < w.drew.heap.size from (Array.getElem?_eq_some_iff.1 hb).1)]; exact hb⟩)
      (fun b c' hb => by
        obtain ⟨el', fr, hb'⟩ := hrel.stab b c' hb
        exact ⟨el', fr, by rw [Below.heap_alloc _ _ _ (show b < w.drew.heap.size from (Array.getElem?_eq_some_iff.1 hb').1)]; exact hb'⟩)
      (by
        refine ⟨xs ++ ys, m, cc, he', fun _ => ⟨el, by rw [eb]; show (w.heap.push (.cells cc el))[w.heap.size]? = some _; simp⟩, by rw [ec]; exact hccs, by rw [ec]; simpa using hgc, arrIs_append (arrIs_congr harr hcq) hylen (fun i x j z hx hz => ?_)⟩
        obtain ⟨u, hu, hsu⟩ := hnews i x j z hx hz
        have := (List.getElem?_eq_some_iff.1 hu).1
        exact ⟨u, by rw [Nat.add_mul, Nat.add_assoc, hcn _ this]; exact hu, hsu⟩)
      (fun _ => ⟨by rw [eb]; exact x.hown _ hkept.size, by rw [eb]; exact hrel.store_new⟩) (fun _ q j hq hf e' => by have := hbig q j hf; rw [eb] at e'; omega)
    have hv2 := hvrmk ρ' (some ⟨w.heap.size, 0, none⟩) (fun _ => by rw [eb])
    rw [ec] at hv2
    exact fin ρ' _ _ hrun g1 g2 hv2 ((hkept.drew (w.drawn + 1)).alloc _) (fun q hq => ⟨fun j => by simp [ρ', Rho.set, hq], by simp [ρ', Rho.set, hq], fun i => by simp [ρ', Rho.set, hq]⟩)
end
end Go.Vc
namespace Go.Vc
open Go.RowKit
section
variable {P : Program} {S S' : Store} {ρ ρ' : Rho} {H H' : HF} {w w' : World} {own : Nat -> Prop}
def AV.rbase : AV -> Nat
  | .sl r | .mt r | .mr r _ | .bx r _ | .pa r _ | .pm r _ _ | .po r _ => r
  | _ => 0
theorem ref_not_pure {a : AV} {cv : Value} (hra : a.isRef = true) (h : Sees S a cv) : False := by
  cases a <;> simp [AV.isRef] at hra <;> (cases h with | lst _ _ _ _ _ he => simp [AV.elems] at he)
theorem V.ref_shape {a : AV} {cv : Value} (hra : a.isRef = true) (h : V S ρ H a cv) (hsh : ∀ k, H a.rbase = some k -> ∃ k', H' a.rbase = some k' /\ SameShape k k')
    (hb : ∀ j, ρ'.blk a.rbase j = ρ.blk a.rbase j) (hc : ρ'.cap a.rbase = ρ.cap a.rbase) (hrc : ∀ i, ρ'.rcap a.rbase i = ρ.rcap a.rbase i) : V S' ρ' H' a cv := by
  cases h with
  | pure _ _ h => exact (ref_not_pure hra h).elim
  | vec => cases hra
  | agg => cases hra
  | tup => cases hra
  | fn => cases hra
  | sl q v xs m a hr he ha =>
    simp only [AV.rbase] at hsh hb hc hrc
    obtain ⟨k', hk', hs⟩ := hsh _ hr
    cases hs with
    | arr _ v' xs1 xs2 m' h1 h2 hl =>
      rw [he] at h1; simp only [Option.some.injEq, Prod.mk.injEq] at h1; obtain ⟨rfl, rfl⟩ := h1
      have := V.sl (S := S') (ρ := ρ') (H := H') q v' xs2 m a hk' h2 (by rw [hb, hc]; exact ha)
      rw [hl, <- hc]; exact this
  | mt q xss a hr ha =>
    simp only [AV.rbase] at hsh hb hc hrc
    obtain ⟨k', hk', hs⟩ := hsh _ hr
    cases hs with
    | mat _ b hl h =>
      have := V.mt (S := S') (ρ := ρ') (H := H') q b a hk' (by rw [hb, hc]; exact ha)
      rw [hl, <- hc]; exact this
  | mr q i xss row cv hr h0 hi h =>
    simp only [AV.rbase] at hsh hb hc hrc
    obtain ⟨k', hk', hs⟩ := hsh _ hr
    cases hs with
    | mat _ b hl hh =>
      have hlt : i.toNat < b.length := by rw [<- hl]; exact (List.getElem?_eq_some_iff.1 hi).1
      have hbi : b[i.toNat]? = some b[i.toNat] := by simp [hlt]
      have hlen := hh _ _ _ hi hbi
      obtain ⟨a, h1, h2, h3⟩ := h
      exact .mr q i b b[i.toNat] cv hk' h0 hbi ⟨a, by rw [hrc, <- hlen]; exact h1, by rw [hrc, <- hlen]; exact h2, by rw [hrc, hb]; exact h3⟩
  | bx q off cs hr ho =>
    simp only [AV.rbase] at hsh hb hc hrc
    obtain ⟨k', hk', hs⟩ := hsh _ hr
    cases hs with
    | box _ cs' hl =>
      have := V.bx (S := S') (ρ := ρ') (H := H') q off cs' hk' (by rw [<- hl]; exact ho)
      rw [hb] at this; exact this
  | pa q i v xs m hr he h0 hi =>
    simp only [AV.rbase] at hsh hb hc hrc
    obtain ⟨k', hk', hs⟩ := hsh _ hr
    cases hs with
    | arr _ v' xs1 xs2 m' h1 h2 hl =>
      rw [he] at h1; simp only [Option.some.injEq, Prod.mk.injEq] at h1; obtain ⟨rfl, rfl⟩ := h1
      have := V.pa (S := S') (ρ := ρ') (H := H') q i v' xs2 m hk' h2 h0 (by rw [<- hl]; exact hi)
      rw [hb] at this; exact this
  | pm q i j xss row hr h0 hi hj0 hj =>
    simp only [AV.rbase] at hsh hb hc hrc
    obtain ⟨k', hk', hs⟩ := hsh _ hr
    cases hs with
    | mat _ b hl hh =>
      have hlt : i.toNat < b.length := by rw [<- hl]; exact (List.getElem?_eq_some_iff.1 hi).1
      have hbi : b[i.toNat]? = some b[i.toNat] := by simp [hlt]
      have := V.pm (S := S') (ρ := ρ') (H := H') q i j b b[i.toNat] hk' h0 hbi hj0 (by rw [<- hh _ _ _ hi hbi]; exact hj)
      rw [hb] at this; exact this
  | po q i xss hr h0 hi =>
    simp only [AV.rbase] at hsh hb hc hrc
    obtain ⟨k', hk', hs⟩ := hsh _ hr
    cases hs with
    | mat _ b hl h =>
      have := V.po (S := S') (ρ := ρ') (H := H') q i b hk' h0 (by rw [<- hl]; exact hi)
      rw [hb] at this; exact this
theorem same_tr {r : Nat} {k : Blk} (h : BlkRel S ρ H w r k) (φ : AV -> AV) : SameShape k (k.tr φ) := by
  cases k with
  | box cs => exact .box _ _ (by rw [AV.trL_eq]; simp)
  | arr v => obtain ⟨xs, m, c, he, _⟩ := h; exact .arr _ _ xs xs m he he rfl
  | mat xss => exact .mat _ _ rfl (fun i x y h1 h2 => by rw [h1] at h2; cases h2; rfl)
theorem foot_same {q : Nat} {k k' : Blk} {j : Nat} (hk : H q = some k) (hk' : H' q = some k') (hs : SameShape k k') (hc : ρ'.cap q = ρ.cap q) (hrc : ∀ i, ρ'.rcap q i = ρ.rcap q i) : foot ρ' H' q j ↔ foot ρ H q j := by
  unfold foot
  rw [hk, hk', hc]
  simp only [hrc]
  cases hs with
  | box => exact Iff.rfl
  | arr => exact Iff.rfl
  | mat a b hl h =>
    refine or_congr Iff.rfl ⟨?_, ?_⟩
    · rintro ⟨i, row, h1, h2, h3⟩
      have hlt : i < a.length := by rw [hl]; exact (List.getElem?_eq_some_iff.1 h2).1
      exact ⟨i, a[i], h1, by simp [hlt], h3⟩
    · rintro ⟨i, row, h1, h2, h3⟩
      have hlt : i < b.length := by rw [<- hl]; exact (List.getElem?_eq_some_iff.1 h2).1
      exact ⟨i, b[i], h1, by simp [hlt], h3⟩
theorem BlkRel.stands {q : Nat} {k : Blk} {φ : AV -> AV} (h : BlkRel S ρ H w q k) (hS : S.le S') (hV : ∀ x cv, V S ρ H x cv -> V S' ρ' H' (x.tr φ) cv)
    (hb : ∀ j, ρ'.blk q j = ρ.blk q j) (hc : ρ'.cap q = ρ.cap q) (hrc : ∀ i, ρ'.rcap q i = ρ.rcap q i) (hk : H q = some k)
    (hw : ∀ j c, foot ρ H q j -> OwnCells w (ρ.blk q j) c -> OwnCells w' (ρ.blk q j) c) : BlkRel S' ρ' H' w' q (k.tr φ) := by
  cases k with
  | box cs =>
    obtain ⟨c, g1, g2, g3⟩ := h
    refine ⟨c, by rw [hb]; exact hw _ _ (foot_box hk) g1, by rw [AV.trL_eq]; simpa using g2, fun j y u hy hu => ?_⟩
    rw [AV.trL_eq, List.getElem?_map] at hy
    obtain ⟨y0, hy0, rfl⟩ := Option.map_eq_some_iff.1 hy
    exact hV _ _ (g3 j y0 u hy0 hu)
  | arr u =>
    obtain ⟨xs, m, c, g1, g2, g3, g4, g5, g6⟩ := h
    exact ⟨xs, m, c, g1, fun h0 => by rw [hc] at h0; rw [hb]; exact hw _ _ (foot_arr hk h0) (g2 h0), by rw [hc]; exact g3, by rw [hc]; exact g4, g5, fun i x j y hx hy => let ⟨u, hu, hs⟩ := g6 i x j y hx hy; ⟨u, hu, hs.mono hS⟩⟩
  | mat xss =>
    obtain ⟨c, g1, g2, g3, g4⟩ := h
    refine ⟨c, fun h0 => by rw [hc] at h0; rw [hb]; exact hw _ _ (foot_mat hk h0) (g1 h0), by rw [hc]; exact g2, by rw [hc]; exact g3, fun i row hi => ⟨?_, fun hne => ?_⟩⟩
    · obtain ⟨u, hu, hrow⟩ := (g4 i row hi).1
      exact ⟨u, hu, hrow.keep (hb _) (hrc _)⟩
    · rw [hrc] at hne ⊢
      obtain ⟨d, hd, hr⟩ := (g4 i row hi).2 hne
      rw [hb]
      exact ⟨d, hw _ _ (foot_row hk hi hne) hd, hr⟩
theorem Rel.turn {φ : AV -> AV} {D : Nat -> Prop} {r : Nat} {k' : Blk} (hrel : Rel own S ρ H w) (hD : D r) (hHr : H' r = some k') (hH : ∀ q, ¬ D q -> H' q = (H q).map (Blk.tr φ)) (hN : ∀ q, D q -> q ≠ r -> H' q = none)
    (hφ : ∀ a cv, a.isRef = true -> V S ρ H a cv -> V S ρ' H' (φ a) cv)
    (hb : ∀ q j, ¬ D q -> ρ'.blk q j = ρ.blk q j) (hc : ∀ q, ¬ D q -> ρ'.cap q = ρ.cap q) (hrc : ∀ q i, ¬ D q -> ρ'.rcap q i = ρ.rcap q i)
    (hw : ∀ b c, OwnCells w b c -> (∀ q j, D q -> foot ρ H q j -> b ≠ ρ.blk q j) -> OwnCells w' b c) (hs : ∀ b c, S b = some c -> CellsIn w' b c)
    (hnew : (∀ x cv, V S ρ H x cv -> V S ρ' H' (x.tr φ) cv) -> BlkRel S ρ' H' w' r k')
    (hown : ∀ j, foot ρ' H' r j -> own (ρ'.blk r j) /\ S (ρ'.blk r j) = none /\ ∀ q i, ¬ D q -> foot ρ H q i -> ρ.blk q i ≠ ρ'.blk r j)
    (hsep : ∀ j j', foot ρ' H' r j -> foot ρ' H' r j' -> ρ'.blk r j = ρ'.blk r j' -> j = j') :
    Rel own S ρ' H' w' /\ ∀ x cv, V S ρ H x cv -> V S ρ' H' (x.tr φ) cv := by
  have hV : ∀ x cv, V S ρ H x cv -> V S ρ' H' (x.tr φ) cv := fun x cv hx => hx.tr (fun _ _ h => h) hφ
  have old : ∀ q j, q ≠ r -> foot ρ' H' q j -> ¬ D q /\ foot ρ H q j := fun q j hq hf => by
    have hnd : ¬ D q := fun hd => by unfold foot at hf; rw [hN q hd hq] at hf; exact hf
    refine ⟨hnd, ?_⟩
    cases hh : H q with
    | none => unfold foot at hf; rw [hH q hnd, hh] at hf; exact hf.elim
    | some k => exact (foot_same hh (by rw [hH q hnd, hh]; rfl) (same_tr (hrel.blk q k hh) φ) (hc q hnd) (fun i => hrc q i hnd)).1 hf
  refine ⟨⟨hs, hrel.amb, fun q k hq => ?_, fun q j hf => ?_, fun q j q' j' h1 h2 e => ?_⟩, hV⟩
  · by_cases e : q = r
    · subst e; rw [hHr] at hq; cases hq; exact hnew hV
    · have hnd : ¬ D q := fun hd => by rw [hN q hd e] at hq; cases hq
      rw [hH q hnd] at hq
      obtain ⟨k0, hk0, rfl⟩ := Option.map_eq_some_iff.1 hq
      refine (hrel.blk q k0 hk0).stands (fun _ _ h => h) hV (fun j => hb q j hnd) (hc q hnd) (fun i => hrc q i hnd) hk0 (fun j c hf ho => hw _ _ ho (fun q' j' hd hf' e' => ?_))
      obtain ⟨rfl, _⟩ := hrel.sep _ _ _ _ hf hf' e'
      exact hnd hd
  · by_cases e : q = r
    · subst e; exact ⟨(hown j hf).1, (hown j hf).2.1⟩
    · obtain ⟨hnd, hf0⟩ := old q j e hf
      rw [hb q j hnd]; exact hrel.owned q j hf0
  · by_cases e1 : q = r
    · by_cases e2 : q' = r
      · rw [e1] at h1 e; rw [e2] at h2 e; rw [e1, e2]; exact ⟨rfl, hsep _ _ h1 h2 e⟩
      · exfalso
        rw [e1] at h1 e
        obtain ⟨hnd, hf0⟩ := old q' j' e2 h2
        rw [hb q' j' hnd] at e
        exact (hown j h1).2.2 q' j' hnd hf0 e.symm
    · obtain ⟨hnd, hf0⟩ := old q j e1 h1
      rw [hb q j hnd] at e
      by_cases e2 : q' = r
      · exfalso
        rw [e2] at h2 e
        exact (hown j' h2).2.2 q j hnd hf0 e
      · obtain ⟨hnd', hf0'⟩ := old q' j' e2 h2
        rw [hb q' j' hnd'] at e
        exact hrel.sep q j q' j' hf0 hf0' e
theorem memN_mem {l : List Nat} {q : Nat} : memN l q = true ↔ q ∈ l := by
  induction l with
  | nil => simp [memN]
  | cons a l ih =>
    simp only [memN, List.mem_cons]
    cases h : (a == q) with
    | true => simp at h; simp [h]
    | false => simp at h; simp only [cond_false, ih]; constructor
               · exact Or.inr
               · rintro (h2 | h2)
                 · exact absurd h2.symm h
                 · exact h2
theorem purN_ref {ns ws : List Nat} {a : AV} {cv : Value} (hra : a.isRef = true) (h : V S ρ H a cv)
    (hk : a.rbase ∉ ns -> (∀ i, a ≠ .mr a.rbase i \/ a.rbase ∉ ws) -> (∀ i j, a ≠ .pm a.rbase i j \/ a.rbase ∉ ws) -> V S' ρ' H' a cv) : V S' ρ' H' (purN ns ws a) cv := by
  have ud : ∀ {u : Value}, V S' ρ' H' .undef u := .pure _ _ (.undef _)
  have nm : ∀ {l : List Nat} {q : Nat}, memN l q = false -> q ∉ l := fun h hm => by rw [memN_mem.2 hm] at h; cases h
  cases a with
  | sl q => simp only [purN]; cases hm : memN ns q with
    | true => exact ud
    | false => exact hk (nm hm) (fun i => .inl (by simp)) (fun i j => .inl (by simp))
  | mt q => simp only [purN]; cases hm : memN ns q with
    | true => exact ud
    | false => exact hk (nm hm) (fun i => .inl (by simp)) (fun i j => .inl (by simp))
  | mr q i => simp only [purN]; cases hm : memN ns q with
    | true => exact ud
    | false => cases hm2 : memN ws q with
      | true => exact ud
      | false => exact hk (nm hm) (fun i => .inr (nm hm2)) (fun i j => .inl (by simp))
  | bx q o => simp only [purN]; cases hm : memN ns q with
    | true => exact ud
    | false => exact hk (nm hm) (fun i => .inl (by simp)) (fun i j => .inl (by simp))
  | pa q i => simp only [purN]; cases hm : memN ns q with
    | true => exact ud
    | false => exact hk (nm hm) (fun i => .inl (by simp)) (fun i j => .inl (by simp))
  | pm q i j => simp only [purN]; cases hm : memN ns q with
    | true => exact ud
    | false => cases hm2 : memN ws q with
      | true => exact ud
      | false => exact hk (nm hm) (fun i => .inl (by simp)) (fun i j => .inr (nm hm2))
  | po q i => simp only [purN]; cases hm : memN ns q with
    | true => exact ud
    | false => exact hk (nm hm) (fun i => .inl (by simp)) (fun i j => .inl (by simp))
  | _ => cases hra
end
end Go.Vc
namespace Go.Vc
open Go.RowKit
section
variable {P : Program} {hint : Hint}
theorem getElem?_set_list {α : Type} (l : List α) (i j : Nat) (v : α) (h : i < l.length) : (l.set i v)[j]? = if j = i then some v else l[j]? := by
  rw [List.getElem?_set]
  by_cases e : i = j
  · subst e; simp [h]
  · rw [if_neg e, if_neg (fun e' => e e'.symm)]
theorem row_ok {x : Cx} (hx0 : x.n0 <= hint.n0) {e : Env} {h : Heap} {n : Nat} {a : Act} {w : World} {t : TypeId} {p v : Operand} {o : Oper} (ho : o.op = .store t p v) (hs : Sat x e h n a w)
    {r : Nat} {i : Int} (hpo : opnd e p = .po r i)
    (hp : (storeR hint (td P t) (blkOf h (opnd e p)) (opnd e p) (opnd e v) e h).pre) (hd : ∀ t, o.dst = some t -> t < x.k)
    {next : Act -> World -> Prop} {Q : Exit -> Act -> World -> Prop}
    (hK : ∀ a' w', Sat x (dset (storeR hint (td P t) (blkOf h (opnd e p)) (opnd e p) (opnd e v) e h).env o.dst .skipd) (storeR hint (td P t) (blkOf h (opnd e p)) (opnd e p) (opnd e v) e h).heap n a' w' -> next a' w') : o.wp P a w next Q := by
  obtain ⟨S, ρ, s1, s2, hrel, hfx, hE, hkept, hk, hdf, hn, hn0⟩ := hs
  have hvp := hE.opnd p
  have hvv := hE.opnd v
  rw [hpo] at hvp hp hK
  obtain ⟨xss, hvpe, hr, h0, hi⟩ := hvp.po_inv
  have hbk : blkOf h (.po r i) = some (.mat xss) := hr
  rw [hbk] at hp hK
  generalize hva : opnd e v = va at *
  cases va with
  | sl m =>
    simp only [storeR, rowR] at hp hK
    split at hp <;> first | exact hp.elim | skip
    rename_i ys hdt hm
    rw [hdt, hm] at hK
    simp only at hp hK
    obtain ⟨hge, hne⟩ := hp
    have hne : m ≠ r := by simpa using hne
    obtain ⟨v1, ys1, m1, a0, hcv, hm2, hel, ha0⟩ := hvv.sl_inv
    rw [hm] at hm2; cases hm2
    simp only [AV.elems, Option.some.injEq, Prod.mk.injEq] at hel; obtain ⟨rfl, rfl⟩ := hel
    simp only [List.length_map] at hcv
    obtain ⟨c, hc, hsz, hcap, hrows⟩ := hrel.blk r _ hr
    obtain ⟨xs2, m2, cm, he2, hcm, hszm, hcapm, harr⟩ := hrel.blk m _ hm
    simp only [AV.elems, Option.some.injEq, Prod.mk.injEq] at he2; obtain ⟨rfl, rfl⟩ := he2
    simp only [List.length_map, Nat.mul_one] at hcapm hszm
    have hcap0 : ρ.cap r ≠ 0 := by omega
    have hf0 := foot_mat (ρ := ρ) hr hcap0
    obtain ⟨cl, hc⟩ : ∃ el, w.heap[ρ.blk r 0]? = some (.cells c el (0, 0)) := hc hcap0
    have hrun := run_storeAt (P := P) ⟨cl, hc⟩ (t := t) (o := i.toNat) (cv := a.eval v) (.inl ⟨hdt, by rw [(run_isAgg_one (w := w) hdt).2, hcv]; rfl⟩) (by rw [hcv]; simp [Value.cells]; omega) (by rw [hcv]; simp [Value.cells, Value.oneCell'])
    rw [<- hvpe] at hrun
    generalize hcc : (c.toList.take i.toNat ++ (a.eval v).cells.toList ++ c.toList.drop (i.toNat + (a.eval v).cells.toList.length)).toArray = cc at hrun
    have hccq : ∀ q, cc[q]? = if q = i.toNat then some (a.eval v) else c[q]? := fun q => by
      have e1 : (a.eval v).cells.toList = [a.eval v] := by rw [hcv]; rfl
      rw [<- hcc, e1, List.getElem?_toArray]
      simp only [List.length_singleton]
      rw [splice_one _ _ _ _ (by simp; omega)]
      simp
    have hccs : cc.size = c.size := by
      rw [<- hcc, hcv]; simp [Value.cells]; omega
    let ρ' : Rho := ⟨fun q j => if q = r /\ j = i.toNat + 1 then ρ.blk m 0 else ρ.blk q j, ρ.cap, fun q j => if q = r /\ j = i.toNat then ρ.cap m else ρ.rcap q j⟩
    have hHr : Heap.look ((r, .mat (xss.set i.toNat ys)) :: trH (purN [m] [r]) [m, r] h) r = some (.mat (xss.set i.toNat ys)) := by simp [Heap.look]
    have hHo : ∀ q, ¬ (q = r \/ q = m) -> Heap.look ((r, .mat (xss.set i.toNat ys)) :: trH (purN [m] [r]) [m, r] h) q = (h.look q).map (Blk.tr (purN [m] [r])) := fun q hq => by
      rw [not_or] at hq
      simp only [Heap.look]; rw [if_neg (fun e => hq.1 e.symm), trH_look]
      have : memN [m, r] q = false := by
        cases hmm : memN [m, r] q with
        | false => rfl
        | true => have := memN_mem.1 hmm; simp at this; rcases this with h | h <;> simp_all
      rw [this]; rfl
    have hHm : ∀ q, (q = r \/ q = m) -> q ≠ r -> Heap.look ((r, .mat (xss.set i.toNat ys)) :: trH (purN [m] [r]) [m, r] h) q = none := fun q hq hqr => by
      rcases hq with rfl | rfl
      · exact (hqr rfl).elim
      · simp only [Heap.look]; rw [if_neg (fun e => hqr e.symm), trH_look]
        have : memN [q, r] q = true := memN_mem.2 (by simp)
        rw [this]; rfl
    generalize hH' : (r, Blk.mat (xss.set i.toNat ys)) :: trH (purN [m] [r]) [m, r] h = h' at hHr hHo hHm hK
    have bq : ∀ q j, q ≠ r -> ρ'.blk q j = ρ.blk q j := fun q j hq => by simp [ρ', hq]
    have rq : ∀ q j, q ≠ r -> ρ'.rcap q j = ρ.rcap q j := fun q j hq => by simp [ρ', hq]
    have b0 : ρ'.blk r 0 = ρ.blk r 0 := by simp [ρ']
    have bi : ρ'.blk r (i.toNat + 1) = ρ.blk m 0 := by simp [ρ']
    have bo : ∀ j, j ≠ i.toNat -> ρ'.blk r (j + 1) = ρ.blk r (j + 1) := fun j hj => by simp [ρ', hj]
    have ri : ρ'.rcap r i.toNat = ρ.cap m := by simp [ρ']
    have ro : ∀ j, j ≠ i.toNat -> ρ'.rcap r j = ρ.rcap r j := fun j hj => by simp [ρ', hj]
    have cq : ∀ q, ρ'.cap q = ρ.cap q := fun q => rfl
    have hfoot : ∀ j, foot ρ' (Heap.look h') r j -> (j = 0 /\ ρ'.blk r j = ρ.blk r 0) \/ (j = i.toNat + 1 /\ ρ.cap m ≠ 0 /\ ρ'.blk r j = ρ.blk m 0) \/ (j ≠ i.toNat + 1 /\ j ≠ 0 /\ foot ρ h.look r j /\ ρ'.blk r j = ρ.blk r j) := fun j hf => by
      unfold foot at hf
      rw [hHr] at hf
      rcases hf with ⟨rfl, _⟩ | ⟨i', row, rfl, hi', hne'⟩
      · exact .inl ⟨rfl, b0⟩
      · by_cases e' : i' = i.toNat
        · subst e'; rw [ri] at hne'; exact .inr (.inl ⟨rfl, hne', bi⟩)
        · rw [ro i' e'] at hne'
          rw [getElem?_set_list _ _ _ _ hi, if_neg e'] at hi'
          exact .inr (.inr ⟨by omega, by omega, foot_row hr hi' hne', bo i' e'⟩)
    have hother : ∀ b, b ≠ ρ.blk r 0 -> (w.setRow (ρ.blk r 0) cc).heap[b]? = w.heap[b]? := fun b hb => setRow_other w _ _ _ hb
    obtain ⟨g1, g2⟩ := Rel.turn (H' := (Heap.look h')) (ρ' := ρ') (w' := w.setRow (ρ.blk r 0) cc) (φ := purN [m] [r]) (D := fun q => q = r \/ q = m) (k' := .mat (xss.set i.toNat ys)) hrel (r := r) (.inl rfl) hHr hHo hHm
      (fun a1 cv1 hra hv1 => purN_ref hra hv1 (fun n1 n2 n3 => by
        have hqm : a1.rbase ≠ m := by simpa using n1
        by_cases hqr : a1.rbase = r
        · cases hv1 with
          | pure _ _ h => exact (ref_not_pure hra h).elim
          | vec => cases hra
          | agg => cases hra
          | tup => cases hra
          | fn => cases hra
          | sl q v xs m' a2 hr' he ha => simp only [AV.rbase] at hqr; subst hqr; rw [hr] at hr'; cases hr'
          | mt q xss' a2 hr' ha =>
            simp only [AV.rbase] at hqr; subst hqr; rw [hr] at hr'; cases hr'
            have := V.mt (S := S) (ρ := ρ') (H := (Heap.look h')) q _ a2 hHr (by rw [b0]; exact ha)
            simpa using this
          | mr q i' xss' row' cv' hr' h0' hi' h' => simp only [AV.rbase] at hqr n2; have := n2 i'; simp [hqr] at this
          | bx q off cs hr' ho' => simp only [AV.rbase] at hqr; subst hqr; rw [hr] at hr'; cases hr'
          | pa q i' v xs m' hr' he h0' hi' => simp only [AV.rbase] at hqr; subst hqr; rw [hr] at hr'; cases hr'
          | pm q i' j' xss' row' hr' h0' hi' hj0 hj => simp only [AV.rbase] at hqr n3; have := n3 i' j'; simp [hqr] at this
          | po q i' xss' hr' h0' hi' =>
            simp only [AV.rbase] at hqr; subst hqr; rw [hr] at hr'; cases hr'
            have := V.po (S := S) (ρ := ρ') (H := (Heap.look h')) q i' _ hHr h0' (by simpa using hi')
            rwa [b0] at this
        · refine hv1.ref_shape hra (fun k hk => ?_) (fun j => bq _ j hqr) rfl (fun j => rq _ j hqr)
          exact ⟨_, by rw [hHo _ (by rw [not_or]; exact ⟨hqr, hqm⟩), hk]; rfl, same_tr (hrel.blk _ _ hk) _⟩))
      (fun q j hq => bq q j (fun e => hq (.inl e))) (fun q _ => rfl) (fun q j hq => rq q j (fun e => hq (.inl e)))
      (fun b c' ⟨el, hb⟩ hne' => ⟨el, by rw [hother _ (hne' r 0 (.inl rfl) hf0)]; exact hb⟩)
      (fun b c' hb => by
        obtain ⟨el, fr, hb'⟩ := hrel.stab b c' hb
        refine ⟨el, fr, ?_⟩
        rw [hother _ (fun e' => ?_)]; exact hb'
        have := (hrel.owned r 0 hf0).2; rw [<- e', hb] at this; cases this)
      (fun hV => by
        refine ⟨cc, fun _ => by rw [b0]; exact ⟨cl, setRow_heap w _ _ _ _ _ hc⟩, by rw [hccs, hsz], by simpa using hcap, fun j row hj => ⟨?_, fun hne' => ?_⟩⟩
        · rw [getElem?_set_list _ _ _ _ hi] at hj
          rw [hccq]
          split at hj
          · rename_i ej; subst ej; cases hj
            rw [if_pos rfl]
            exact ⟨_, rfl, a0, by rw [ri]; exact hcapm, by rw [hcv, ri], by rw [ri, bi]; exact ha0⟩
          · rename_i ej
            rw [if_neg ej]
            obtain ⟨u, hu, hrow⟩ := (hrows j row hj).1
            exact ⟨u, hu, hrow.keep (bo j ej) (ro j ej)⟩
        · rw [getElem?_set_list _ _ _ _ hi] at hj
          split at hj
          · rename_i ej; subst ej; cases hj
            rw [ri] at hne'
            obtain ⟨elm, hcm⟩ := hcm hne'
            refine ⟨cm, ?_, by rw [ri]; exact hszm, fun q n' hq => ?_⟩
            · rw [bi]
              refine ⟨elm, ?_⟩
              rw [hother _ (fun e' => ?_)]; exact hcm
              exact hne (hrel.sep m 0 r 0 (foot_arr hm hne') hf0 e').1
            · obtain ⟨u, hu, hsu⟩ := harr.2 q (.i n') 0 (.i n') (by rw [List.getElem?_map, hq]; rfl) rfl
              simp only [Nat.mul_one, Nat.add_zero] at hu
              rw [hu]; cases hsu with
              | int => rfl
              | lst _ _ _ _ _ he => simp [AV.elems] at he
          · rename_i ej
            rw [ro j ej] at hne' ⊢
            obtain ⟨d, ⟨el', hd'⟩, h2⟩ := (hrows j row hj).2 hne'
            refine ⟨d, ?_, h2⟩
            rw [bo j ej]
            refine ⟨el', ?_⟩
            rw [hother _ (fun e' => ?_)]; exact hd'
            have := (hrel.sep r (j + 1) r 0 (foot_row hr hj hne') hf0 e').2
            omega)
      (fun j hf => by
        rcases hfoot j hf with ⟨rfl, e'⟩ | ⟨rfl, hm0, e'⟩ | ⟨_, _, hf', e'⟩
        · rw [e']
          obtain ⟨o1, o2⟩ := hrel.owned r 0 hf0
          exact ⟨o1, o2, fun q i' hq hfq e'' => hq (.inl (hrel.sep _ _ _ _ hfq hf0 e'').1)⟩
        · rw [e']
          obtain ⟨o1, o2⟩ := hrel.owned m 0 (foot_arr hm hm0)
          exact ⟨o1, o2, fun q i' hq hfq e'' => hq (.inr (hrel.sep _ _ _ _ hfq (foot_arr hm hm0) e'').1)⟩
        · rw [e']
          obtain ⟨o1, o2⟩ := hrel.owned r j hf'
          exact ⟨o1, o2, fun q i' hq hfq e'' => hq (.inl (hrel.sep _ _ _ _ hfq hf' e'').1)⟩)
      (fun j j' h1 h2 e' => by
        rcases hfoot j h1 with ⟨rfl, e1⟩ | ⟨rfl, hm1, e1⟩ | ⟨hj1, hj2, hf1, e1⟩ <;> rcases hfoot j' h2 with ⟨rfl, e2⟩ | ⟨rfl, hm2, e2⟩ | ⟨hj1', hj2', hf2, e2⟩ <;> (replace e' := e1.symm.trans (e'.trans e2))
        · rfl
        · exact (hne (hrel.sep _ _ _ _ (foot_arr hm hm2) hf0 e'.symm).1).elim
        · exact (hj2' (hrel.sep _ _ _ _ hf0 hf2 e').2.symm).elim
        · exact (hne (hrel.sep _ _ _ _ (foot_arr hm hm1) hf0 e').1).elim
        · rfl
        · exact (hne (hrel.sep _ _ _ _ (foot_arr hm hm1) hf2 e').1).elim
        · exact (hj2 (hrel.sep _ _ _ _ hf1 hf0 e').2).elim
        · exact (hne (hrel.sep _ _ _ _ (foot_arr hm hm2) hf1 e'.symm).1).elim
        · exact (hrel.sep _ _ _ _ hf1 hf2 e').2)
    unfold Oper.wp
    have : (execOp a.eval o).run P w = .ok .skip (w.setRow (ρ.blk r 0) cc) := by simp [execOp, ho, hrun]
    rw [this]
    have hn' : ∀ q, (Heap.look h') q ≠ none -> h.look q ≠ none := fun q hq => by
      by_cases e1 : q = r
      · subst e1; rw [hr]; simp
      · by_cases e2 : q = m
        · rw [hHm q (.inr e2) e1] at hq; exact (hq rfl).elim
        · rw [hHo q (by rw [not_or]; exact ⟨e1, e2⟩)] at hq
          intro e3; rw [e3] at hq; exact hq rfl
    refine hK _ _ ⟨S, ρ', s1, s2, g1, fun q h1 h2 => ?_, EnvRel.put (fun t => by rw [trE_get _ _ _ rfl]; exact g2 _ _ (hE t)) (.pure _ _ .skipd) (fun t ht => by rw [hk]; exact hd t ht), hkept.write (hrel.owned r 0 hf0).1 _, by rw [put_size]; exact hk, by rw [put_defers]; exact hdf, fun q hq => hn q (hn' q hq), hn0⟩
    have hqr : q ≠ r := fun e1 => by omega
    obtain ⟨f1, f2, f3⟩ := hfx q h1 (hn' q h2)
    exact ⟨fun j => by rw [bq q j hqr, f1], f2, fun j => by rw [rq q j hqr, f3]⟩
  | _ => exact hp.elim
end
end Go.Vc
namespace Go.Vc
open Go.RowKit
section
variable {P : Program} {hint : Hint}
theorem V.vec_inv {S : Store} {ρ : Rho} {H : HF} {cs : List AV} {cv : Value} (h : V S ρ H (.vec cs) cv) : ∃ (a : Option Addr) (b off : Nat) (c : Array Value) (vals : Nat -> Value) (cap : Nat), cv = .slice a cs.length cap /\ (cs ≠ [] -> a = some ⟨b, off, none⟩ /\ S b = some c) /\ cs.length <= cap /\
    (∀ (j : Nat) x, cs[j]? = some x -> c[off + j]? = some (vals j)) /\ ∀ (j : Nat) x, cs[j]? = some x -> V S ρ H x (vals j) := by
  cases h with
  | pure _ _ h => cases h with | lst _ _ _ _ _ he => simp [AV.elems] at he
  | vec _ a b off c vals cap hrow hcap hc h => exact ⟨a, b, off, c, vals, cap, rfl, hrow, hcap, hc, h⟩
structure Rows (P : Program) (S : Store) (ρ : Rho) (H : HF) (w : World) (tx : TypeId) (cv : Value) (m : Nat) (yss : List (List Int)) (news : List Value) (jS capS : Nat -> Nat) : Prop where
  src : Src P 1 tx cv yss.length news w
  row : ∀ (k : Nat) row, yss[k]? = some row -> ∃ ad, news[k]? = some (.slice ad row.length (capS k)) /\ row.length <= capS k /\ (capS k ≠ 0 -> ad = some ⟨ρ.blk m (jS k), 0, none⟩ /\ foot ρ H m (jS k) /\
    ∃ d, OwnCells w (ρ.blk m (jS k)) d /\ d.size = capS k /\ ∀ (j : Nat) (n : Int), row[j]? = some n -> d[j]? = some (Value.int .i64 n))
  inj : ∀ k k', jS k = jS k' -> k < yss.length -> k' < yss.length -> k = k'
theorem appRows {x : Cx} {e : Env} {h : Heap} {n : Nat} {a : Act} {w : World} {s y : Operand} {ts tx : TypeId} {o : Oper} (ho : o.op = .call ⟨.builtin .append, ⟨[s, y]⟩, ⟨[ts, tx]⟩⟩) (hs : Sat x e h n a w)
    {r m : Nat} {xss yss : List (List Int)} (hr : h.look r = some (.mat xss)) (hne : m ≠ r) (hge : x.n0 <= r) (hap : apP (ap P ts) 1 (xss.length + yss.length)) (hse : opnd e s = .mt r)
    (hsrc : ∀ S ρ, Rel x.own S ρ h.look w -> EnvRel S ρ h.look e a -> ∃ news jS capS, Rows P S ρ h.look w tx (a.eval y) m yss news jS capS)
    (hd : ∀ t, o.dst = some t -> t < x.k)
    {next : Act -> World -> Prop} {Q : Exit -> Act -> World -> Prop}
    (hK : ∀ a' w', Sat x (dset (trE (purN [r, m] []) e) o.dst (.mt r)) ((r, .mat (xss ++ yss)) :: trH (purN [r, m] []) [m, r] h) n a' w' -> next a' w') : o.wp P a w next Q := by
  obtain ⟨S, ρ, s1, s2, hrel, hfx, hE, hkept, hk, hdf, hn, hn0⟩ := hs
  obtain ⟨news, jS, capS, hR⟩ := hsrc S ρ hrel hE
  have hvs := hE.opnd s
  rw [hse] at hvs
  obtain ⟨xss1, a0, hval, hr1, ha0⟩ := hvs.mt_inv
  rw [hr] at hr1; cases hr1
  obtain ⟨c, hc, hsz, hcap, hrows⟩ := hrel.blk r _ hr
  unfold apP at hap
  split at hap <;> first | exact hap.elim | skip
  rename_i k b hz
  obtain ⟨rfl, hbytes⟩ := hap
  obtain ⟨el, i, z, ht, hi, hzero, hzs, hsize, hby⟩ := ap_spec hz
  have hnl := hR.src.newsLen
  rw [Nat.mul_one] at hnl
  have hbytes2 : (xss.length + yss.length) * b <= 140737488355328 := Nat.le_trans (Nat.mul_le_mul_left _ (Nat.le_succ b)) hbytes
  have hl1 : xss.length + yss.length <= 140737488355328 := Nat.le_trans (Nat.le_mul_of_pos_right _ (Nat.succ_pos b)) hbytes
  generalize hH' : (r, Blk.mat (xss ++ yss)) :: trH (purN [r, m] []) [m, r] h = h' at hK
  have hHr : Heap.look h' r = some (.mat (xss ++ yss)) := by rw [<- hH']; simp [Heap.look]
  have hHo : ∀ q, ¬ (q = r \/ q = m) -> Heap.look h' q = (h.look q).map (Blk.tr (purN [r, m] [])) := fun q hq => by
    rw [not_or] at hq
    rw [<- hH']
    simp only [Heap.look]; rw [if_neg (fun e => hq.1 e.symm), trH_look]
    have : memN [m, r] q = false := by
      cases hmm : memN [m, r] q with
      | false => rfl
      | true => have := memN_mem.1 hmm; simp at this; rcases this with h | h <;> simp_all
    rw [this]; rfl
  have hHm : ∀ q, (q = r \/ q = m) -> q ≠ r -> Heap.look h' q = none := fun q hq hqr => by
    rcases hq with rfl | rfl
    · exact (hqr rfl).elim
    · rw [<- hH']
      simp only [Heap.look]; rw [if_neg (fun e => hqr e.symm), trH_look]
      have : memN [q, r] q = true := memN_mem.2 (by simp)
      rw [this]; rfl
  have hn' : ∀ q, Heap.look h' q ≠ none -> h.look q ≠ none := fun q hq => by
    by_cases e1 : q = r
    · subst e1; rw [hr]; simp
    · by_cases e2 : q = m
      · rw [hHm q (.inr e2) e1] at hq; exact (hq rfl).elim
      · rw [hHo q (by rw [not_or]; exact ⟨e1, e2⟩)] at hq
        intro e3; rw [e3] at hq; exact hq rfl
  -- the relation behind it, wherever the header lies
  have core : ∀ (hb hc' : Nat) (cc : Array Value) (w' : World), (hc' ≠ 0 -> OwnCells w' hb cc) -> cc.size = hc' -> xss.length + yss.length <= hc' -> (∀ q, q < xss.length -> cc[q]? = c[q]?) -> (∀ q, q < yss.length -> cc[xss.length + q]? = news[q]?) ->
      (hc' ≠ 0 -> x.own hb /\ S hb = none /\ ∀ q j, foot ρ h.look q j -> ¬ (q = r /\ j = 0) -> ρ.blk q j ≠ hb) -> (∀ b c, OwnCells w b c -> (ρ.cap r ≠ 0 -> b ≠ ρ.blk r 0) -> OwnCells w' b c) -> (∀ b c, S b = some c -> CellsIn w' b c) ->
      ∃ ρ' : Rho, ρ'.cap r = hc' /\ ρ'.blk r 0 = hb /\ (∀ q, q ≠ r -> (∀ j, ρ'.blk q j = ρ.blk q j) /\ ρ'.cap q = ρ.cap q /\ ∀ i, ρ'.rcap q i = ρ.rcap q i) /\ Rel x.own S ρ' (Heap.look h') w' /\ ∀ u cv, V S ρ h.look u cv -> V S ρ' (Heap.look h') (u.tr (purN [r, m] [])) cv := by
    intro hb hc' cc w' hcc hccs hle hold hnew hhb hw hs
    let ρ' : Rho := ⟨fun q j => if q = r then (if j = 0 then hb else if j - 1 < xss.length then ρ.blk r j else ρ.blk m (jS (j - 1 - xss.length))) else ρ.blk q j, fun q => if q = r then hc' else ρ.cap q,
      fun q i => if q = r then (if i < xss.length then ρ.rcap r i else capS (i - xss.length)) else ρ.rcap q i⟩
    have bq : ∀ q j, q ≠ r -> ρ'.blk q j = ρ.blk q j := fun q j hq => by simp [ρ', hq]
    have cq : ∀ q, q ≠ r -> ρ'.cap q = ρ.cap q := fun q hq => by simp [ρ', hq]
    have rq : ∀ q j, q ≠ r -> ρ'.rcap q j = ρ.rcap q j := fun q j hq => by simp [ρ', hq]
    have b0 : ρ'.blk r 0 = hb := by simp [ρ']
    have c0 : ρ'.cap r = hc' := by simp [ρ']
    have bo : ∀ j, j < xss.length -> ρ'.blk r (j + 1) = ρ.blk r (j + 1) := fun j hj => by simp [ρ', hj]
    have bn : ∀ j, ¬ j < xss.length -> ρ'.blk r (j + 1) = ρ.blk m (jS (j - xss.length)) := fun j hj => by simp [ρ', hj]
    have ro : ∀ j, j < xss.length -> ρ'.rcap r j = ρ.rcap r j := fun j hj => by simp [ρ', hj]
    have rn : ∀ j, ¬ j < xss.length -> ρ'.rcap r j = capS (j - xss.length) := fun j hj => by simp [ρ', hj]
    have hfoot : ∀ j, foot ρ' (Heap.look h') r j -> (j = 0 /\ hc' ≠ 0) \/ (j ≠ 0 /\ j - 1 < xss.length /\ foot ρ h.look r j /\ ρ'.blk r j = ρ.blk r j) \/ (j ≠ 0 /\ ¬ j - 1 < xss.length /\ j - 1 - xss.length < yss.length /\ foot ρ h.look m (jS (j - 1 - xss.length)) /\ ρ'.blk r j = ρ.blk m (jS (j - 1 - xss.length))) := fun j hf => by
      unfold foot at hf
      rw [hHr] at hf
      rcases hf with ⟨rfl, h0⟩ | ⟨i', row, rfl, hi', hne'⟩
      · rw [c0] at h0; exact .inl ⟨rfl, h0⟩
      · by_cases e' : i' < xss.length
        · rw [ro i' e'] at hne'
          rw [List.getElem?_append_left e'] at hi'
          exact .inr (.inl ⟨by omega, by simpa using e', foot_row hr hi' hne', bo i' e'⟩)
        · rw [rn i' e'] at hne'
          rw [List.getElem?_append_right (by omega)] at hi'
          obtain ⟨ad, _, _, h3⟩ := hR.row _ _ hi'
          exact .inr (.inr ⟨by omega, by simpa using e', by simpa using (List.getElem?_eq_some_iff.1 hi').1, by simpa using (h3 hne').2.1, by simpa using bn i' e'⟩)
    have g := Rel.turn (H' := Heap.look h') (ρ' := ρ') (w' := w') (φ := purN [r, m] []) (D := fun q => q = r \/ q = m) (k' := .mat (xss ++ yss)) hrel (r := r) (.inl rfl) hHr hHo hHm
      (fun a1 cv1 hra hv1 => purN_ref hra hv1 (fun n1 n2 n3 => by
        have hqr : a1.rbase ≠ r := fun e => n1 (by simp [e])
        have hqm : a1.rbase ≠ m := fun e => n1 (by simp [e])
        refine hv1.ref_shape hra (fun k hk => ?_) (fun j => bq _ j hqr) (cq _ hqr) (fun j => rq _ j hqr)
        exact ⟨_, by rw [hHo _ (by rw [not_or]; exact ⟨hqr, hqm⟩), hk]; rfl, same_tr (hrel.blk _ _ hk) _⟩))
      (fun q j hq => bq q j (fun e => hq (.inl e))) (fun q hq => cq q (fun e => hq (.inl e))) (fun q j hq => rq q j (fun e => hq (.inl e)))
      (fun b c' hb hne' => hw b c' hb (fun h0 => hne' r 0 (.inl rfl) (foot_mat hr h0))) hs
      (fun hV => by
        refine ⟨cc, fun h0 => by rw [b0]; rw [c0] at h0; exact hcc h0, by rw [c0]; exact hccs, by rw [c0]; simpa using hle, fun j row hj => ⟨?_, fun hne' => ?_⟩⟩
        · by_cases ej : j < xss.length
          · rw [List.getElem?_append_left ej] at hj
            obtain ⟨u, hu, hrow⟩ := (hrows j row hj).1
            exact ⟨u, by rw [hold j ej]; exact hu, hrow.keep (bo j ej) (ro j ej)⟩
          · rw [List.getElem?_append_right (by omega)] at hj
            obtain ⟨ad, h1, h2, h3⟩ := hR.row _ _ hj
            have hlt := (List.getElem?_eq_some_iff.1 hj).1
            refine ⟨_, ?_, ad, by rw [rn j ej]; exact h2, by rw [rn j ej], fun h0 => by rw [rn j ej] at h0; rw [bn j ej]; exact (h3 h0).1⟩
            have := hnew (j - xss.length) hlt
            rw [show xss.length + (j - xss.length) = j by omega, h1] at this
            exact this
        · by_cases ej : j < xss.length
          · rw [List.getElem?_append_left ej] at hj
            rw [ro j ej] at hne' ⊢
            obtain ⟨d, hd', h2⟩ := (hrows j row hj).2 hne'
            refine ⟨d, ?_, h2⟩
            rw [bo j ej]
            refine hw _ _ hd' (fun h0 e' => ?_)
            have := (hrel.sep r (j + 1) r 0 (foot_row hr hj hne') (foot_mat hr h0) e').2
            omega
          · rw [List.getElem?_append_right (by omega)] at hj
            obtain ⟨ad, h1, h2, h3⟩ := hR.row _ _ hj
            rw [rn j ej] at hne' ⊢
            obtain ⟨_, hf, d, hd', h4⟩ := h3 hne'
            refine ⟨d, ?_, h4⟩
            rw [bn j ej]
            exact hw _ _ hd' (fun h0 e' => hne (hrel.sep _ _ _ _ hf (foot_mat hr h0) e').1))
      (fun j hf => by
        rcases hfoot j hf with ⟨rfl, h0⟩ | ⟨hj0, hj, hf', e'⟩ | ⟨hj0, hj, _, hf', e'⟩
        · rw [b0]
          obtain ⟨o1, o2, o3⟩ := hhb h0
          exact ⟨o1, o2, fun q i' hq hfq => o3 q i' hfq (fun e => hq (.inl e.1))⟩
        · rw [e']
          obtain ⟨o1, o2⟩ := hrel.owned r j hf'
          exact ⟨o1, o2, fun q i' hq hfq e'' => hq (.inl (hrel.sep _ _ _ _ hfq hf' e'').1)⟩
        · rw [e']
          obtain ⟨o1, o2⟩ := hrel.owned m _ hf'
          exact ⟨o1, o2, fun q i' hq hfq e'' => hq (.inr (hrel.sep _ _ _ _ hfq hf' e'').1)⟩)
      (fun j j' h1 h2 e' => by
        rcases hfoot j h1 with ⟨rfl, h0⟩ | ⟨hj0, hj, hf1, e1⟩ | ⟨hj0, hj, hjl, hf1, e1⟩ <;> rcases hfoot j' h2 with ⟨rfl, h0'⟩ | ⟨hj0', hj', hf2, e2⟩ | ⟨hj0', hj', hjl', hf2, e2⟩
        · rfl
        · exact ((hhb h0).2.2 _ _ hf2 (fun e => hj0' e.2) (by rw [<- e2, <- e', b0])).elim
        · exact ((hhb h0).2.2 _ _ hf2 (fun e => hne e.1) (by rw [<- e2, <- e', b0])).elim
        · exact ((hhb h0').2.2 _ _ hf1 (fun e => hj0 e.2) (by rw [<- e1, e', b0])).elim
        · exact (hrel.sep _ _ _ _ hf1 hf2 (e1.symm.trans (e'.trans e2))).2
        · exact (hne (hrel.sep _ _ _ _ hf2 hf1 (e1.symm.trans (e'.trans e2)).symm).1).elim
        · exact ((hhb h0').2.2 _ _ hf1 (fun e => hne e.1) (by rw [<- e1, e', b0])).elim
        · exact (hne (hrel.sep _ _ _ _ hf1 hf2 (e1.symm.trans (e'.trans e2))).1).elim
        · have := hR.inj _ _ (hrel.sep _ _ _ _ hf1 hf2 (e1.symm.trans (e'.trans e2))).2 hjl hjl'
          omega)
    exact ⟨ρ', c0, b0, fun q hq => ⟨fun j => bq q j hq, cq q hq, fun j => rq q j hq⟩, g.1, g.2⟩
  have fin : ∀ (ρ' : Rho) (w' : World) (a1 : Option Addr), (Builtin.append_ #[ts, tx] o.type #[a.eval s, a.eval y]).run P w = .ok (.slice a1 (xss.length + yss.length) (ρ'.cap r)) w' -> (ρ'.cap r ≠ 0 -> a1 = some ⟨ρ'.blk r 0, 0, none⟩) ->
      (∀ q, q ≠ r -> (∀ j, ρ'.blk q j = ρ.blk q j) /\ ρ'.cap q = ρ.cap q /\ ∀ i, ρ'.rcap q i = ρ.rcap q i) -> Rel x.own S ρ' (Heap.look h') w' -> (∀ u cv, V S ρ h.look u cv -> V S ρ' (Heap.look h') (u.tr (purN [r, m] [])) cv) -> Kept x.own x.W w' -> o.wp P a w next Q := by
    intro ρ' w' a1 hr' ha1 hfix hrel' hV hkept'
    unfold Oper.wp
    have : (execOp a.eval o).run P w = .ok (.value (.slice a1 (xss.length + yss.length) (ρ'.cap r))) w' := by simp [execOp, ho, resolve, invoke, builtin, hr']
    rw [this]
    have hv : V S ρ' (Heap.look h') (.mt r) (.slice a1 (xss.length + yss.length) (ρ'.cap r)) := by
      have := V.mt (S := S) (ρ := ρ') (H := Heap.look h') r _ a1 hHr ha1
      simpa using this
    refine hK _ _ ⟨S, ρ', s1, s2, hrel', fun q h1 h2 => ?_, EnvRel.put (fun t => by rw [trE_get _ _ _ rfl]; exact hV _ _ (hE t)) hv (fun t ht => by rw [hk]; exact hd t ht), hkept', by rw [put_size]; exact hk, by rw [put_defers]; exact hdf, fun q hq => hn q (hn' q hq), hn0⟩
    have hqr : q ≠ r := fun e1 => by omega
    obtain ⟨g1, g2, g3⟩ := hfix q hqr
    obtain ⟨f1, f2, f3⟩ := hfx q h1 (hn' q h2)
    exact ⟨fun j => by rw [g1, f1], by rw [g2, f2], fun j => by rw [g3, f3]⟩
  rw [hval] at fin
  have hsrc1 : Src P i.size tx (a.eval y) yss.length news w := by rw [hsize]; exact hR.src
  by_cases hroom : xss.length + yss.length <= ρ.cap r
  · by_cases hc0 : ρ.cap r = 0
    · have hx0 : xss = [] := List.length_eq_zero_iff.1 (by omega)
      have hy0 : yss = [] := List.length_eq_zero_iff.1 (by omega)
      subst hx0; subst hy0
      have hn0' : news = [] := List.length_eq_zero_iff.1 (by rw [hnl]; simp)
      subst hn0'
      obtain ⟨ρ', e1, e2, e3, g1, g2⟩ := core 0 0 #[] w (fun h => (h rfl).elim) rfl (by simp) (fun q hq => by simp at hq) (fun q hq => by simp at hq) (fun h => (h rfl).elim) (fun b c hb _ => hb) hrel.stab
      have hrun := run_append_nothing (P := P) w ts tx o.type el i ht hi a0 0 (ρ.cap r) (Nat.zero_le _) (a.eval y) hsrc1
      exact fin ρ' w a0 (by simp only [List.length_nil, Nat.add_zero] at hrun ⊢; rw [hc0] at hrun ⊢; rw [e1]; exact hrun) (fun h0 => (h0 e1).elim) e3 g1 g2 hkept
    · have ha := ha0 hc0
      subst ha
      have hcc := hc hc0
      have hfit : xss.length + news.length <= c.size := by rw [hnl, hsz]; exact hroom
      have hrun := run_append_room (P := P) ts tx o.type el i ht hi hcc xss.length (ρ.cap r) (a.eval y) yss.length news hsrc1 hroom (by rw [hsize, Nat.mul_one]; exact hfit)
      rw [hsize, Nat.mul_one] at hrun
      have hg2 : ∀ q, (c.toList.take xss.length ++ news ++ c.toList.drop (xss.length + news.length)).toArray[q]? = if xss.length <= q /\ q < xss.length + news.length then news[q - xss.length]? else c[q]? := fun q => by
        rw [List.getElem?_toArray, getElem?_splice _ _ _ _ (by simpa using hfit)]
        simp
      have hf0 := foot_mat (ρ := ρ) hr hc0
      obtain ⟨el', hg⟩ := hcc
      obtain ⟨ρ', e1, e2, e3, g1, g2⟩ := core (ρ.blk r 0) (ρ.cap r) _ (w.setRow (ρ.blk r 0) (c.toList.take xss.length ++ news ++ c.toList.drop (xss.length + news.length)).toArray)
        (fun _ => ⟨el', setRow_heap w _ _ _ _ _ hg⟩) (by simp; omega) hroom (fun q hq => by rw [hg2, if_neg (by omega)]) (fun q hq => by rw [hg2, if_pos (by omega)]; congr 1; omega)
        (fun _ => ⟨(hrel.owned r 0 hf0).1, (hrel.owned r 0 hf0).2, fun q j hf hnq e' => hnq (hrel.sep _ _ _ _ hf hf0 e')⟩)
        (fun b c' ⟨el'', hb⟩ hne' => ⟨el'', by rw [setRow_other _ _ _ _ (hne' hc0)]; exact hb⟩)
        (fun b c' hb => by
          obtain ⟨el'', fr, hb'⟩ := hrel.stab b c' hb
          refine ⟨el'', fr, ?_⟩
          rw [setRow_other _ _ _ _ (fun e' => ?_)]; exact hb'
          have := (hrel.owned r 0 hf0).2; rw [<- e', hb] at this; cases this)
      exact fin ρ' _ _ (by rw [e1]; exact hrun) (fun _ => by rw [e2]) e3 g1 g2 (hkept.write (hrel.owned r 0 hf0).1 _)
  · have hold : (Builtin.firstCells i.size xss.length (.slice a0 xss.length (ρ.cap r))).run P w.drew = .ok (c.toList.take xss.length).toArray w.drew := by
      by_cases hc0 : ρ.cap r = 0
      · have hx0 : xss = [] := List.length_eq_zero_iff.1 (by omega)
        subst hx0
        cases a0 with
        | none => simpa using run_firstCells_none (P := P) w.drew i.size 0 0 (ρ.cap r)
        | some a0 => simpa using run_firstCells_some (P := P) w.drew i.size 0 a0 0 (ρ.cap r) [] (by simp) (fun j u hu => by simp at hu)
      · have ha := ha0 hc0
        subst ha
        obtain ⟨el', hg⟩ := hc hc0
        refine run_firstCells_some (P := P) w.drew i.size xss.length _ _ _ _ (by rw [hsize, List.length_take]; simp only [Array.length_toList]; rw [hsz, Nat.mul_one]; exact Nat.min_eq_left hcap) (fun j u hu => ?_)
        rw [List.getElem?_take] at hu
        split at hu
        · rw [Addr.add_lit]
          simp only [Nat.zero_add]
          have : w.cell? ⟨ρ.blk r 0, j, none⟩ = c[j]? := (OwnCells.cellsIn ⟨el', hg⟩).cell j
          have e2 : w.drew.cell? ⟨ρ.blk r 0, j, none⟩ = w.cell? ⟨ρ.blk r 0, j, none⟩ := rfl
          rw [e2, this]; simpa using hu
        · cases hu
    have hrun := run_append_grow_src (P := P) w ts tx o.type el i z ht hi hzero a0 xss.length (ρ.cap r) _ hold (a.eval y) yss.length news hsrc1 (by omega) (by omega) (by rw [hby]; exact growslice_fits (by omega) hbytes2)
    have hgc := grownCap_ge w (xss.length + yss.length) (ρ.cap r) el
    generalize hgcap : grownCap w (xss.length + yss.length) (ρ.cap r) el = gc at hrun hgc
    have hxl : (c.toList.take xss.length).length = xss.length := by
      rw [List.length_take]; simp only [Array.length_toList]; rw [hsz]; exact Nat.min_eq_left hcap
    have hzl : (Builtin.zeroCells z.cells (gc - (xss.length + yss.length))).size = gc - (xss.length + yss.length) := by simp [Builtin.zeroCells, hzs]
    generalize hcc : (c.toList.take xss.length ++ news).toArray ++ Builtin.zeroCells z.cells (gc - (xss.length + yss.length)) = cc at hrun
    have hccs : cc.size = gc := by
      rw [<- hcc]; simp only [Array.size_append, List.size_toArray, List.length_append, hxl, hzl, hnl]; omega
    have hcq : ∀ q, q < xss.length -> cc[q]? = c[q]? := fun q hq => by
      rw [<- hcc, Array.getElem?_append_left (by simp only [List.size_toArray, List.length_append, hxl]; omega), List.getElem?_toArray, List.getElem?_append_left (by rw [hxl]; exact hq), List.getElem?_take, if_pos hq]; simp
    have hcn : ∀ q, q < yss.length -> cc[xss.length + q]? = news[q]? := fun q hq => by
      rw [<- hcc, Array.getElem?_append_left (by simp only [List.size_toArray, List.length_append, hxl]; omega), List.getElem?_toArray, List.getElem?_append_right (by rw [hxl]; omega), hxl]
      congr 1; omega
    obtain ⟨ρ', e1, e2, e3, g1, g2⟩ := core w.heap.size gc cc (w.drew.alloc (.cells cc el))
      (fun _ => ⟨el, by show (w.heap.push (.cells cc el))[w.heap.size]? = some _; simp⟩) hccs hgc hcq hcn
      (fun _ => ⟨x.hown _ hkept.size, hrel.store_new, fun q j hf _ e' => by have := hrel.foot_lt hf; omega⟩)
      (fun b c' ⟨el', hb⟩ _ => ⟨el', by rw [Below.heap_alloc _ _ _ (show b < w.drew.heap.size from (Array.getElem?_eq_some_iff.1 hb).1)]; exact hb⟩)
      (fun b c' hb => by
        obtain ⟨el', fr, hb'⟩ := hrel.stab b c' hb
        exact ⟨el', fr, by rw [Below.heap_alloc _ _ _ (show b < w.drew.heap.size from (Array.getElem?_eq_some_iff.1 hb').1)]; exact hb'⟩)
    exact fin ρ' _ _ (by rw [e1]; exact hrun) (fun _ => by rw [e2]) e3 g1 g2 ((hkept.drew (w.drawn + 1)).alloc _)
theorem appM_ok {x : Cx} (hx0 : x.n0 <= hint.n0) {e : Env} {h : Heap} {n : Nat} {a : Act} {w : World} {s y : Operand} {ts tx : TypeId} {o : Oper} (ho : o.op = .call ⟨.builtin .append, ⟨[s, y]⟩, ⟨[ts, tx]⟩⟩) (hs : Sat x e h n a w)
    (hp : (appM hint P ts tx (opnd e s) (blkOf h (opnd e s)) (opnd e y) e h).pre) (hd : ∀ t, o.dst = some t -> t < x.k)
    {next : Act -> World -> Prop} {Q : Exit -> Act -> World -> Prop}
    (hK : ∀ a' w', Sat x (dset (appM hint P ts tx (opnd e s) (blkOf h (opnd e s)) (opnd e y) e h).env o.dst (opnd e s)) (appM hint P ts tx (opnd e s) (blkOf h (opnd e s)) (opnd e y) e h).heap n a' w' -> next a' w') : o.wp P a w next Q := by
  unfold appM at hp hK
  split at hp <;> first | exact hp.elim | skip
  · rename_i r xss m hse hbk hye
    have hr : h.look r = some (.mat xss) := by rw [hse] at hbk; exact hbk
    rw [hse, hye] at hK
    have hbk' : blkOf h (.mt r) = some (.mat xss) := hr
    rw [hbk'] at hK
    simp only at hK
    split at hp <;> first | exact hp.elim | skip
    rename_i ys hm
    rw [hm] at hK
    simp only at hp hK
    obtain ⟨⟨hge, hne⟩, hap, e', ht⟩ := hp
    have hne : m ≠ r := by simpa using hne
    refine appRows ho hs hr hne (by omega) (by simpa using hap) hse (fun S ρ hrel hE => ?_) hd hK
    have hvy := hE.opnd y
    rw [hye] at hvy
    obtain ⟨ad, b, off, c, vals, cap, hcv, hrow, hcap, hc, hv⟩ := hvy.vec_inv
    · rw [hcv]
      have hv0 := hv 0 (.sl m) rfl
      have hc0 := hc 0 (.sl m) rfl
      obtain ⟨rfl, hS⟩ := hrow (by simp)
      obtain ⟨v1, ys1, m1, a1, he0, hm2, hel, ha1⟩ := hv0.sl_inv
      rw [hm] at hm2; cases hm2
      simp only [AV.elems, Option.some.injEq, Prod.mk.injEq] at hel; obtain ⟨rfl, rfl⟩ := hel
      obtain ⟨xs2, m2, cm, he2, hcm, hszm, hcapm, harr⟩ := hrel.blk m _ hm
      simp only [AV.elems, Option.some.injEq, Prod.mk.injEq] at he2; obtain ⟨rfl, rfl⟩ := he2
      simp only [List.length_map, Nat.mul_one] at hcapm hszm he0
      refine ⟨[vals 0], fun _ => 0, fun _ => ρ.cap m, ?_, fun k row hk => ?_, fun k k' _ h1 h2 => by simp at h1 h2; omega⟩
      · refine Src.ofSlice w ht ⟨b, off, none⟩ 1 cap [vals 0] rfl (fun j u hu => ?_) (fun u hu => ?_)
        · cases j with
          | zero =>
            simp at hu; subst hu
            rw [Addr.add_lit]
            rw [Nat.add_zero] at hc0 ⊢
            exact ((hrel.stab b c hS).cell off).trans hc0
          | succ j => simp at hu
        · simp at hu; subst hu; rw [he0]; rfl
      · cases k with
        | succ k => simp at hk
        | zero =>
          simp at hk; subst hk
          refine ⟨a1, by simp [he0], hcapm, fun h0 => ⟨ha1 h0, foot_arr hm h0, cm, hcm h0, hszm, fun j n' hj => ?_⟩⟩
          obtain ⟨u, hu, hsu⟩ := harr.2 j (.i n') 0 (.i n') (by rw [List.getElem?_map, hj]; rfl) rfl
          simp only [Nat.mul_one, Nat.add_zero] at hu
          rw [hu]; cases hsu with
          | int => rfl
          | lst _ _ _ _ _ he => simp [AV.elems] at he
  · rename_i r xss m hse hbk hye
    have hr : h.look r = some (.mat xss) := by rw [hse] at hbk; exact hbk
    rw [hse, hye] at hK
    have hbk' : blkOf h (.mt r) = some (.mat xss) := hr
    rw [hbk'] at hK
    simp only at hK
    split at hp <;> first | exact hp.elim | skip
    rename_i yss hm
    rw [hm] at hK
    simp only at hp hK
    obtain ⟨⟨hge, hne⟩, hap, e', ht⟩ := hp
    have hne : m ≠ r := by simpa using hne
    refine appRows ho hs hr hne (by omega) hap hse (fun S ρ hrel hE => ?_) hd hK
    have hvy := hE.opnd y
    rw [hye] at hvy
    obtain ⟨yss1, ad, hcv, hm1, had⟩ := hvy.mt_inv
    rw [hm] at hm1; cases hm1
    obtain ⟨c, hc, hsz, hcap, hrows⟩ := hrel.blk m _ hm
    rw [hcv]
    have hcell : ∀ k, k < yss.length -> ∃ a1, c[k]? = some (.slice a1 (yss[k]?.getD []).length (ρ.rcap m k)) /\ (yss[k]?.getD []).length <= ρ.rcap m k /\ (ρ.rcap m k ≠ 0 -> a1 = some ⟨ρ.blk m (k + 1), 0, none⟩) := fun k hk => by
      have hy : yss[k]? = some yss[k] := by simp [hk]
      obtain ⟨u, hu, a1, h1, rfl, h2⟩ := (hrows k _ hy).1
      rw [hy]
      exact ⟨a1, hu, h1, h2⟩
    refine ⟨c.toList.take yss.length, fun k => k + 1, fun k => ρ.rcap m k, ?_, fun k row hk => ?_, fun k k' h _ _ => by simpa using h⟩
    · have hl : (c.toList.take yss.length).length = yss.length := by rw [List.length_take]; simp only [Array.length_toList]; omega
      by_cases h0 : ρ.cap m = 0
      · have hy0 : yss = [] := List.length_eq_zero_iff.1 (by omega)
        subst hy0
        cases ad with
        | none => simpa using Src.ofNil w ht (ρ.cap m)
        | some ad => exact Src.ofSlice w ht ad 0 _ [] (by simp) (fun j u h => by simp at h) (fun u h => by cases h)
      · rw [had h0]
        refine Src.ofSlice w ht _ yss.length _ _ (by rw [hl, Nat.mul_one]) (fun j u hu => ?_) (fun u hu => ?_)
        · rw [Addr.add_lit]
          simp only [Nat.zero_add]
          rw [((hc h0).cellsIn).cell j]
          rw [List.getElem?_take] at hu
          split at hu
          · simpa using hu
          · cases hu
        · obtain ⟨j, hj⟩ := List.mem_iff_getElem?.1 hu
          rw [List.getElem?_take] at hj
          split at hj
          · rename_i hjl
            obtain ⟨a1, h1, _⟩ := hcell j hjl
            simp at hj
            rw [hj] at h1; cases h1; rfl
          · cases hj
    · have hlt := (List.getElem?_eq_some_iff.1 hk).1
      obtain ⟨a1, h1, h2, h3⟩ := hcell k hlt
      rw [hk] at h1 h2
      refine ⟨a1, by rw [List.getElem?_take, if_pos hlt]; simpa using h1, h2, fun h0 => ⟨h3 h0, foot_row hm hk h0, ?_⟩⟩
      obtain ⟨d, hd', h4, h5⟩ := (hrows k row hk).2 h0
      exact ⟨d, hd', h4, h5⟩
end
end Go.Vc
namespace Go.Vc
open Go.RowKit
section
variable {P : Program} {C : Table} {hint : Hint} {S : Store} {ρ ρc : Rho} {H Hc : HF} {w : World} {own : Nat -> Prop}
def CorrAt (ρ : Rho) (H : HF) (ρc : Rho) (Hc : HF) (i : Nat) : ARef -> Prop
  | .whole r => (∀ b, H r = some b -> Hc i = some b) /\ (∀ j, ρc.blk i j = ρ.blk r j) /\ ρc.cap i = ρ.cap r /\ ∀ j, ρc.rcap i j = ρ.rcap r j
  | .row r j => (∀ xss, H r = some (.mat xss) -> Hc i = some (.arr (.ints (ix xss j)))) /\ ρc.blk i 0 = ρ.blk r (j.toNat + 1) /\ ρc.cap i = ρ.rcap r j.toNat
def Corr (ρ : Rho) (H : HF) (ρc : Rho) (Hc : HF) (k : Nat) (refs : List ARef) : Prop := ∀ (i : Nat) a, refs[i]? = some a -> CorrAt ρ H ρc Hc (k + i) a
theorem Corr.left {k : Nat} {l l' : List ARef} (h : Corr ρ H ρc Hc k (l ++ l')) : Corr ρ H ρc Hc k l := fun i a hi => h i a (by rw [List.getElem?_append_left (List.getElem?_eq_some_iff.1 hi).1]; exact hi)
theorem Corr.right {k : Nat} {l l' : List ARef} (h : Corr ρ H ρc Hc k (l ++ l')) : Corr ρ H ρc Hc (k + l.length) l' := fun i a hi => by
  have := h (l.length + i) a (by rw [List.getElem?_append_right (by omega)]; simpa using hi)
  rwa [<- Nat.add_assoc] at this
theorem ren0_ok {k : Nat} {v : AV} {cv : Value} (hv : V S ρ H v cv) (hc : Corr ρ H ρc Hc k (ren0 k v).2) : V S ρc Hc (ren0 k v).1 cv := by
  have pc : ∀ u : AV, V S ρ H u cv -> V S ρc Hc (bif u.pureB then u else .undef) cv := fun u hu => by
    cases hp : u.pureB with
    | true => exact .pure _ _ (hu.sees hp)
    | false => exact .pure _ _ (.undef _)
  cases v with
  | sl r =>
    obtain ⟨h1, h2, h3, _⟩ := hc 0 (.whole r) rfl
    obtain ⟨v1, xs, m, a, rfl, hr, he, ha⟩ := hv.sl_inv
    have := V.sl (S := S) (ρ := ρc) (H := Hc) k v1 xs m a (h1 _ hr) he (by rw [show k + 0 = k from rfl] at *; rw [h2, h3]; exact ha)
    rw [show k + 0 = k from rfl] at h3
    rw [<- h3]; exact this
  | mt r =>
    obtain ⟨h1, h2, h3, _⟩ := hc 0 (.whole r) rfl
    obtain ⟨xss, a, rfl, hr, ha⟩ := hv.mt_inv
    have := V.mt (S := S) (ρ := ρc) (H := Hc) k xss a (h1 _ hr) (by rw [show k + 0 = k from rfl] at *; rw [h2, h3]; exact ha)
    rw [show k + 0 = k from rfl] at h3
    rw [<- h3]; exact this
  | bx r o =>
    obtain ⟨h1, h2, h3, _⟩ := hc 0 (.whole r) rfl
    obtain ⟨cs, rfl, hr, ho⟩ := hv.bx_inv
    have := V.bx (S := S) (ρ := ρc) (H := Hc) k o cs (h1 _ hr) ho
    have e2 := h2 0
    rw [show k + 0 = k from rfl] at e2
    rw [<- e2]; exact this
  | mr r i =>
    obtain ⟨h1, h2, h3⟩ := hc 0 (.row r i) rfl
    obtain ⟨xss, row, hr, h0, hi, a, hl, rfl, ha⟩ := hv.mr_inv
    have e : ix xss i = row := by have := ix_get (List.getElem?_eq_some_iff.1 hi).1; rw [hi] at this; exact (Option.some.inj this).symm
    have hk := h1 _ hr
    rw [e] at hk
    rw [show k + 0 = k from rfl] at *
    have := V.sl (S := S) (ρ := ρc) (H := Hc) k (.ints row) (row.map .i) 1 a hk rfl (by rw [h2, h3]; exact ha)
    rw [List.length_map, h3] at this; exact this
  | _ => exact pc _ hv
theorem renL0_ok : ∀ (l : List AV) (vs : List Value) (k : Nat), (∀ (j : Nat) x v, l[j]? = some x -> vs[j]? = some v -> V S ρ H x v) -> Corr ρ H ρc Hc k (renL0 k l).2 ->
    (renL0 k l).1.length = l.length /\ ∀ (j : Nat) x v, (renL0 k l).1[j]? = some x -> vs[j]? = some v -> V S ρc Hc x v
  | [], vs, k, _, _ => ⟨rfl, fun j x v h => by simp [renL0] at h⟩
  | a :: l, vs, k, hv, hc => by
    simp only [renL0, renD] at hc ⊢
    obtain ⟨h1, h2⟩ := renL0_ok l vs.tail (k + (ren0 k a).2.length) (fun j x v hx hv' => hv (j + 1) x v (by simpa using hx) (by cases vs with | nil => simp at hv' | cons => simpa using hv')) hc.right
    refine ⟨by simp [h1], fun j x v hx hv' => ?_⟩
    cases j with
    | zero => simp at hx; subst hx; exact ren0_ok (hv 0 a v rfl hv') hc.left
    | succ j => exact h2 j x v (by simpa using hx) (by cases vs with | nil => simp at hv' | cons => simpa using hv')
theorem ren1_ok {k : Nat} {v : AV} {cv : Value} (hv : V S ρ H v cv) (hc : Corr ρ H ρc Hc k (ren1 k v).2) : V S ρc Hc (ren1 k v).1 cv := by
  cases v with
  | agg cs =>
    obtain ⟨vs, rfl, hl, h⟩ := hv.agg_inv
    obtain ⟨h1, h2⟩ := renL0_ok cs vs.toList k (fun j x v hx hv => h j x v hx (by simpa using hv)) hc
    exact .agg _ _ (by rw [h1]; exact hl) (fun j x v hx hv => h2 j x v hx (by simpa using hv))
  | fn f cs =>
    obtain ⟨vs, rfl, hl, h⟩ := hv.fn_inv
    obtain ⟨h1, h2⟩ := renL0_ok cs vs.toList k (fun j x v hx hv => h j x v hx (by simpa using hv)) hc
    exact .fn f _ _ (by rw [h1]; exact hl) (fun j x v hx hv => h2 j x v hx (by simpa using hv))
  | _ => exact ren0_ok hv hc
theorem renL_ok : ∀ (l : List AV) (vs : List Value) (k : Nat), (∀ (j : Nat) x v, l[j]? = some x -> vs[j]? = some v -> V S ρ H x v) -> Corr ρ H ρc Hc k (renL k l).2 ->
    (renL k l).1.length = l.length /\ ∀ (j : Nat) x v, (renL k l).1[j]? = some x -> vs[j]? = some v -> V S ρc Hc x v
  | [], vs, k, _, _ => ⟨rfl, fun j x v h => by simp [renL] at h⟩
  | a :: l, vs, k, hv, hc => by
    simp only [renL, renD] at hc ⊢
    obtain ⟨h1, h2⟩ := renL_ok l vs.tail (k + (ren1 k a).2.length) (fun j x v hx hv' => hv (j + 1) x v (by simpa using hx) (by cases vs with | nil => simp at hv' | cons => simpa using hv')) hc.right
    refine ⟨by simp [h1], fun j x v hx hv' => ?_⟩
    cases j with
    | zero => simp at hx; subst hx; exact ren1_ok (hv 0 a v rfl hv') hc.left
    | succ j => exact h2 j x v (by simpa using hx) (by cases vs with | nil => simp at hv' | cons => simpa using hv')
theorem subH_look (h : Heap) : ∀ (refs : List ARef) (k i : Nat), (subH h k refs).look i = if k <= i then (refs[i - k]?).bind (subB h) else none
  | [], k, i => by simp [subH, Heap.look]
  | a :: l, k, i => by
    have ih := subH_look h l (k + 1) i
    unfold subH subC
    by_cases h1 : k <= i
    · rw [if_pos h1]
      by_cases h2 : k = i
      · subst h2
        rw [Nat.sub_self]
        cases hb : subB h a with
        | none => simp only [ih]; rw [if_neg (by omega)]; simp [hb]
        | some b => simp [Heap.look, hb]
      · rw [if_pos (by omega)] at ih
        have e : (a :: l)[i - k]? = l[i - (k + 1)]? := by rw [show i - k = (i - (k + 1)) + 1 by omega]; rfl
        rw [e, <- ih]
        cases hb : subB h a with
        | none => rfl
        | some b => simp [Heap.look, h2]
    · rw [if_neg h1]
      rw [if_neg (by omega)] at ih
      cases hb : subB h a with
      | none => exact ih
      | some b => simp only [Heap.look]; rw [if_neg (by omega)]; exact ih
theorem newM_look (m n : Nat) : ∀ (post : Heap) (q : Nat), (newM m n post).look q = if n <= q then post.look (q - n + m) else none
  | [], q => by simp [newM, Heap.look]
  | (i, k) :: l, q => by
    have ih := newM_look m n l q
    unfold newM
    cases hm : Nat.ble m i with
    | true =>
      have hm := Nat.le_of_ble_eq_true hm
      simp only [cond_true, Heap.look, ih]
      by_cases hq : n <= q
      · rw [if_pos hq, if_pos hq]
        by_cases e : n + (i - m) = q
        · rw [if_pos e, if_pos (by omega)]
        · rw [if_neg e, if_neg (by omega)]
      · rw [if_neg hq, if_neg hq, if_neg (by omega)]
    | false =>
      have hm : ¬ m <= i := fun h => by rw [Nat.ble_eq_true_of_le h] at hm; cases hm
      simp only [cond_false, ih, Heap.look]
      by_cases hq : n <= q
      · rw [if_pos hq, if_pos hq, if_neg (by omega)]
      · rw [if_neg hq, if_neg hq]
theorem updH_look (φ : AV -> AV) (upd : List (Nat × Option Blk)) : ∀ (h : Heap) (q : Nat), (updH φ upd h).look q = match assoc upd q with
    | some o => if (h.look q).isSome then o else none
    | none => (h.look q).map (Blk.tr φ)
  | [], q => by simp only [updH, Heap.look]; cases assoc upd q <;> simp
  | (k, b) :: h, q => by
    have ih := updH_look φ upd h q
    simp only [updH]
    by_cases e : k = q
    · subst e
      simp only [Heap.look, if_true, Option.isSome_some]
      cases ha : assoc upd k with
      | none => simp [updC, Heap.look]
      | some o =>
        rw [ha] at ih
        cases o with
        | none => simp only [updC, ih]; split <;> rfl
        | some b' => simp [updC, Heap.look]
    · simp only [Heap.look, if_neg e]
      rw [<- ih]
      unfold updC
      split
      · simp [Heap.look, e]
      · rfl
      · simp [Heap.look, e]
theorem assoc_none (h post : Heap) {q : Nat} : ∀ (refs : List ARef) (k : Nat), (∀ a ∈ refs, a.base ≠ q) -> assoc (mkUpd h post k refs) q = none
  | [], k, _ => rfl
  | a :: l, k, hq => by
    simp only [mkUpd, assoc]
    have : (a.base == q) = false := by simpa using hq a (by simp)
    rw [this]
    exact assoc_none h post l (k + 1) (fun b hb => hq b (by simp [hb]))
theorem distB_spec : ∀ {l : List Nat}, distB l = true -> l.Nodup
  | [], _ => .nil
  | a :: l, h => by
    simp only [distB, Bool.and_eq_true, Bool.not_eq_true'] at h
    refine List.nodup_cons.2 ⟨fun hm => ?_, distB_spec h.2⟩
    rw [memN_mem.2 hm] at h; cases h.1
theorem assoc_some (h post : Heap) : ∀ (refs : List ARef) (k i : Nat) (a : ARef), (refs.map ARef.base).Nodup -> refs[i]? = some a -> assoc (mkUpd h post k refs) a.base = some (updB h post (k + i) a)
  | [], k, i, a, _, hi => by simp at hi
  | b :: l, k, i, a, hd, hi => by
    simp only [List.map_cons, List.nodup_cons] at hd
    simp only [mkUpd, assoc]
    cases i with
    | zero => simp at hi; subst hi; simp
    | succ i =>
      simp at hi
      have : (b.base == a.base) = false := by
        simp only [beq_eq_false_iff_ne, ne_eq]
        exact fun e => hd.1 (by rw [e]; exact List.mem_map.2 ⟨a, List.mem_of_getElem? hi, rfl⟩)
      rw [this]
      have := assoc_some h post l (k + 1) i a hd.2 hi
      rwa [show k + 1 + i = k + (i + 1) by omega] at this
theorem gone_spec (post : Heap) : ∀ (refs : List ARef) (k : Nat) (q : Nat), q ∈ gone post k refs ↔ ∃ (i : Nat) (a : ARef), refs[i]? = some a /\ a.base = q /\ post.look (k + i) = none
  | [], k, q => by simp [gone]
  | b :: l, k, q => by
    have ih := gone_spec post l (k + 1) q
    have shift : (∃ (i : Nat) (a : ARef), (b :: l)[i]? = some a /\ a.base = q /\ post.look (k + i) = none) ↔ ((b.base = q /\ post.look k = none) \/ ∃ (i : Nat) (a : ARef), l[i]? = some a /\ a.base = q /\ post.look (k + 1 + i) = none) := by
      constructor
      · rintro ⟨i, a, h1, h2, h3⟩
        cases i with
        | zero => simp at h1; subst h1; exact .inl ⟨h2, h3⟩
        | succ i => exact .inr ⟨i, a, by simpa using h1, h2, by rw [show k + 1 + i = k + (i + 1) by omega]; exact h3⟩
      · rintro (⟨h1, h2⟩ | ⟨i, a, h1, h2, h3⟩)
        · exact ⟨0, b, rfl, h1, h2⟩
        · exact ⟨i + 1, a, by simpa using h1, h2, by rw [show k + (i + 1) = k + 1 + i by omega]; exact h3⟩
    rw [shift]
    unfold gone goneC
    cases hp : post.look k with
    | none => simp only [List.mem_cons, ih]; simp [eq_comm]
    | some b' => simp [ih]
theorem rowsOK_spec {post : Heap} : ∀ {refs : List ARef} {k : Nat}, rowsOK post k refs = true -> ∀ (i : Nat) r j, refs[i]? = some (.row r j) -> ∃ ys, post.look (k + i) = some (.arr (.ints ys))
  | [], k, _, i, r, j, hi => by simp at hi
  | b :: l, k, h, i, r, j, hi => by
    simp only [rowsOK, Bool.and_eq_true] at h
    cases i with
    | zero =>
      simp at hi; subst hi
      have h1 := h.1
      rw [Nat.add_zero]
      cases hp : post.look k with
      | none => rw [hp] at h1; cases h1
      | some b =>
        rw [hp] at h1
        cases b with
        | arr v => cases v <;> first | exact ⟨_, rfl⟩ | cases h1
        | box cs => cases h1
        | mat xss => cases h1
    | succ i =>
      obtain ⟨ys, hy⟩ := rowsOK_spec h.2 i r j (by simpa using hi)
      exact ⟨ys, by rw [show k + (i + 1) = k + 1 + i by omega]; exact hy⟩
theorem Heap.plain_look {h : Heap} (hn : Heap.plain h = true) {r : Nat} {k : Blk} (hr : h.look r = some k) : k.plain = true := by
  induction h with
  | nil => cases hr
  | cons x h ih =>
    obtain ⟨q, b⟩ := x
    simp only [Heap.plain, Bool.and_eq_true] at hn
    simp only [Heap.look] at hr
    split at hr
    · cases hr; exact hn.1
    · exact ih hn.2 hr
theorem BlkRel.at {S : Store} {ρ1 ρ2 : Rho} {H1 H2 : HF} {w : World} {r1 r2 : Nat} {k : Blk} (h : BlkRel S ρ1 H1 w r1 k) (hp : k.plain = true) (hb : ∀ j, ρ2.blk r2 j = ρ1.blk r1 j) (hc : ρ2.cap r2 = ρ1.cap r1) (hrc : ∀ j, ρ2.rcap r2 j = ρ1.rcap r1 j) : BlkRel S ρ2 H2 w r2 k := by
  cases k with
  | box cs =>
    have hp : cs.all AV.pure1 = true := hp
    obtain ⟨c, g1, g2, g3⟩ := h
    exact ⟨c, by rw [hb]; exact g1, g2, fun j x v hx hv => .pure _ _ ((g3 j x v hx hv).sees1 (List.all_eq_true.1 hp x (List.mem_of_getElem? hx)))⟩
  | arr v =>
    obtain ⟨xs, m, c, g1, g2, g3, g4, g5⟩ := h
    exact ⟨xs, m, c, g1, by rw [hc, hb]; exact g2, by rw [hc]; exact g3, by rw [hc]; exact g4, g5⟩
  | mat xss =>
    obtain ⟨c, g1, g2, g3, g4⟩ := h
    refine ⟨c, by rw [hc, hb]; exact g1, by rw [hc]; exact g2, by rw [hc]; exact g3, fun i row hi => ⟨?_, ?_⟩⟩
    · obtain ⟨u, hu, hr⟩ := (g4 i row hi).1
      obtain ⟨a, h1, h2, h3⟩ := hr
      exact ⟨u, hu, a, by rw [hrc]; exact h1, by rw [hrc]; exact h2, by rw [hrc, hb]; exact h3⟩
    · rw [hrc, hb]; exact (g4 i row hi).2
theorem V.rbase {a : AV} {cv : Value} (hra : a.isRef = true) (h : V S ρ H a cv) : ∃ k, H a.rbase = some k := by
  cases h with
  | pure _ _ h => exact (ref_not_pure hra h).elim
  | vec => cases hra
  | agg => cases hra
  | tup => cases hra
  | fn => cases hra
  | sl q v xs m a hr => exact ⟨_, hr⟩
  | mt q xss a hr => exact ⟨_, hr⟩
  | mr q i xss row cv hr => exact ⟨_, hr⟩
  | bx q off cs hr => exact ⟨_, hr⟩
  | pa q i v xs m hr => exact ⟨_, hr⟩
  | pm q i j xss row hr => exact ⟨_, hr⟩
  | po q i xss hr => exact ⟨_, hr⟩
end
end Go.Vc
namespace Go.Vc
open Go.RowKit
section
variable {P : Program} {C : Table} {hint : Hint}
theorem foot_ren {ρ ρ' : Rho} {H H' : HF} {r r' j : Nat} (h : H r = H' r') (hc : ρ.cap r = ρ'.cap r') (hrc : ∀ i, ρ.rcap r i = ρ'.rcap r' i) (hf : foot ρ H r j) : foot ρ' H' r' j := by
  unfold foot at *; rw [<- h, <- hc]; simp only [<- hrc]; exact hf
def rhoC (refs : List ARef) (ρ : Rho) : Rho :=
  ⟨fun i j => match refs[i]? with | some (.whole r) => ρ.blk r j | some (.row r i') => ρ.blk r (i'.toNat + 1) | none => 0,
   fun i => match refs[i]? with | some (.whole r) => ρ.cap r | some (.row r i') => ρ.rcap r i'.toNat | none => 0,
   fun i j => match refs[i]? with | some (.whole r) => ρ.rcap r j | _ => 0⟩
theorem V.back {S : Store} {ρ1 ρ2 : Rho} {H1 H2 : HF} {refs : List ARef} {m n : Nat} (hm : refs.length = m)
    (hw : ∀ (i : Nat) r k, refs[i]? = some (.whole r) -> H1 i = some k -> H2 r = some k /\ (∀ j, ρ2.blk r j = ρ1.blk i j) /\ ρ2.cap r = ρ1.cap i /\ ∀ j, ρ2.rcap r j = ρ1.rcap i j)
    (hr : ∀ (i : Nat) r j ys, refs[i]? = some (.row r j) -> H1 i = some (.arr (.ints ys)) -> 0 <= j /\ ∃ xss, H2 r = some (.mat xss) /\ xss[j.toNat]? = some ys /\ ρ2.blk r (j.toNat + 1) = ρ1.blk i 0 /\ ρ2.rcap r j.toNat = ρ1.cap i /\ ys.length <= ρ1.cap i)
    (hrk : ∀ (i : Nat) r j k, refs[i]? = some (.row r j) -> H1 i = some k -> ∃ ys, k = .arr (.ints ys))
    (hn : ∀ i k, m <= i -> H1 i = some k -> H2 (n + (i - m)) = some k /\ (∀ j, ρ2.blk (n + (i - m)) j = ρ1.blk i j) /\ ρ2.cap (n + (i - m)) = ρ1.cap i /\ ∀ j, ρ2.rcap (n + (i - m)) j = ρ1.rcap i j)
    {a : AV} {cv : Value} (hra : a.isRef = true) (h : V S ρ1 H1 a cv) : V S ρ2 H2 (backA refs m n a) cv := by
  have ud : ∀ {u : Value}, V S ρ2 H2 .undef u := .pure _ _ (.undef _)
  have nm : ∀ {i : Nat}, refs[i]? = none -> m <= i := fun hi => by have := List.getElem?_eq_none_iff.1 hi; omega
  cases h with
  | pure _ _ h => exact (ref_not_pure hra h).elim
  | vec => cases hra
  | agg => cases hra
  | tup => cases hra
  | fn => cases hra
  | sl i v xs m' a hi he ha =>
    simp only [backA, backR]
    have go : ∀ q, H2 q = some (.arr v) -> (∀ j, ρ2.blk q j = ρ1.blk i j) -> ρ2.cap q = ρ1.cap i -> V S ρ2 H2 (.sl q) (.slice a xs.length (ρ1.cap i)) := fun q h1 h2 h3 => by
      have := V.sl (S := S) (ρ := ρ2) (H := H2) q v xs m' a h1 he (by rw [h2, h3]; exact ha)
      rwa [h3] at this
    cases hri : refs[i]? with
    | none => obtain ⟨h1, h2, h3, _⟩ := hn i _ (nm hri) hi; exact go _ h1 h2 h3
    | some ar =>
      cases ar with
      | whole r => obtain ⟨h1, h2, h3, _⟩ := hw i r _ hri hi; exact go _ h1 h2 h3
      | row r j =>
        obtain ⟨ys, hy⟩ := hrk i r j _ hri hi
        cases hy
        obtain ⟨h0, xss, h1, h2, h3, h4, h5⟩ := hr i r j ys hri hi
        simp only [AV.elems, Option.some.injEq, Prod.mk.injEq] at he; obtain ⟨rfl, rfl⟩ := he
        refine .mr r j xss ys _ h1 h0 h2 ⟨a, by rw [h4]; exact h5, by rw [h4]; simp, by rw [h4, h3]; exact ha⟩
  | mt i xss a hi ha =>
    simp only [backA, backR]
    have go : ∀ q, H2 q = some (.mat xss) -> (∀ j, ρ2.blk q j = ρ1.blk i j) -> ρ2.cap q = ρ1.cap i -> V S ρ2 H2 (.mt q) (.slice a xss.length (ρ1.cap i)) := fun q h1 h2 h3 => by
      have := V.mt (S := S) (ρ := ρ2) (H := H2) q xss a h1 (by rw [h2, h3]; exact ha)
      rwa [h3] at this
    cases hri : refs[i]? with
    | none => obtain ⟨h1, h2, h3, _⟩ := hn i _ (nm hri) hi; exact go _ h1 h2 h3
    | some ar =>
      cases ar with
      | whole r => obtain ⟨h1, h2, h3, _⟩ := hw i r _ hri hi; exact go _ h1 h2 h3
      | row r j => exact ud
  | mr i i' xss row cv hi h0 hi' h =>
    simp only [backA, backR]
    have go : ∀ q, H2 q = some (.mat xss) -> (∀ j, ρ2.blk q j = ρ1.blk i j) -> (∀ j, ρ2.rcap q j = ρ1.rcap i j) -> V S ρ2 H2 (.mr q i') cv := fun q h1 h2 h3 => by
      obtain ⟨a, g1, g2, g3⟩ := h
      exact .mr q i' xss row cv h1 h0 hi' ⟨a, by rw [h3]; exact g1, by rw [h3]; exact g2, by rw [h3, h2]; exact g3⟩
    cases hri : refs[i]? with
    | none => obtain ⟨h1, h2, _, h3⟩ := hn i _ (nm hri) hi; exact go _ h1 h2 h3
    | some ar =>
      cases ar with
      | whole r => obtain ⟨h1, h2, _, h3⟩ := hw i r _ hri hi; exact go _ h1 h2 h3
      | row r j => exact ud
  | bx i off cs hi ho =>
    simp only [backA, backR]
    have go : ∀ q, H2 q = some (.box cs) -> (∀ j, ρ2.blk q j = ρ1.blk i j) -> V S ρ2 H2 (.bx q off) (.pointer (some ⟨ρ1.blk i 0, off, none⟩)) := fun q h1 h2 => by
      have := V.bx (S := S) (ρ := ρ2) (H := H2) q off cs h1 ho
      rwa [h2] at this
    cases hri : refs[i]? with
    | none => obtain ⟨h1, h2, _, _⟩ := hn i _ (nm hri) hi; exact go _ h1 h2
    | some ar =>
      cases ar with
      | whole r => obtain ⟨h1, h2, _, _⟩ := hw i r _ hri hi; exact go _ h1 h2
      | row r j => exact ud
  | pa => exact ud
  | pm => exact ud
  | po => exact ud
theorem callM_ok (hT : TableOK P C) (hCall : ∀ f c, (f, c) ∈ C -> Callable P f) {x : Cx} {e : Env} {h : Heap} {n : Nat} {a : Act} {w : World} {f : Operand} {xs : List Operand} {ts : Array TypeId} {o : Oper} (ho : o.op = .call ⟨.value f, ⟨xs⟩, ts⟩) (hs : Sat x e h n a w)
    (hp : (callM C (opnd e f) (xs.map (opnd e)) e h n).pre) (hd : ∀ t, o.dst = some t -> t < x.k)
    {next : Act -> World -> Prop} {Q : Exit -> Act -> World -> Prop}
    (hK : ∀ a' w', Sat x (dset (callM C (opnd e f) (xs.map (opnd e)) e h n).env o.dst (callM C (opnd e f) (xs.map (opnd e)) e h n).val) (callM C (opnd e f) (xs.map (opnd e)) e h n).heap (n + (callM C (opnd e f) (xs.map (opnd e)) e h n).cnt) a' w' -> next a' w') : o.wp P a w next Q := by
  obtain ⟨S, ρ, s1, s2, hrel, hfx, hE, hkept, hk, hdf, hn, hn0⟩ := hs
  have hxf : V S ρ h.look (opnd e f) (a.eval f) := hE.opnd f
  have hfn : ∃ g caps, opnd e f = .fn g caps := by cases hfe : opnd e f <;> first | exact ⟨_, _, rfl⟩ | (rw [hfe] at hp; exact hp.elim)
  obtain ⟨g, caps, hf⟩ := hfn
  rw [hf] at hp hK hxf
  obtain ⟨vs, hev, hvl, hvs⟩ := hxf.fn_inv
  simp only [callM, callC] at hp hK
  generalize hra : renL 0 (xs.map (opnd e) ++ caps) = ra at *
  generalize hres : C.findM g ra.1 (subH h 0 ra.2) ra.2.length = res at *
  obtain ⟨p, val, post⟩ := res
  simp only at hp hK
  obtain ⟨hpre, hchk⟩ := hp
  simp only [Bool.and_eq_true] at hchk
  obtain ⟨⟨⟨hdist, hplain⟩, hplp⟩, hrows⟩ := hchk
  generalize hrefs : ra.2 = refs at *
  have hnd := distB_spec hdist
  have hfind : (g, .m (C.findM g)) ∈ C := by
    rcases Table.findM_mem (C := C) (f := g) with h | h
    · rw [h] at hres
      have : (False, AV.undef, ([] : Heap)) = (p, val, post) := hres
      cases this; exact hpre.elim
    · exact h
  -- the callee's heap
  let ρc := rhoC refs ρ
  generalize hHc : subH h 0 refs = prh at *
  have look : ∀ i, prh.look i = (refs[i]?).bind (subB h) := fun i => by rw [<- hHc, subH_look, if_pos (Nat.zero_le _), Nat.sub_zero]
  have lookW : ∀ (i : Nat) r, refs[i]? = some (.whole r) -> prh.look i = h.look r := fun i r hi => by rw [look, hi]; rfl
  have lookR : ∀ (i : Nat) r j xss, refs[i]? = some (.row r j) -> h.look r = some (.mat xss) -> prh.look i = some (.arr (.ints (ix xss j))) := fun i r j xss hi hr => by rw [look, hi]; simp [subB, hr]
  have isW : ∀ (i : Nat) r, refs[i]? = some (.whole r) -> ∃ b, h.look r = some b /\ b.plain = true := fun i r hi => by
    have := List.all_eq_true.1 hplain _ (List.mem_of_getElem? hi)
    unfold plainO at this
    split at this
    · rename_i b hb; exact ⟨b, hb, this⟩
    · cases this
  have isR : ∀ (i : Nat) r j, refs[i]? = some (.row r j) -> ∃ xss, h.look r = some (.mat xss) := fun i r j hi => by
    have := List.all_eq_true.1 hplain _ (List.mem_of_getElem? hi)
    unfold plainO at this
    split at this
    · rename_i b hb
      simp only [subB] at hb
      split at hb
      · rename_i xss hx; exact ⟨xss, hx⟩
      · cases hb
    · cases this
  have cW : ∀ (i : Nat) r, refs[i]? = some (.whole r) -> (∀ j, ρc.blk i j = ρ.blk r j) /\ ρc.cap i = ρ.cap r /\ ∀ j, ρc.rcap i j = ρ.rcap r j := fun i r hi => by simp [ρc, rhoC, hi]
  have cR : ∀ (i : Nat) r j, refs[i]? = some (.row r j) -> (∀ j', ρc.blk i j' = ρ.blk r (j.toNat + 1)) /\ ρc.cap i = ρ.rcap r j.toNat := fun i r j hi => by simp [ρc, rhoC, hi]
  have corr : Corr ρ h.look ρc prh.look 0 refs := fun i a hi => by
    rw [Nat.zero_add]
    cases a with
    | whole r => obtain ⟨h1, h2, h3⟩ := cW i r hi; exact ⟨fun b hb => by rw [lookW i r hi]; exact hb, h1, h2, h3⟩
    | row r j => obtain ⟨h1, h2⟩ := cR i r j hi; exact ⟨fun xss hx => lookR i r j xss hi hx, h1 0, h2⟩
  have hargsV : ∀ (j : Nat) x v, (xs.map (opnd e) ++ caps)[j]? = some x -> ((xs.map a.eval) ++ vs.toList)[j]? = some v -> V S ρ h.look x v := by
    intro j x v hx hv
    by_cases hj : j < xs.length
    · rw [List.getElem?_append_left (by simpa using hj)] at hx
      rw [List.getElem?_append_left (by simpa using hj)] at hv
      exact args_ok (fun y _ => hE.opnd y) j x v hx hv
    · rw [List.getElem?_append_right (by simpa using hj)] at hx
      rw [List.getElem?_append_right (by simpa using hj)] at hv
      simp only [List.length_map] at hx hv
      exact hvs _ _ _ hx (by simpa using hv)
  -- a row's place is a place, a row's bounds
  have hrowB : ∀ (i : Nat) r j, refs[i]? = some (.row r j) -> 0 <= j /\ ∃ xss row, h.look r = some (.mat xss) /\ xss[j.toNat]? = some row /\ ix xss j = row := by
    have key0 : ∀ (v : AV) cv k, V S ρ h.look v cv -> ∀ r j, ARef.row r j ∈ (ren0 k v).2 -> 0 <= j /\ ∃ xss row, h.look r = some (.mat xss) /\ xss[j.toNat]? = some row /\ ix xss j = row := fun v cv k hv r j hm => by
      cases v <;> simp [ren0] at hm
      obtain ⟨rfl, rfl⟩ := hm
      obtain ⟨xss, row, hr, h0, hi, _⟩ := hv.mr_inv
      exact ⟨h0, xss, row, hr, hi, by have := ix_get (List.getElem?_eq_some_iff.1 hi).1; rw [hi] at this; exact (Option.some.inj this).symm⟩
    have keyL0 : ∀ (l : List AV) (vs : List Value) k, vs.length = l.length -> (∀ (j : Nat) x v, l[j]? = some x -> vs[j]? = some v -> V S ρ h.look x v) -> ∀ r j, ARef.row r j ∈ (renL0 k l).2 -> 0 <= j /\ ∃ xss row, h.look r = some (.mat xss) /\ xss[j.toNat]? = some row /\ ix xss j = row := by
      intro l
      induction l with
      | nil => intro vs k _ _ r j hm; simp [renL0] at hm
      | cons v l ih =>
        intro vs k hl hv r j hm
        cases vs with
        | nil => simp at hl
        | cons u vs =>
          simp only [renL0, renD, List.mem_append] at hm
          rcases hm with hm | hm
          · exact key0 v u k (hv 0 v u rfl rfl) r j hm
          · exact ih vs _ (by simpa using hl) (fun q x v h1 h2 => hv (q + 1) x v (by simpa using h1) (by simpa using h2)) r j hm
    have key1 : ∀ (v : AV) cv k, V S ρ h.look v cv -> ∀ r j, ARef.row r j ∈ (ren1 k v).2 -> 0 <= j /\ ∃ xss row, h.look r = some (.mat xss) /\ xss[j.toNat]? = some row /\ ix xss j = row := fun v cv k hv r j hm => by
      cases v with
      | agg cs =>
        obtain ⟨us, rfl, hl, hc⟩ := hv.agg_inv
        exact keyL0 cs us.toList k (by simpa using hl) (fun q x v h1 h2 => hc q x v h1 (by simpa using h2)) r j hm
      | fn f cs =>
        obtain ⟨us, rfl, hl, hc⟩ := hv.fn_inv
        exact keyL0 cs us.toList k (by simpa using hl) (fun q x v h1 h2 => hc q x v h1 (by simpa using h2)) r j hm
      | _ => exact key0 _ cv k hv r j hm
    have keyL : ∀ (l : List AV) (vs : List Value) k, vs.length = l.length -> (∀ (j : Nat) x v, l[j]? = some x -> vs[j]? = some v -> V S ρ h.look x v) -> ∀ r j, ARef.row r j ∈ (renL k l).2 -> 0 <= j /\ ∃ xss row, h.look r = some (.mat xss) /\ xss[j.toNat]? = some row /\ ix xss j = row := by
      intro l
      induction l with
      | nil => intro vs k _ _ r j hm; simp [renL] at hm
      | cons v l ih =>
        intro vs k hl hv r j hm
        cases vs with
        | nil => simp at hl
        | cons u vs =>
          simp only [renL, renD, List.mem_append] at hm
          rcases hm with hm | hm
          · exact key1 v u k (hv 0 v u rfl rfl) r j hm
          · exact ih vs _ (by simpa using hl) (fun q x v h1 h2 => hv (q + 1) x v (by simpa using h1) (by simpa using h2)) r j hm
    intro i r j hi
    refine keyL (xs.map (opnd e) ++ caps) (xs.map a.eval ++ vs.toList) 0 (by simp [hvl]) hargsV r j ?_
    rw [hra, hrefs]; exact List.mem_of_getElem? hi
  -- feet of the callee's heap are the caller's
  have hft : ∀ i j, foot ρc prh.look i j -> ∃ a, refs[i]? = some a /\ ∃ j', foot ρ h.look a.base j' /\ ρ.blk a.base j' = ρc.blk i j /\ (∀ r, a = .whole r -> j' = j) /\ (∀ r k, a = .row r k -> j = 0 /\ j' = k.toNat + 1) := fun i j hf => by
    cases hi : refs[i]? with
    | none => unfold foot at hf; rw [look, hi] at hf; exact hf.elim
    | some ar =>
      refine ⟨ar, rfl, ?_⟩
      cases ar with
      | whole r =>
        obtain ⟨h1, h2, h3⟩ := cW i r hi
        exact ⟨j, foot_ren (lookW i r hi) h2 h3 hf, (h1 j).symm, fun _ _ => rfl, fun _ _ h => (by cases h)⟩
      | row r k =>
        obtain ⟨h1, h2⟩ := cR i r k hi
        obtain ⟨_, xss, row, hr, hik, _⟩ := hrowB i r k hi
        unfold foot at hf
        rw [lookR i r k xss hi hr] at hf
        obtain ⟨rfl, h0⟩ := hf
        rw [h2] at h0
        exact ⟨k.toNat + 1, foot_row hr hik h0, (h1 0).symm, fun _ h => (by cases h), fun _ _ h => (by cases h; exact ⟨rfl, rfl⟩)⟩
  have hbase : ∀ (i i' : Nat) a a', refs[i]? = some a -> refs[i']? = some a' -> a.base = a'.base -> i = i' := fun i i' a a' h1 h2 e => by
    have e1 : (refs.map ARef.base)[i]? = some a.base := by rw [List.getElem?_map, h1]; rfl
    have e2 : (refs.map ARef.base)[i']? = some a'.base := by rw [List.getElem?_map, h2]; rfl
    rw [<- e] at e2
    exact (List.getElem?_inj (List.getElem?_eq_some_iff.1 e1).1 hnd).1 (e1.trans e2.symm)
  let ownC : Nat -> Prop := fun b => w.heap.size <= b \/ ∃ i j, foot ρc prh.look i j /\ ρc.blk i j = b
  have ownC_own : ∀ b, ownC b -> x.own b := fun b hb => by
    rcases hb with hb | ⟨i, j, hf, rfl⟩
    · exact x.hown b (Nat.le_trans hkept.size hb)
    · obtain ⟨ar, _, j', hf', e', _⟩ := hft i j hf
      rw [<- e']; exact (hrel.owned _ _ hf').1
  have hrelC : Rel ownC S ρc prh.look w := by
    refine ⟨hrel.stab, hrel.amb, fun i k hi => ?_, fun i j hf => ⟨.inr ⟨i, j, hf, rfl⟩, ?_⟩, fun i j i' j' h1 h2 e' => ?_⟩
    · cases hri : refs[i]? with
      | none => rw [look, hri] at hi; cases hi
      | some ar =>
        cases ar with
        | whole r =>
          obtain ⟨h1, h2, h3⟩ := cW i r hri
          rw [lookW i r hri] at hi
          obtain ⟨b, hb, hpl⟩ := isW i r hri
          rw [hb] at hi; cases hi
          exact (hrel.blk r _ hb).at hpl h1 h2 h3
        | row r j =>
          obtain ⟨h1, h2⟩ := cR i r j hri
          obtain ⟨h0, xss, row, hr, hij, hix⟩ := hrowB i r j hri
          rw [lookR i r j xss hri hr, hix] at hi; cases hi
          obtain ⟨c, g1, g2, g3, g4⟩ := hrel.blk r _ hr
          obtain ⟨⟨u, hu, ad, hl, _, _⟩, hd'⟩ := g4 _ _ hij
          by_cases hc0 : ρ.rcap r j.toNat = 0
          · have hrow0 : row = [] := List.length_eq_zero_iff.1 (by omega)
            subst hrow0
            refine ⟨[], 1, #[], rfl, fun h => (h (by rw [h2]; exact hc0)).elim, by rw [h2, hc0]; rfl, by simp, ⟨fun x hx => by simp at hx, fun i x j y hx => by simp at hx⟩⟩
          · obtain ⟨d, hd1, hd2, hd3⟩ := hd' hc0
            refine ⟨row.map .i, 1, d, rfl, fun _ => by rw [h1]; exact hd1, by rw [h2, Nat.mul_one]; exact hd2, by rw [h2]; simpa using hl, ⟨fun y hy => ?_, fun q y q' z hy hz => ?_⟩⟩
            · obtain ⟨n', _, rfl⟩ := List.mem_map.1 hy; rfl
            · rw [List.getElem?_map] at hy
              obtain ⟨n', hn', rfl⟩ := Option.map_eq_some_iff.1 hy
              cases q' with
              | zero => simp [AV.cells] at hz; subst hz; exact ⟨_, by simpa using hd3 _ _ hn', .int _ _⟩
              | succ q' => simp [AV.cells] at hz
    · obtain ⟨ar, _, j', hf', e', _⟩ := hft i j hf
      rw [<- e']; exact (hrel.owned _ _ hf').2
    · obtain ⟨a1, ha1, j1, hf1, e1, w1, r1⟩ := hft i j h1
      obtain ⟨a2, ha2, j2, hf2, e2, w2, r2⟩ := hft i' j' h2
      obtain ⟨eb, ej⟩ := hrel.sep _ _ _ _ hf1 hf2 (e1.trans (e'.trans e2.symm))
      have ei := hbase i i' a1 a2 ha1 ha2 eb
      subst ei
      rw [ha1] at ha2; cases ha2
      refine ⟨rfl, ?_⟩
      cases a1 with
      | whole r => rw [<- w1 r rfl, <- w2 r rfl]; exact ej
      | row r k => rw [(r1 r k rfl).1, (r2 r k rfl).1]
  obtain ⟨hshape, hspec⟩ : SpecM P g ra.1 prh refs.length val post := by
    have := (hT g _ hfind ra.1 prh refs.length (fun r hr => by
      rw [look] at hr
      rcases Nat.lt_or_ge r refs.length with h | h
      · exact h
      · rw [List.getElem?_eq_none h] at hr; exact (hr rfl).elim) (by rw [hres]; exact hpre))
    rw [hres] at this; exact this
  have hargsC := renL_ok (ρc := ρc) (Hc := prh.look) (xs.map (opnd e) ++ caps) (xs.map a.eval ++ vs.toList) 0 hargsV (by rw [hra, hrefs]; exact corr)
  rw [hra] at hargsC
  have hcalls := hspec ownC S ρc w ((xs.map a.eval).toArray ++ vs) (fun b hb => .inl hb) hrelC (by rw [hargsC.1]; simp [hvl]) (fun j y v hy hv => hargsC.2 j y v hy (by
    have : ((xs.map a.eval).toArray ++ vs).toList = xs.map a.eval ++ vs.toList := by simp
    rw [<- this, Array.getElem?_toList]; exact hv))
  have hrun : (execOp a.eval o).run P w = .ok (.enter g ((xs.map a.eval).toArray ++ vs)) w := by
    simp [execOp, ho, resolve, hev, Deferred.ofValue, invoke]
    exact run_callFunc (hCall g _ hfind) _ w
  unfold Oper.wp
  rw [hrun]
  show Calls P g _ w _
  refine hcalls.mono ?_
  rintro en w' ⟨cv, S', ρc', rfl, hrel', hle, hfresh, hkeptC, hval, hfixC⟩
  -- the caller's heap behind it
  generalize hφ : purN (gone post 0 refs) [] = φ at *
  generalize hH' : newM refs.length n post ++ updH φ (mkUpd h post 0 refs) h = h' at *
  let ρ' : Rho := ⟨fun q j => if n <= q then ρc'.blk (q - n + refs.length) j else ρ.blk q j, fun q => if n <= q then ρc'.cap (q - n + refs.length) else ρ.cap q, fun q j => if n <= q then ρc'.rcap (q - n + refs.length) j else ρ.rcap q j⟩
  have hlookN : ∀ q, n <= q -> h'.look q = post.look (q - n + refs.length) := fun q hq => by
    rw [<- hH', <- addH_look]
    unfold addH
    rw [newM_look, if_pos hq]
    cases hpq : post.look (q - n + refs.length) with
    | some k => rfl
    | none =>
      simp only [updH_look]
      have : h.look q = none := by
        cases hh : h.look q with
        | none => rfl
        | some k => have := hn q (by rw [hh]; simp); omega
      rw [this]
      cases assoc (mkUpd h post 0 refs) q <;> simp
  have hlookO : ∀ q, q < n -> h'.look q = (updH φ (mkUpd h post 0 refs) h).look q := fun q hq => by
    rw [<- hH', <- addH_look]
    unfold addH
    rw [newM_look, if_neg (by omega)]
  have hlookU : ∀ q, q < n -> (∀ a ∈ refs, a.base ≠ q) -> h'.look q = (h.look q).map (Blk.tr φ) := fun q hq hb => by
    rw [hlookO q hq, updH_look, assoc_none h post refs 0 hb]
  have hbn : ∀ (i : Nat) a, refs[i]? = some a -> a.base < n /\ h.look a.base ≠ none := fun i a hi => by
    have : h.look a.base ≠ none := by
      cases a with
      | whole r => obtain ⟨b, hb, _⟩ := isW i r hi; show h.look r ≠ none; rw [hb]; simp
      | row r j => obtain ⟨xss, hx⟩ := isR i r j hi; show h.look r ≠ none; rw [hx]; simp
    exact ⟨hn _ this, this⟩
  have hlookB : ∀ (i : Nat) a, refs[i]? = some a -> h'.look a.base = updB h post i a := fun i a hi => by
    obtain ⟨h1, h2⟩ := hbn i a hi
    rw [hlookO _ h1, updH_look, assoc_some h post refs 0 i a hnd hi, Nat.zero_add]
    simp only
    rw [if_pos (Option.isSome_iff_ne_none.2 h2)]
  have hrowP : ∀ (i : Nat) r j, refs[i]? = some (.row r j) -> ∃ ys, post.look i = some (.arr (.ints ys)) := fun i r j hi => by
    have := rowsOK_spec hrows i r j hi
    rwa [Nat.zero_add] at this
  -- old blocks keep their shape, or are gone
  have hold : ∀ q k, h.look q = some k -> (q ∈ gone post 0 refs /\ h'.look q = none) \/ (q ∉ gone post 0 refs /\ ∃ k', h'.look q = some k' /\ SameShape k k') := fun q k hq => by
    have hqn : q < n := hn q (by rw [hq]; simp)
    by_cases hb : ∃ (i : Nat) (a : ARef), refs[i]? = some a /\ a.base = q
    · obtain ⟨i, ar, hi, rfl⟩ := hb
      have hg : ar.base ∈ gone post 0 refs ↔ post.look i = none := by
        rw [gone_spec]
        constructor
        · rintro ⟨i', a', h1, h2, h3⟩
          have := hbase i' i a' ar h1 hi h2
          subst this; rwa [Nat.zero_add] at h3
        · intro h3; exact ⟨i, ar, hi, rfl, by rw [Nat.zero_add]; exact h3⟩
      cases hpi : post.look i with
      | none =>
        refine .inl ⟨hg.2 hpi, ?_⟩
        rw [hlookB i ar hi]
        cases ar with
        | whole r => exact hpi
        | row r j => obtain ⟨ys, hy⟩ := hrowP i r j hi; rw [hpi] at hy; cases hy
      | some kp =>
        refine .inr ⟨(fun h => by rw [hg.1 h] at hpi; cases hpi), ?_⟩
        rw [hlookB i ar hi]
        cases ar with
        | whole r => exact ⟨kp, hpi, hshape i k kp (by rw [lookW i r hi]; exact hq) hpi⟩
        | row r j =>
          obtain ⟨h0, xss, row, hr, hij, hix⟩ := hrowB i r j hi
          obtain ⟨ys, hy⟩ := hrowP i r j hi
          have hq' : h.look r = some k := hq
          rw [hr] at hq'; cases hq'
          have hsh := hshape i _ _ (lookR i r j xss hi hr) hy
          rw [hix] at hsh
          have hlen : row.length = ys.length := by
            cases hsh with
            | arr _ _ xs1 xs2 m1 g1 g2 hl =>
              simp only [AV.elems, Option.some.injEq, Prod.mk.injEq] at g1 g2
              obtain ⟨rfl, _⟩ := g1; obtain ⟨rfl, _⟩ := g2
              simpa using hl
          refine ⟨.mat (xss.set j.toNat ys), by simp only [updB]; rw [hr, hy], .mat _ _ (by simp) (fun q y z hy' hz => ?_)⟩
          rw [getElem?_set_list _ _ _ _ (List.getElem?_eq_some_iff.1 hij).1] at hz
          split at hz
          · rename_i e1; subst e1; cases hz; rw [hij] at hy'; cases hy'; exact hlen
          · rw [hy'] at hz; cases hz; rfl
    · refine .inr ⟨fun hg => ?_, _, by rw [hlookU q hqn (fun a ha e1 => hb (by obtain ⟨i, hi⟩ := List.mem_iff_getElem?.1 ha; exact ⟨i, a, hi, e1⟩)), hq]; rfl, same_tr (hrel.blk q k hq) φ⟩
      obtain ⟨i, a, h1, h2, _⟩ := (gone_spec post refs 0 q).1 hg
      exact hb ⟨i, a, h1, h2⟩
  have bO : ∀ q j, q < n -> ρ'.blk q j = ρ.blk q j := fun q j hq => by simp only [ρ']; rw [if_neg (by omega)]
  have cO : ∀ q, q < n -> ρ'.cap q = ρ.cap q := fun q hq => by simp only [ρ']; rw [if_neg (by omega)]
  have rO : ∀ q j, q < n -> ρ'.rcap q j = ρ.rcap q j := fun q j hq => by simp only [ρ']; rw [if_neg (by omega)]
  have bN : ∀ q j, n <= q -> ρ'.blk q j = ρc'.blk (q - n + refs.length) j := fun q j hq => by simp only [ρ']; rw [if_pos hq]
  have cN : ∀ q, n <= q -> ρ'.cap q = ρc'.cap (q - n + refs.length) := fun q hq => by simp only [ρ']; rw [if_pos hq]
  have rN : ∀ q j, n <= q -> ρ'.rcap q j = ρc'.rcap (q - n + refs.length) j := fun q j hq => by simp only [ρ']; rw [if_pos hq]
  have hV : ∀ u cv, V S ρ h.look u cv -> V S' ρ' h'.look (u.tr φ) cv := fun u cv hu => hu.tr hle (fun a1 cv1 hra1 hv1 => by
    rw [<- hφ]
    refine purN_ref hra1 hv1 (fun n1 _ _ => ?_)
    obtain ⟨k, hk⟩ := hv1.rbase hra1
    have hqn := hn _ (show h.look a1.rbase ≠ none by rw [hk]; simp)
    refine hv1.ref_shape hra1 (fun k' hk' => ?_) (fun j => bO _ j hqn) (cO _ hqn) (fun j => rO _ j hqn)
    rcases hold _ k' hk' with ⟨h1, _⟩ | ⟨_, h2⟩
    · exact (n1 h1).elim
    · exact h2)
  have hfo : ∀ q j, q < n -> foot ρ' h'.look q j -> foot ρ h.look q j := fun q j hq hf => by
    cases hh : h.look q with
    | none =>
      exfalso
      unfold foot at hf
      have : h'.look q = none := by
        rw [hlookU q hq (fun a ha e1 => by
          obtain ⟨i, hi⟩ := List.mem_iff_getElem?.1 ha
          have := (hbn i a hi).2
          rw [e1] at this; exact this hh), hh]; rfl
      rw [this] at hf; exact hf
    | some k =>
      rcases hold q k hh with ⟨_, h2⟩ | ⟨_, k', h2, h3⟩
      · unfold foot at hf; rw [h2] at hf; exact hf.elim
      · exact (foot_same hh h2 h3 (cO q hq) (fun i => rO q i hq)).1 hf
  -- an old foot that the callee owned is a foot of the callee's heap, behind the call too
  have hfc : ∀ q j, q < n -> foot ρ' h'.look q j -> ownC (ρ.blk q j) -> ∃ i j', refs[i]? ≠ none /\ foot ρc' post.look i j' /\ ρc'.blk i j' = ρ.blk q j := fun q j hq hf ho => by
    have hf0 := hfo q j hq hf
    rcases ho with ho | ⟨i, j', hfi, e1⟩
    · have := hrel.foot_lt hf0; omega
    · obtain ⟨ar, hi, j2, hf2, e2, w2, r2⟩ := hft i j' hfi
      obtain ⟨eb, ej⟩ := hrel.sep _ _ _ _ hf2 hf0 (e2.trans e1)
      have hil : i < refs.length := (List.getElem?_eq_some_iff.1 hi).1
      cases hpi : post.look i with
      | none =>
        exfalso
        have : h'.look q = none := by
          rw [<- eb, hlookB i ar hi]
          cases ar with
          | whole r => exact hpi
          | row r j => obtain ⟨ys, hy⟩ := hrowP i r j hi; rw [hpi] at hy; cases hy
        unfold foot at hf; rw [this] at hf; exact hf
      | some kp =>
        obtain ⟨f1, f2, f3⟩ := hfixC i hil (by rw [hpi]; simp)
        cases hpr : prh.look i with
        | none => unfold foot at hfi; rw [hpr] at hfi; exact hfi.elim
        | some k0 => exact ⟨i, j', by rw [hi]; simp, (foot_same hpr hpi (hshape i k0 kp hpr hpi) f2 f3).2 hfi, by rw [f1, e1]⟩
  have hcells : ∀ q j c, foot ρ h.look q j -> ¬ ownC (ρ.blk q j) -> OwnCells w (ρ.blk q j) c -> OwnCells w' (ρ.blk q j) c := fun q j c hf hno ⟨el, he⟩ =>
    ⟨el, by rw [hkeptC.block _ (hrel.foot_lt hf) hno]; exact he⟩
  have hg : Rel x.own S' ρ' h'.look w' := by
    refine ⟨hrel'.stab, hrel'.amb, fun q k hq => ?_, fun q j hf => ?_, fun q j q' j' h1 h2 e1 => ?_⟩
    · by_cases hqn : n <= q
      · rw [hlookN q hqn] at hq
        exact (hrel'.blk _ k hq).at (Heap.plain_look hplp hq) (fun j => bN q j hqn) (cN q hqn) (fun j => rN q j hqn)
      · have hqn : q < n := by omega
        by_cases hb : ∃ (i : Nat) (a : ARef), refs[i]? = some a /\ a.base = q
        · obtain ⟨i, ar, hi, rfl⟩ := hb
          have hil : i < refs.length := (List.getElem?_eq_some_iff.1 hi).1
          rw [hlookB i ar hi] at hq
          cases ar with
          | whole r =>
            have hq : post.look i = some k := hq
            obtain ⟨f1, f2, f3⟩ := hfixC i hil (by rw [hq]; simp)
            obtain ⟨c1, c2, c3⟩ := cW i r hi
            exact (hrel'.blk i k hq).at (Heap.plain_look hplp hq) (fun j => by show ρ'.blk r j = _; rw [bO r j hqn, f1, c1]) (by show ρ'.cap r = _; rw [cO r hqn, f2, c2]) (fun j => by show ρ'.rcap r j = _; rw [rO r j hqn, f3, c3])
          | row r j =>
            obtain ⟨h0, xss, row, hr, hij, hix⟩ := hrowB i r j hi
            obtain ⟨ys, hy⟩ := hrowP i r j hi
            simp only [updB] at hq
            rw [hr, hy] at hq; cases hq
            obtain ⟨f1, f2, f3⟩ := hfixC i hil (by rw [hy]; simp)
            obtain ⟨c1, c2⟩ := cR i r j hi
            have hlt := (List.getElem?_eq_some_iff.1 hij).1
            obtain ⟨c, g1, g2, g3, g4⟩ := hrel.blk r _ hr
            obtain ⟨xs2, m2, cy, he2, hcy, hszy, hcapy, harr⟩ := hrel'.blk i _ hy
            simp only [AV.elems, Option.some.injEq, Prod.mk.injEq] at he2; obtain ⟨rfl, rfl⟩ := he2
            rw [f2, c2] at hszy hcapy hcy
            rw [f1, c1] at hcy
            simp only [List.length_map, Nat.mul_one] at hszy hcapy
            have hsh := hshape i _ _ (lookR i r j xss hi hr) hy
            rw [hix] at hsh
            have hlen : row.length = ys.length := by
              cases hsh with
              | arr _ _ xs1 xs2 m1 g1 g2 hl =>
                simp only [AV.elems, Option.some.injEq, Prod.mk.injEq] at g1 g2
                obtain ⟨rfl, _⟩ := g1; obtain ⟨rfl, _⟩ := g2
                simpa using hl
            have nown : ∀ j', j' ≠ j.toNat + 1 -> foot ρ h.look r j' -> ¬ ownC (ρ.blk r j') := fun j' hj' hf' ho => by
              rcases ho with ho | ⟨i', j1, hfi, e1⟩
              · have := hrel.foot_lt hf'; omega
              · obtain ⟨ar, hi', j2, hf2, e2, w2, r2⟩ := hft i' j1 hfi
                obtain ⟨eb, ej⟩ := hrel.sep _ _ _ _ hf2 hf' (e2.trans e1)
                have := hbase i' i ar (.row r j) hi' hi eb
                subst this
                rw [hi] at hi'; cases hi'
                exact hj' (ej.symm.trans (r2 r j rfl).2)
            have br : ∀ j', ρ'.blk r j' = ρ.blk r j' := fun j' => bO r j' hqn
            have rr : ∀ j', ρ'.rcap r j' = ρ.rcap r j' := fun j' => rO r j' hqn
            have cr : ρ'.cap r = ρ.cap r := cO r hqn
            show BlkRel S' ρ' h'.look w' r _
            refine ⟨c, fun h0' => by rw [cr] at h0'; rw [br]; exact hcells r 0 c (foot_mat hr h0') (nown 0 (by omega) (foot_mat hr h0')) (g1 h0'), by rw [cr]; exact g2, by rw [cr]; simpa using g3, fun q row' hq => ⟨?_, fun hne => ?_⟩⟩
            · rw [getElem?_set_list _ _ _ _ hlt] at hq
              split at hq
              · rename_i eq; subst eq; cases hq
                obtain ⟨u, hu, ad, a1, a2, a3⟩ := (g4 _ _ hij).1
                exact ⟨u, hu, ad, by rw [rr, <- hlen]; exact a1, by rw [rr, <- hlen]; exact a2, by rw [rr, br]; exact a3⟩
              · obtain ⟨u, hu, hrow⟩ := (g4 _ _ hq).1
                exact ⟨u, hu, hrow.keep (br _) (rr _)⟩
            · rw [rr] at hne ⊢
              rw [br]
              rw [getElem?_set_list _ _ _ _ hlt] at hq
              split at hq
              · rename_i eq; subst eq; cases hq
                refine ⟨cy, hcy hne, hszy, fun q' n' hq' => ?_⟩
                obtain ⟨u, hu, hsu⟩ := harr.2 q' (.i n') 0 (.i n') (by rw [List.getElem?_map, hq']; rfl) rfl
                simp only [Nat.mul_one, Nat.add_zero] at hu
                rw [hu]; cases hsu with
                | int => rfl
                | lst _ _ _ _ _ he => simp [AV.elems] at he
              · rename_i eq
                obtain ⟨d, hd1, hd2⟩ := (g4 _ _ hq).2 hne
                exact ⟨d, hcells r (q + 1) d (foot_row hr hq hne) (nown (q + 1) (by omega) (foot_row hr hq hne)) hd1, hd2⟩
        · have hnb : ∀ a ∈ refs, a.base ≠ q := fun a ha e1 => hb (by obtain ⟨i, hi⟩ := List.mem_iff_getElem?.1 ha; exact ⟨i, a, hi, e1⟩)
          rw [hlookU q hqn hnb] at hq
          obtain ⟨k0, hk0, rfl⟩ := Option.map_eq_some_iff.1 hq
          refine (hrel.blk q k0 hk0).stands hle hV (fun j => bO q j hqn) (cO q hqn) (fun j => rO q j hqn) hk0 (fun j c hf hc => hcells q j c hf (fun ho => ?_) hc)
          rcases ho with ho | ⟨i', j1, hfi, e1⟩
          · have := hrel.foot_lt hf; omega
          · obtain ⟨ar, hi', j2, hf2, e2, _, _⟩ := hft i' j1 hfi
            exact hnb ar (List.mem_of_getElem? hi') (hrel.sep _ _ _ _ hf2 hf (e2.trans e1)).1
    · by_cases hqn : n <= q
      · rw [bN q j hqn]
        have hf' : foot ρc' post.look (q - n + refs.length) j := foot_ren (hlookN q hqn) (cN q hqn) (fun i => rN q i hqn) hf
        obtain ⟨o1, o2⟩ := hrel'.owned _ _ hf'
        exact ⟨ownC_own _ o1, o2⟩
      · have hqn : q < n := by omega
        rw [bO q j hqn]
        have hf0 := hfo q j hqn hf
        obtain ⟨o1, o2⟩ := hrel.owned q j hf0
        refine ⟨o1, ?_⟩
        cases hS : S' (ρ.blk q j) with
        | none => rfl
        | some c =>
          exfalso
          obtain ⟨i, j', _, hf', e1⟩ := hfc q j hqn hf (hfresh _ o2 (by rw [hS]; simp))
          have := (hrel'.owned _ _ hf').2
          rw [e1, hS] at this; cases this
    · by_cases hqn : n <= q
      · have hf1 : foot ρc' post.look (q - n + refs.length) j := foot_ren (hlookN q hqn) (cN q hqn) (fun i => rN q i hqn) h1
        by_cases hqn' : n <= q'
        · have hf2 : foot ρc' post.look (q' - n + refs.length) j' := foot_ren (hlookN q' hqn') (cN q' hqn') (fun i => rN q' i hqn') h2
          rw [bN q j hqn, bN q' j' hqn'] at e1
          obtain ⟨g1, g2⟩ := hrel'.sep _ _ _ _ hf1 hf2 e1
          exact ⟨by omega, g2⟩
        · exfalso
          have hqn' : q' < n := by omega
          rw [bN q j hqn, bO q' j' hqn'] at e1
          obtain ⟨i, j2, hi, hf', e2⟩ := hfc q' j' hqn' h2 (by rw [<- e1]; exact (hrel'.owned _ _ hf1).1)
          have := (hrel'.sep _ _ _ _ hf' hf1 (e2.trans e1.symm)).1
          rw [this, List.getElem?_eq_none (by omega)] at hi; exact hi rfl
      · have hqn : q < n := by omega
        by_cases hqn' : n <= q'
        · exfalso
          have hf2 : foot ρc' post.look (q' - n + refs.length) j' := foot_ren (hlookN q' hqn') (cN q' hqn') (fun i => rN q' i hqn') h2
          rw [bO q j hqn, bN q' j' hqn'] at e1
          obtain ⟨i, j2, hi, hf', e2⟩ := hfc q j hqn h1 (by rw [e1]; exact (hrel'.owned _ _ hf2).1)
          have := (hrel'.sep _ _ _ _ hf' hf2 (e2.trans e1)).1
          rw [this, List.getElem?_eq_none (by omega)] at hi; exact hi rfl
        · have hqn' : q' < n := by omega
          rw [bO q j hqn, bO q' j' hqn'] at e1
          exact hrel.sep _ _ _ _ (hfo q j hqn h1) (hfo q' j' hqn' h2) e1
  have hvv : V S' ρ' h'.look (val.tr (backA refs refs.length n)) cv := by
    refine hval.tr (fun _ _ h => h) (fun a1 cv1 hra1 hv1 => hv1.back (H1 := post.look) (ρ1 := ρc') rfl (fun i r k hi hk => ?_) (fun i r j ys hi hy => ?_) (fun i r j k hi hk => ?_) (fun i k hi hk => ?_) hra1)
    · have hil : i < refs.length := (List.getElem?_eq_some_iff.1 hi).1
      obtain ⟨f1, f2, f3⟩ := hfixC i hil (by rw [hk]; simp)
      obtain ⟨c1, c2, c3⟩ := cW i r hi
      have hrn := (hbn i _ hi).1
      exact ⟨by have := hlookB i _ hi; exact this.trans hk, fun j => by rw [bO r j hrn, f1, c1], by rw [cO r hrn, f2, c2], fun j => by rw [rO r j hrn, f3, c3]⟩
    · have hil : i < refs.length := (List.getElem?_eq_some_iff.1 hi).1
      obtain ⟨f1, f2, f3⟩ := hfixC i hil (by rw [hy]; simp)
      obtain ⟨c1, c2⟩ := cR i r j hi
      have hrn := (hbn i _ hi).1
      obtain ⟨h0, xss, row, hr, hij, hix⟩ := hrowB i r j hi
      refine ⟨h0, xss.set j.toNat ys, ?_, ?_, ?_, ?_, ?_⟩
      · have := hlookB i _ hi
        simp only [updB, ARef.base] at this
        rw [this, hr, hy]
      · rw [getElem?_set_list _ _ _ _ (List.getElem?_eq_some_iff.1 hij).1, if_pos rfl]
      · rw [bO r _ hrn, f1, c1]
      · rw [rO r _ hrn, f2, c2]
      · obtain ⟨xs2, m2, cy, he2, hcy, hszy, hcapy, harr⟩ := hrel'.blk i _ hy
        simp only [AV.elems, Option.some.injEq, Prod.mk.injEq] at he2; obtain ⟨rfl, rfl⟩ := he2
        simpa using hcapy
    · obtain ⟨ys, hy⟩ := hrowP i r j hi
      rw [hk] at hy; cases hy; exact ⟨ys, rfl⟩
    · have hq : n <= n + (i - refs.length) := Nat.le_add_right _ _
      have e1 : n + (i - refs.length) - n + refs.length = i := by omega
      exact ⟨by rw [hlookN _ hq, e1]; exact hk, fun j => by rw [bN _ j hq, e1], by rw [cN _ hq, e1], fun j => by rw [rN _ j hq, e1]⟩
  refine hK _ _ ⟨S', ρ', fun b c hb => hle b c (s1 b c hb), fun b h1 h2 => ?_, hg, fun q h1 h2 => ?_, EnvRel.put (fun t => by rw [trE_get _ _ _ (by rw [<- hφ]; rfl)]; exact hV _ _ (hE t)) hvv (fun t ht => by rw [hk]; exact hd t ht),
    hkept.trans ⟨hkeptC.os, hkeptC.tape, hkeptC.output, hkeptC.size, fun b hb hno => hkeptC.block b hb (fun ho => hno (ownC_own b ho)), hkeptC.drawn⟩, by rw [put_size]; exact hk, by rw [put_defers]; exact hdf, fun q hq => ?_, by omega⟩
  · by_cases hSb : S b = none
    · exact ownC_own _ (hfresh b hSb h2)
    · exact s2 b h1 hSb
  · have hqn : q < n := by omega
    have hq0 : h.look q ≠ none := fun e0 => h2 (by
      rw [hlookU q hqn (fun a ha e1 => by
        obtain ⟨i, hi⟩ := List.mem_iff_getElem?.1 ha
        have := (hbn i a hi).2
        rw [e1] at this; exact this e0), e0]; rfl)
    obtain ⟨f1, f2, f3⟩ := hfx q h1 hq0
    exact ⟨fun j => by rw [bO q j hqn, f1], by rw [cO q hqn, f2], fun j => by rw [rO q j hqn, f3]⟩
  · by_cases hqn : n <= q
    · rw [hlookN q hqn] at hq
      have := topH_look hq
      omega
    · omega
end
end Go.Vc
namespace Go.Vc
open Go.RowKit
section
variable {P : Program} {C : Table} {hint : Hint}
theorem callZ_ok (hT : TableOK P C) (hCall : ∀ f c, (f, c) ∈ C -> Callable P f) {x : Cx} {e : Env} {h : Heap} {n : Nat} {a : Act} {w : World} {f : Operand} {xs : List Operand} {ts : Array TypeId} {o : Oper} (ho : o.op = .call ⟨.value f, ⟨xs⟩, ts⟩) (hs : Sat x e h n a w)
    {K' : AV -> Env -> Heap -> Nat -> Prop} (hp : callZ C (opnd e f) (xs.map (opnd e)) e h n K') (hd : ∀ t, o.dst = some t -> t < x.k)
    {next : Act -> World -> Prop} {Q : Exit -> Act -> World -> Prop}
    (hK : ∀ v e' h' c a' w', K' v e' h' c -> Sat x (dset e' o.dst v) h' (n + c) a' w' -> next a' w') : o.wp P a w next Q := by
  obtain ⟨S, ρ, s1, s2, hrel, hfx, hE, hkept, hk, hdf, hn, hn0⟩ := hs
  have hxf : V S ρ h.look (opnd e f) (a.eval f) := hE.opnd f
  have hfn : ∃ g caps, opnd e f = .fn g caps := by cases hfe : opnd e f <;> first | exact ⟨_, _, rfl⟩ | (rw [hfe] at hp; exact hp.elim)
  obtain ⟨g, caps, hf⟩ := hfn
  rw [hf] at hp hxf
  obtain ⟨vs, hev, hvl, hvs⟩ := hxf.fn_inv
  simp only [callZ, zK] at hp
  generalize hra : renL 0 (xs.map (opnd e) ++ caps) = ra at *
  generalize hres : C.findZ g ra.1 (subH h 0 ra.2) ra.2.length = res at *
  obtain ⟨p, R⟩ := res
  simp only at hp
  obtain ⟨⟨hpre, hchk⟩, hz⟩ := hp
  simp only [Bool.and_eq_true] at hchk
  obtain ⟨hdist, hplain⟩ := hchk
  generalize hrefs : ra.2 = refs at *
  have hnd := distB_spec hdist
  have hfind : (g, .z (C.findZ g)) ∈ C := by
    rcases Table.findZ_mem (C := C) (f := g) with h | h
    · rw [h] at hres
      have : (False, fun _ : Z => (False, AV.undef, ([] : Heap))) = (p, R) := hres
      cases this; exact hpre.elim
    · exact h
  -- the callee's heap
  let ρc := rhoC refs ρ
  generalize hHc : subH h 0 refs = prh at *
  have look : ∀ i, prh.look i = (refs[i]?).bind (subB h) := fun i => by rw [<- hHc, subH_look, if_pos (Nat.zero_le _), Nat.sub_zero]
  have lookW : ∀ (i : Nat) r, refs[i]? = some (.whole r) -> prh.look i = h.look r := fun i r hi => by rw [look, hi]; rfl
  have lookR : ∀ (i : Nat) r j xss, refs[i]? = some (.row r j) -> h.look r = some (.mat xss) -> prh.look i = some (.arr (.ints (ix xss j))) := fun i r j xss hi hr => by rw [look, hi]; simp [subB, hr]
  have isW : ∀ (i : Nat) r, refs[i]? = some (.whole r) -> ∃ b, h.look r = some b /\ b.plain = true := fun i r hi => by
    have := List.all_eq_true.1 hplain _ (List.mem_of_getElem? hi)
    unfold plainO at this
    split at this
    · rename_i b hb; exact ⟨b, hb, this⟩
    · cases this
  have isR : ∀ (i : Nat) r j, refs[i]? = some (.row r j) -> ∃ xss, h.look r = some (.mat xss) := fun i r j hi => by
    have := List.all_eq_true.1 hplain _ (List.mem_of_getElem? hi)
    unfold plainO at this
    split at this
    · rename_i b hb
      simp only [subB] at hb
      split at hb
      · rename_i xss hx; exact ⟨xss, hx⟩
      · cases hb
    · cases this
  have cW : ∀ (i : Nat) r, refs[i]? = some (.whole r) -> (∀ j, ρc.blk i j = ρ.blk r j) /\ ρc.cap i = ρ.cap r /\ ∀ j, ρc.rcap i j = ρ.rcap r j := fun i r hi => by simp [ρc, rhoC, hi]
  have cR : ∀ (i : Nat) r j, refs[i]? = some (.row r j) -> (∀ j', ρc.blk i j' = ρ.blk r (j.toNat + 1)) /\ ρc.cap i = ρ.rcap r j.toNat := fun i r j hi => by simp [ρc, rhoC, hi]
  have corr : Corr ρ h.look ρc prh.look 0 refs := fun i a hi => by
    rw [Nat.zero_add]
    cases a with
    | whole r => obtain ⟨h1, h2, h3⟩ := cW i r hi; exact ⟨fun b hb => by rw [lookW i r hi]; exact hb, h1, h2, h3⟩
    | row r j => obtain ⟨h1, h2⟩ := cR i r j hi; exact ⟨fun xss hx => lookR i r j xss hi hx, h1 0, h2⟩
  have hargsV : ∀ (j : Nat) x v, (xs.map (opnd e) ++ caps)[j]? = some x -> ((xs.map a.eval) ++ vs.toList)[j]? = some v -> V S ρ h.look x v := by
    intro j x v hx hv
    by_cases hj : j < xs.length
    · rw [List.getElem?_append_left (by simpa using hj)] at hx
      rw [List.getElem?_append_left (by simpa using hj)] at hv
      exact args_ok (fun y _ => hE.opnd y) j x v hx hv
    · rw [List.getElem?_append_right (by simpa using hj)] at hx
      rw [List.getElem?_append_right (by simpa using hj)] at hv
      simp only [List.length_map] at hx hv
      exact hvs _ _ _ hx (by simpa using hv)
  -- a row's place is a place, a row's bounds
  have hrowB : ∀ (i : Nat) r j, refs[i]? = some (.row r j) -> 0 <= j /\ ∃ xss row, h.look r = some (.mat xss) /\ xss[j.toNat]? = some row /\ ix xss j = row := by
    have key0 : ∀ (v : AV) cv k, V S ρ h.look v cv -> ∀ r j, ARef.row r j ∈ (ren0 k v).2 -> 0 <= j /\ ∃ xss row, h.look r = some (.mat xss) /\ xss[j.toNat]? = some row /\ ix xss j = row := fun v cv k hv r j hm => by
      cases v <;> simp [ren0] at hm
      obtain ⟨rfl, rfl⟩ := hm
      obtain ⟨xss, row, hr, h0, hi, _⟩ := hv.mr_inv
      exact ⟨h0, xss, row, hr, hi, by have := ix_get (List.getElem?_eq_some_iff.1 hi).1; rw [hi] at this; exact (Option.some.inj this).symm⟩
    have keyL0 : ∀ (l : List AV) (vs : List Value) k, vs.length = l.length -> (∀ (j : Nat) x v, l[j]? = some x -> vs[j]? = some v -> V S ρ h.look x v) -> ∀ r j, ARef.row r j ∈ (renL0 k l).2 -> 0 <= j /\ ∃ xss row, h.look r = some (.mat xss) /\ xss[j.toNat]? = some row /\ ix xss j = row := by
      intro l
      induction l with
      | nil => intro vs k _ _ r j hm; simp [renL0] at hm
      | cons v l ih =>
        intro vs k hl hv r j hm
        cases vs with
        | nil => simp at hl
        | cons u vs =>
          simp only [renL0, renD, List.mem_append] at hm
          rcases hm with hm | hm
          · exact key0 v u k (hv 0 v u rfl rfl) r j hm
          · exact ih vs _ (by simpa using hl) (fun q x v h1 h2 => hv (q + 1) x v (by simpa using h1) (by simpa using h2)) r j hm
    have key1 : ∀ (v : AV) cv k, V S ρ h.look v cv -> ∀ r j, ARef.row r j ∈ (ren1 k v).2 -> 0 <= j /\ ∃ xss row, h.look r = some (.mat xss) /\ xss[j.toNat]? = some row /\ ix xss j = row := fun v cv k hv r j hm => by
      cases v with
      | agg cs =>
        obtain ⟨us, rfl, hl, hc⟩ := hv.agg_inv
        exact keyL0 cs us.toList k (by simpa using hl) (fun q x v h1 h2 => hc q x v h1 (by simpa using h2)) r j hm
      | fn f cs =>
        obtain ⟨us, rfl, hl, hc⟩ := hv.fn_inv
        exact keyL0 cs us.toList k (by simpa using hl) (fun q x v h1 h2 => hc q x v h1 (by simpa using h2)) r j hm
      | _ => exact key0 _ cv k hv r j hm
    have keyL : ∀ (l : List AV) (vs : List Value) k, vs.length = l.length -> (∀ (j : Nat) x v, l[j]? = some x -> vs[j]? = some v -> V S ρ h.look x v) -> ∀ r j, ARef.row r j ∈ (renL k l).2 -> 0 <= j /\ ∃ xss row, h.look r = some (.mat xss) /\ xss[j.toNat]? = some row /\ ix xss j = row := by
      intro l
      induction l with
      | nil => intro vs k _ _ r j hm; simp [renL] at hm
      | cons v l ih =>
        intro vs k hl hv r j hm
        cases vs with
        | nil => simp at hl
        | cons u vs =>
          simp only [renL, renD, List.mem_append] at hm
          rcases hm with hm | hm
          · exact key1 v u k (hv 0 v u rfl rfl) r j hm
          · exact ih vs _ (by simpa using hl) (fun q x v h1 h2 => hv (q + 1) x v (by simpa using h1) (by simpa using h2)) r j hm
    intro i r j hi
    refine keyL (xs.map (opnd e) ++ caps) (xs.map a.eval ++ vs.toList) 0 (by simp [hvl]) hargsV r j ?_
    rw [hra, hrefs]; exact List.mem_of_getElem? hi
  -- feet of the callee's heap are the caller's
  have hft : ∀ i j, foot ρc prh.look i j -> ∃ a, refs[i]? = some a /\ ∃ j', foot ρ h.look a.base j' /\ ρ.blk a.base j' = ρc.blk i j /\ (∀ r, a = .whole r -> j' = j) /\ (∀ r k, a = .row r k -> j = 0 /\ j' = k.toNat + 1) := fun i j hf => by
    cases hi : refs[i]? with
    | none => unfold foot at hf; rw [look, hi] at hf; exact hf.elim
    | some ar =>
      refine ⟨ar, rfl, ?_⟩
      cases ar with
      | whole r =>
        obtain ⟨h1, h2, h3⟩ := cW i r hi
        exact ⟨j, foot_ren (lookW i r hi) h2 h3 hf, (h1 j).symm, fun _ _ => rfl, fun _ _ h => (by cases h)⟩
      | row r k =>
        obtain ⟨h1, h2⟩ := cR i r k hi
        obtain ⟨_, xss, row, hr, hik, _⟩ := hrowB i r k hi
        unfold foot at hf
        rw [lookR i r k xss hi hr] at hf
        obtain ⟨rfl, h0⟩ := hf
        rw [h2] at h0
        exact ⟨k.toNat + 1, foot_row hr hik h0, (h1 0).symm, fun _ h => (by cases h), fun _ _ h => (by cases h; exact ⟨rfl, rfl⟩)⟩
  have hbase : ∀ (i i' : Nat) a a', refs[i]? = some a -> refs[i']? = some a' -> a.base = a'.base -> i = i' := fun i i' a a' h1 h2 e => by
    have e1 : (refs.map ARef.base)[i]? = some a.base := by rw [List.getElem?_map, h1]; rfl
    have e2 : (refs.map ARef.base)[i']? = some a'.base := by rw [List.getElem?_map, h2]; rfl
    rw [<- e] at e2
    exact (List.getElem?_inj (List.getElem?_eq_some_iff.1 e1).1 hnd).1 (e1.trans e2.symm)
  let ownC : Nat -> Prop := fun b => w.heap.size <= b \/ ∃ i j, foot ρc prh.look i j /\ ρc.blk i j = b
  have ownC_own : ∀ b, ownC b -> x.own b := fun b hb => by
    rcases hb with hb | ⟨i, j, hf, rfl⟩
    · exact x.hown b (Nat.le_trans hkept.size hb)
    · obtain ⟨ar, _, j', hf', e', _⟩ := hft i j hf
      rw [<- e']; exact (hrel.owned _ _ hf').1
  have hrelC : Rel ownC S ρc prh.look w := by
    refine ⟨hrel.stab, hrel.amb, fun i k hi => ?_, fun i j hf => ⟨.inr ⟨i, j, hf, rfl⟩, ?_⟩, fun i j i' j' h1 h2 e' => ?_⟩
    · cases hri : refs[i]? with
      | none => rw [look, hri] at hi; cases hi
      | some ar =>
        cases ar with
        | whole r =>
          obtain ⟨h1, h2, h3⟩ := cW i r hri
          rw [lookW i r hri] at hi
          obtain ⟨b, hb, hpl⟩ := isW i r hri
          rw [hb] at hi; cases hi
          exact (hrel.blk r _ hb).at hpl h1 h2 h3
        | row r j =>
          obtain ⟨h1, h2⟩ := cR i r j hri
          obtain ⟨h0, xss, row, hr, hij, hix⟩ := hrowB i r j hri
          rw [lookR i r j xss hri hr, hix] at hi; cases hi
          obtain ⟨c, g1, g2, g3, g4⟩ := hrel.blk r _ hr
          obtain ⟨⟨u, hu, ad, hl, _, _⟩, hd'⟩ := g4 _ _ hij
          by_cases hc0 : ρ.rcap r j.toNat = 0
          · have hrow0 : row = [] := List.length_eq_zero_iff.1 (by omega)
            subst hrow0
            refine ⟨[], 1, #[], rfl, fun h => (h (by rw [h2]; exact hc0)).elim, by rw [h2, hc0]; rfl, by simp, ⟨fun x hx => by simp at hx, fun i x j y hx => by simp at hx⟩⟩
          · obtain ⟨d, hd1, hd2, hd3⟩ := hd' hc0
            refine ⟨row.map .i, 1, d, rfl, fun _ => by rw [h1]; exact hd1, by rw [h2, Nat.mul_one]; exact hd2, by rw [h2]; simpa using hl, ⟨fun y hy => ?_, fun q y q' z hy hz => ?_⟩⟩
            · obtain ⟨n', _, rfl⟩ := List.mem_map.1 hy; rfl
            · rw [List.getElem?_map] at hy
              obtain ⟨n', hn', rfl⟩ := Option.map_eq_some_iff.1 hy
              cases q' with
              | zero => simp [AV.cells] at hz; subst hz; exact ⟨_, by simpa using hd3 _ _ hn', .int _ _⟩
              | succ q' => simp [AV.cells] at hz
    · obtain ⟨ar, _, j', hf', e', _⟩ := hft i j hf
      rw [<- e']; exact (hrel.owned _ _ hf').2
    · obtain ⟨a1, ha1, j1, hf1, e1, w1, r1⟩ := hft i j h1
      obtain ⟨a2, ha2, j2, hf2, e2, w2, r2⟩ := hft i' j' h2
      obtain ⟨eb, ej⟩ := hrel.sep _ _ _ _ hf1 hf2 (e1.trans (e'.trans e2.symm))
      have ei := hbase i i' a1 a2 ha1 ha2 eb
      subst ei
      rw [ha1] at ha2; cases ha2
      refine ⟨rfl, ?_⟩
      cases a1 with
      | whole r => rw [<- w1 r rfl, <- w2 r rfl]; exact ej
      | row r k => rw [(r1 r k rfl).1, (r2 r k rfl).1]
  obtain ⟨hshapeZ, hspec⟩ : (∀ z, (R z).1 -> ∀ r k k', prh.look r = some k -> (R z).2.2.look r = some k' -> SameShape k k') /\ SpecZ P g ra.1 prh refs.length R := by
    have := (hT g _ hfind ra.1 prh refs.length (fun r hr => by
      rw [look] at hr
      rcases Nat.lt_or_ge r refs.length with h | h
      · exact h
      · rw [List.getElem?_eq_none h] at hr; exact (hr rfl).elim) (by rw [hres]; exact hpre))
    rw [hres] at this; exact this
  have hargsC := renL_ok (ρc := ρc) (Hc := prh.look) (xs.map (opnd e) ++ caps) (xs.map a.eval ++ vs.toList) 0 hargsV (by rw [hra, hrefs]; exact corr)
  rw [hra] at hargsC
  have hcalls := hspec ownC S ρc w ((xs.map a.eval).toArray ++ vs) (fun b hb => .inl hb) hrelC (by rw [hargsC.1]; simp [hvl]) (fun j y v hy hv => hargsC.2 j y v hy (by
    have : ((xs.map a.eval).toArray ++ vs).toList = xs.map a.eval ++ vs.toList := by simp
    rw [<- this, Array.getElem?_toList]; exact hv))
  have hrun : (execOp a.eval o).run P w = .ok (.enter g ((xs.map a.eval).toArray ++ vs)) w := by
    simp [execOp, ho, resolve, hev, Deferred.ofValue, invoke]
    exact run_callFunc (hCall g _ hfind) _ w
  unfold Oper.wp
  rw [hrun]
  show Calls P g _ w _
  refine hcalls.mono ?_
  rintro en w' ⟨z, hG, cv, S', ρc', rfl, hrel', hle, hfresh, hkeptC, hval, hfixC⟩
  have hshape := hshapeZ z hG
  obtain ⟨hck, hK2⟩ := hz z hG
  simp only [callC, hrefs] at hck hK2
  generalize R z = Rz at *
  obtain ⟨G, val, post⟩ := Rz
  simp only at hshape hck hK2 hrel' hval hfixC
  obtain ⟨_, hck⟩ := hck
  simp only [Bool.and_eq_true] at hck
  obtain ⟨⟨_, hplp⟩, hrows⟩ := hck
  -- the caller's heap behind it
  generalize hφ : purN (gone post 0 refs) [] = φ at *
  generalize hH' : newM refs.length n post ++ updH φ (mkUpd h post 0 refs) h = h' at *
  let ρ' : Rho := ⟨fun q j => if n <= q then ρc'.blk (q - n + refs.length) j else ρ.blk q j, fun q => if n <= q then ρc'.cap (q - n + refs.length) else ρ.cap q, fun q j => if n <= q then ρc'.rcap (q - n + refs.length) j else ρ.rcap q j⟩
  have hlookN : ∀ q, n <= q -> h'.look q = post.look (q - n + refs.length) := fun q hq => by
    rw [<- hH', <- addH_look]
    unfold addH
    rw [newM_look, if_pos hq]
    cases hpq : post.look (q - n + refs.length) with
    | some k => rfl
    | none =>
      simp only [updH_look]
      have : h.look q = none := by
        cases hh : h.look q with
        | none => rfl
        | some k => have := hn q (by rw [hh]; simp); omega
      rw [this]
      cases assoc (mkUpd h post 0 refs) q <;> simp
  have hlookO : ∀ q, q < n -> h'.look q = (updH φ (mkUpd h post 0 refs) h).look q := fun q hq => by
    rw [<- hH', <- addH_look]
    unfold addH
    rw [newM_look, if_neg (by omega)]
  have hlookU : ∀ q, q < n -> (∀ a ∈ refs, a.base ≠ q) -> h'.look q = (h.look q).map (Blk.tr φ) := fun q hq hb => by
    rw [hlookO q hq, updH_look, assoc_none h post refs 0 hb]
  have hbn : ∀ (i : Nat) a, refs[i]? = some a -> a.base < n /\ h.look a.base ≠ none := fun i a hi => by
    have : h.look a.base ≠ none := by
      cases a with
      | whole r => obtain ⟨b, hb, _⟩ := isW i r hi; show h.look r ≠ none; rw [hb]; simp
      | row r j => obtain ⟨xss, hx⟩ := isR i r j hi; show h.look r ≠ none; rw [hx]; simp
    exact ⟨hn _ this, this⟩
  have hlookB : ∀ (i : Nat) a, refs[i]? = some a -> h'.look a.base = updB h post i a := fun i a hi => by
    obtain ⟨h1, h2⟩ := hbn i a hi
    rw [hlookO _ h1, updH_look, assoc_some h post refs 0 i a hnd hi, Nat.zero_add]
    simp only
    rw [if_pos (Option.isSome_iff_ne_none.2 h2)]
  have hrowP : ∀ (i : Nat) r j, refs[i]? = some (.row r j) -> ∃ ys, post.look i = some (.arr (.ints ys)) := fun i r j hi => by
    have := rowsOK_spec hrows i r j hi
    rwa [Nat.zero_add] at this
  -- old blocks keep their shape, or are gone
  have hold : ∀ q k, h.look q = some k -> (q ∈ gone post 0 refs /\ h'.look q = none) \/ (q ∉ gone post 0 refs /\ ∃ k', h'.look q = some k' /\ SameShape k k') := fun q k hq => by
    have hqn : q < n := hn q (by rw [hq]; simp)
    by_cases hb : ∃ (i : Nat) (a : ARef), refs[i]? = some a /\ a.base = q
    · obtain ⟨i, ar, hi, rfl⟩ := hb
      have hg : ar.base ∈ gone post 0 refs ↔ post.look i = none := by
        rw [gone_spec]
        constructor
        · rintro ⟨i', a', h1, h2, h3⟩
          have := hbase i' i a' ar h1 hi h2
          subst this; rwa [Nat.zero_add] at h3
        · intro h3; exact ⟨i, ar, hi, rfl, by rw [Nat.zero_add]; exact h3⟩
      cases hpi : post.look i with
      | none =>
        refine .inl ⟨hg.2 hpi, ?_⟩
        rw [hlookB i ar hi]
        cases ar with
        | whole r => exact hpi
        | row r j => obtain ⟨ys, hy⟩ := hrowP i r j hi; rw [hpi] at hy; cases hy
      | some kp =>
        refine .inr ⟨(fun h => by rw [hg.1 h] at hpi; cases hpi), ?_⟩
        rw [hlookB i ar hi]
        cases ar with
        | whole r => exact ⟨kp, hpi, hshape i k kp (by rw [lookW i r hi]; exact hq) hpi⟩
        | row r j =>
          obtain ⟨h0, xss, row, hr, hij, hix⟩ := hrowB i r j hi
          obtain ⟨ys, hy⟩ := hrowP i r j hi
          have hq' : h.look r = some k := hq
          rw [hr] at hq'; cases hq'
          have hsh := hshape i _ _ (lookR i r j xss hi hr) hy
          rw [hix] at hsh
          have hlen : row.length = ys.length := by
            cases hsh with
            | arr _ _ xs1 xs2 m1 g1 g2 hl =>
              simp only [AV.elems, Option.some.injEq, Prod.mk.injEq] at g1 g2
              obtain ⟨rfl, _⟩ := g1; obtain ⟨rfl, _⟩ := g2
              simpa using hl
          refine ⟨.mat (xss.set j.toNat ys), by simp only [updB]; rw [hr, hy], .mat _ _ (by simp) (fun q y z hy' hz => ?_)⟩
          rw [getElem?_set_list _ _ _ _ (List.getElem?_eq_some_iff.1 hij).1] at hz
          split at hz
          · rename_i e1; subst e1; cases hz; rw [hij] at hy'; cases hy'; exact hlen
          · rw [hy'] at hz; cases hz; rfl
    · refine .inr ⟨fun hg => ?_, _, by rw [hlookU q hqn (fun a ha e1 => hb (by obtain ⟨i, hi⟩ := List.mem_iff_getElem?.1 ha; exact ⟨i, a, hi, e1⟩)), hq]; rfl, same_tr (hrel.blk q k hq) φ⟩
      obtain ⟨i, a, h1, h2, _⟩ := (gone_spec post refs 0 q).1 hg
      exact hb ⟨i, a, h1, h2⟩
  have bO : ∀ q j, q < n -> ρ'.blk q j = ρ.blk q j := fun q j hq => by simp only [ρ']; rw [if_neg (by omega)]
  have cO : ∀ q, q < n -> ρ'.cap q = ρ.cap q := fun q hq => by simp only [ρ']; rw [if_neg (by omega)]
  have rO : ∀ q j, q < n -> ρ'.rcap q j = ρ.rcap q j := fun q j hq => by simp only [ρ']; rw [if_neg (by omega)]
  have bN : ∀ q j, n <= q -> ρ'.blk q j = ρc'.blk (q - n + refs.length) j := fun q j hq => by simp only [ρ']; rw [if_pos hq]
  have cN : ∀ q, n <= q -> ρ'.cap q = ρc'.cap (q - n + refs.length) := fun q hq => by simp only [ρ']; rw [if_pos hq]
  have rN : ∀ q j, n <= q -> ρ'.rcap q j = ρc'.rcap (q - n + refs.length) j := fun q j hq => by simp only [ρ']; rw [if_pos hq]
  have hV : ∀ u cv, V S ρ h.look u cv -> V S' ρ' h'.look (u.tr φ) cv := fun u cv hu => hu.tr hle (fun a1 cv1 hra1 hv1 => by
    rw [<- hφ]
    refine purN_ref hra1 hv1 (fun n1 _ _ => ?_)
    obtain ⟨k, hk⟩ := hv1.rbase hra1
    have hqn := hn _ (show h.look a1.rbase ≠ none by rw [hk]; simp)
    refine hv1.ref_shape hra1 (fun k' hk' => ?_) (fun j => bO _ j hqn) (cO _ hqn) (fun j => rO _ j hqn)
    rcases hold _ k' hk' with ⟨h1, _⟩ | ⟨_, h2⟩
    · exact (n1 h1).elim
    · exact h2)
  have hfo : ∀ q j, q < n -> foot ρ' h'.look q j -> foot ρ h.look q j := fun q j hq hf => by
    cases hh : h.look q with
    | none =>
      exfalso
      unfold foot at hf
      have : h'.look q = none := by
        rw [hlookU q hq (fun a ha e1 => by
          obtain ⟨i, hi⟩ := List.mem_iff_getElem?.1 ha
          have := (hbn i a hi).2
          rw [e1] at this; exact this hh), hh]; rfl
      rw [this] at hf; exact hf
    | some k =>
      rcases hold q k hh with ⟨_, h2⟩ | ⟨_, k', h2, h3⟩
      · unfold foot at hf; rw [h2] at hf; exact hf.elim
      · exact (foot_same hh h2 h3 (cO q hq) (fun i => rO q i hq)).1 hf
  -- an old foot that the callee owned is a foot of the callee's heap, behind the call too
  have hfc : ∀ q j, q < n -> foot ρ' h'.look q j -> ownC (ρ.blk q j) -> ∃ i j', refs[i]? ≠ none /\ foot ρc' post.look i j' /\ ρc'.blk i j' = ρ.blk q j := fun q j hq hf ho => by
    have hf0 := hfo q j hq hf
    rcases ho with ho | ⟨i, j', hfi, e1⟩
    · have := hrel.foot_lt hf0; omega
    · obtain ⟨ar, hi, j2, hf2, e2, w2, r2⟩ := hft i j' hfi
      obtain ⟨eb, ej⟩ := hrel.sep _ _ _ _ hf2 hf0 (e2.trans e1)
      have hil : i < refs.length := (List.getElem?_eq_some_iff.1 hi).1
      cases hpi : post.look i with
      | none =>
        exfalso
        have : h'.look q = none := by
          rw [<- eb, hlookB i ar hi]
          cases ar with
          | whole r => exact hpi
          | row r j => obtain ⟨ys, hy⟩ := hrowP i r j hi; rw [hpi] at hy; cases hy
        unfold foot at hf; rw [this] at hf; exact hf
      | some kp =>
        obtain ⟨f1, f2, f3⟩ := hfixC i hil (by rw [hpi]; simp)
        cases hpr : prh.look i with
        | none => unfold foot at hfi; rw [hpr] at hfi; exact hfi.elim
        | some k0 => exact ⟨i, j', by rw [hi]; simp, (foot_same hpr hpi (hshape i k0 kp hpr hpi) f2 f3).2 hfi, by rw [f1, e1]⟩
  have hcells : ∀ q j c, foot ρ h.look q j -> ¬ ownC (ρ.blk q j) -> OwnCells w (ρ.blk q j) c -> OwnCells w' (ρ.blk q j) c := fun q j c hf hno ⟨el, he⟩ =>
    ⟨el, by rw [hkeptC.block _ (hrel.foot_lt hf) hno]; exact he⟩
  have hg : Rel x.own S' ρ' h'.look w' := by
    refine ⟨hrel'.stab, hrel'.amb, fun q k hq => ?_, fun q j hf => ?_, fun q j q' j' h1 h2 e1 => ?_⟩
    · by_cases hqn : n <= q
      · rw [hlookN q hqn] at hq
        exact (hrel'.blk _ k hq).at (Heap.plain_look hplp hq) (fun j => bN q j hqn) (cN q hqn) (fun j => rN q j hqn)
      · have hqn : q < n := by omega
        by_cases hb : ∃ (i : Nat) (a : ARef), refs[i]? = some a /\ a.base = q
        · obtain ⟨i, ar, hi, rfl⟩ := hb
          have hil : i < refs.length := (List.getElem?_eq_some_iff.1 hi).1
          rw [hlookB i ar hi] at hq
          cases ar with
          | whole r =>
            have hq : post.look i = some k := hq
            obtain ⟨f1, f2, f3⟩ := hfixC i hil (by rw [hq]; simp)
            obtain ⟨c1, c2, c3⟩ := cW i r hi
            exact (hrel'.blk i k hq).at (Heap.plain_look hplp hq) (fun j => by show ρ'.blk r j = _; rw [bO r j hqn, f1, c1]) (by show ρ'.cap r = _; rw [cO r hqn, f2, c2]) (fun j => by show ρ'.rcap r j = _; rw [rO r j hqn, f3, c3])
          | row r j =>
            obtain ⟨h0, xss, row, hr, hij, hix⟩ := hrowB i r j hi
            obtain ⟨ys, hy⟩ := hrowP i r j hi
            simp only [updB] at hq
            rw [hr, hy] at hq; cases hq
            obtain ⟨f1, f2, f3⟩ := hfixC i hil (by rw [hy]; simp)
            obtain ⟨c1, c2⟩ := cR i r j hi
            have hlt := (List.getElem?_eq_some_iff.1 hij).1
            obtain ⟨c, g1, g2, g3, g4⟩ := hrel.blk r _ hr
            obtain ⟨xs2, m2, cy, he2, hcy, hszy, hcapy, harr⟩ := hrel'.blk i _ hy
            simp only [AV.elems, Option.some.injEq, Prod.mk.injEq] at he2; obtain ⟨rfl, rfl⟩ := he2
            rw [f2, c2] at hszy hcapy hcy
            rw [f1, c1] at hcy
            simp only [List.length_map, Nat.mul_one] at hszy hcapy
            have hsh := hshape i _ _ (lookR i r j xss hi hr) hy
            rw [hix] at hsh
            have hlen : row.length = ys.length := by
              cases hsh with
              | arr _ _ xs1 xs2 m1 g1 g2 hl =>
                simp only [AV.elems, Option.some.injEq, Prod.mk.injEq] at g1 g2
                obtain ⟨rfl, _⟩ := g1; obtain ⟨rfl, _⟩ := g2
                simpa using hl
            have nown : ∀ j', j' ≠ j.toNat + 1 -> foot ρ h.look r j' -> ¬ ownC (ρ.blk r j') := fun j' hj' hf' ho => by
              rcases ho with ho | ⟨i', j1, hfi, e1⟩
              · have := hrel.foot_lt hf'; omega
              · obtain ⟨ar, hi', j2, hf2, e2, w2, r2⟩ := hft i' j1 hfi
                obtain ⟨eb, ej⟩ := hrel.sep _ _ _ _ hf2 hf' (e2.trans e1)
                have := hbase i' i ar (.row r j) hi' hi eb
                subst this
                rw [hi] at hi'; cases hi'
                exact hj' (ej.symm.trans (r2 r j rfl).2)
            have br : ∀ j', ρ'.blk r j' = ρ.blk r j' := fun j' => bO r j' hqn
            have rr : ∀ j', ρ'.rcap r j' = ρ.rcap r j' := fun j' => rO r j' hqn
            have cr : ρ'.cap r = ρ.cap r := cO r hqn
            show BlkRel S' ρ' h'.look w' r _
            refine ⟨c, fun h0' => by rw [cr] at h0'; rw [br]; exact hcells r 0 c (foot_mat hr h0') (nown 0 (by omega) (foot_mat hr h0')) (g1 h0'), by rw [cr]; exact g2, by rw [cr]; simpa using g3, fun q row' hq => ⟨?_, fun hne => ?_⟩⟩
            · rw [getElem?_set_list _ _ _ _ hlt] at hq
              split at hq
              · rename_i eq; subst eq; cases hq
                obtain ⟨u, hu, ad, a1, a2, a3⟩ := (g4 _ _ hij).1
                exact ⟨u, hu, ad, by rw [rr, <- hlen]; exact a1, by rw [rr, <- hlen]; exact a2, by rw [rr, br]; exact a3⟩
              · obtain ⟨u, hu, hrow⟩ := (g4 _ _ hq).1
                exact ⟨u, hu, hrow.keep (br _) (rr _)⟩
            · rw [rr] at hne ⊢
              rw [br]
              rw [getElem?_set_list _ _ _ _ hlt] at hq
              split at hq
              · rename_i eq; subst eq; cases hq
                refine ⟨cy, hcy hne, hszy, fun q' n' hq' => ?_⟩
                obtain ⟨u, hu, hsu⟩ := harr.2 q' (.i n') 0 (.i n') (by rw [List.getElem?_map, hq']; rfl) rfl
                simp only [Nat.mul_one, Nat.add_zero] at hu
                rw [hu]; cases hsu with
                | int => rfl
                | lst _ _ _ _ _ he => simp [AV.elems] at he
              · rename_i eq
                obtain ⟨d, hd1, hd2⟩ := (g4 _ _ hq).2 hne
                exact ⟨d, hcells r (q + 1) d (foot_row hr hq hne) (nown (q + 1) (by omega) (foot_row hr hq hne)) hd1, hd2⟩
        · have hnb : ∀ a ∈ refs, a.base ≠ q := fun a ha e1 => hb (by obtain ⟨i, hi⟩ := List.mem_iff_getElem?.1 ha; exact ⟨i, a, hi, e1⟩)
          rw [hlookU q hqn hnb] at hq
          obtain ⟨k0, hk0, rfl⟩ := Option.map_eq_some_iff.1 hq
          refine (hrel.blk q k0 hk0).stands hle hV (fun j => bO q j hqn) (cO q hqn) (fun j => rO q j hqn) hk0 (fun j c hf hc => hcells q j c hf (fun ho => ?_) hc)
          rcases ho with ho | ⟨i', j1, hfi, e1⟩
          · have := hrel.foot_lt hf; omega
          · obtain ⟨ar, hi', j2, hf2, e2, _, _⟩ := hft i' j1 hfi
            exact hnb ar (List.mem_of_getElem? hi') (hrel.sep _ _ _ _ hf2 hf (e2.trans e1)).1
    · by_cases hqn : n <= q
      · rw [bN q j hqn]
        have hf' : foot ρc' post.look (q - n + refs.length) j := foot_ren (hlookN q hqn) (cN q hqn) (fun i => rN q i hqn) hf
        obtain ⟨o1, o2⟩ := hrel'.owned _ _ hf'
        exact ⟨ownC_own _ o1, o2⟩
      · have hqn : q < n := by omega
        rw [bO q j hqn]
        have hf0 := hfo q j hqn hf
        obtain ⟨o1, o2⟩ := hrel.owned q j hf0
        refine ⟨o1, ?_⟩
        cases hS : S' (ρ.blk q j) with
        | none => rfl
        | some c =>
          exfalso
          obtain ⟨i, j', _, hf', e1⟩ := hfc q j hqn hf (hfresh _ o2 (by rw [hS]; simp))
          have := (hrel'.owned _ _ hf').2
          rw [e1, hS] at this; cases this
    · by_cases hqn : n <= q
      · have hf1 : foot ρc' post.look (q - n + refs.length) j := foot_ren (hlookN q hqn) (cN q hqn) (fun i => rN q i hqn) h1
        by_cases hqn' : n <= q'
        · have hf2 : foot ρc' post.look (q' - n + refs.length) j' := foot_ren (hlookN q' hqn') (cN q' hqn') (fun i => rN q' i hqn') h2
          rw [bN q j hqn, bN q' j' hqn'] at e1
          obtain ⟨g1, g2⟩ := hrel'.sep _ _ _ _ hf1 hf2 e1
          exact ⟨by omega, g2⟩
        · exfalso
          have hqn' : q' < n := by omega
          rw [bN q j hqn, bO q' j' hqn'] at e1
          obtain ⟨i, j2, hi, hf', e2⟩ := hfc q' j' hqn' h2 (by rw [<- e1]; exact (hrel'.owned _ _ hf1).1)
          have := (hrel'.sep _ _ _ _ hf' hf1 (e2.trans e1.symm)).1
          rw [this, List.getElem?_eq_none (by omega)] at hi; exact hi rfl
      · have hqn : q < n := by omega
        by_cases hqn' : n <= q'
        · exfalso
          have hf2 : foot ρc' post.look (q' - n + refs.length) j' := foot_ren (hlookN q' hqn') (cN q' hqn') (fun i => rN q' i hqn') h2
          rw [bO q j hqn, bN q' j' hqn'] at e1
          obtain ⟨i, j2, hi, hf', e2⟩ := hfc q j hqn h1 (by rw [e1]; exact (hrel'.owned _ _ hf2).1)
          have := (hrel'.sep _ _ _ _ hf' hf2 (e2.trans e1)).1
          rw [this, List.getElem?_eq_none (by omega)] at hi; exact hi rfl
        · have hqn' : q' < n := by omega
          rw [bO q j hqn, bO q' j' hqn'] at e1
          exact hrel.sep _ _ _ _ (hfo q j hqn h1) (hfo q' j' hqn' h2) e1
  have hvv : V S' ρ' h'.look (val.tr (backA refs refs.length n)) cv := by
    refine hval.tr (fun _ _ h => h) (fun a1 cv1 hra1 hv1 => hv1.back (H1 := post.look) (ρ1 := ρc') rfl (fun i r k hi hk => ?_) (fun i r j ys hi hy => ?_) (fun i r j k hi hk => ?_) (fun i k hi hk => ?_) hra1)
    · have hil : i < refs.length := (List.getElem?_eq_some_iff.1 hi).1
      obtain ⟨f1, f2, f3⟩ := hfixC i hil (by rw [hk]; simp)
      obtain ⟨c1, c2, c3⟩ := cW i r hi
      have hrn := (hbn i _ hi).1
      exact ⟨by have := hlookB i _ hi; exact this.trans hk, fun j => by rw [bO r j hrn, f1, c1], by rw [cO r hrn, f2, c2], fun j => by rw [rO r j hrn, f3, c3]⟩
    · have hil : i < refs.length := (List.getElem?_eq_some_iff.1 hi).1
      obtain ⟨f1, f2, f3⟩ := hfixC i hil (by rw [hy]; simp)
      obtain ⟨c1, c2⟩ := cR i r j hi
      have hrn := (hbn i _ hi).1
      obtain ⟨h0, xss, row, hr, hij, hix⟩ := hrowB i r j hi
      refine ⟨h0, xss.set j.toNat ys, ?_, ?_, ?_, ?_, ?_⟩
      · have := hlookB i _ hi
        simp only [updB, ARef.base] at this
        rw [this, hr, hy]
      · rw [getElem?_set_list _ _ _ _ (List.getElem?_eq_some_iff.1 hij).1, if_pos rfl]
      · rw [bO r _ hrn, f1, c1]
      · rw [rO r _ hrn, f2, c2]
      · obtain ⟨xs2, m2, cy, he2, hcy, hszy, hcapy, harr⟩ := hrel'.blk i _ hy
        simp only [AV.elems, Option.some.injEq, Prod.mk.injEq] at he2; obtain ⟨rfl, rfl⟩ := he2
        simpa using hcapy
    · obtain ⟨ys, hy⟩ := hrowP i r j hi
      rw [hk] at hy; cases hy; exact ⟨ys, rfl⟩
    · have hq : n <= n + (i - refs.length) := Nat.le_add_right _ _
      have e1 : n + (i - refs.length) - n + refs.length = i := by omega
      exact ⟨by rw [hlookN _ hq, e1]; exact hk, fun j => by rw [bN _ j hq, e1], by rw [cN _ hq, e1], fun j => by rw [rN _ j hq, e1]⟩
  refine hK _ _ _ _ _ _ hK2 ⟨S', ρ', fun b c hb => hle b c (s1 b c hb), fun b h1 h2 => ?_, hg, fun q h1 h2 => ?_, EnvRel.put (fun t => by rw [trE_get _ _ _ (by rw [<- hφ]; rfl)]; exact hV _ _ (hE t)) hvv (fun t ht => by rw [hk]; exact hd t ht),
    hkept.trans ⟨hkeptC.os, hkeptC.tape, hkeptC.output, hkeptC.size, fun b hb hno => hkeptC.block b hb (fun ho => hno (ownC_own b ho)), hkeptC.drawn⟩, by rw [put_size]; exact hk, by rw [put_defers]; exact hdf, fun q hq => ?_, by omega⟩
  · by_cases hSb : S b = none
    · exact ownC_own _ (hfresh b hSb h2)
    · exact s2 b h1 hSb
  · have hqn : q < n := by omega
    have hq0 : h.look q ≠ none := fun e0 => h2 (by
      rw [hlookU q hqn (fun a ha e1 => by
        obtain ⟨i, hi⟩ := List.mem_iff_getElem?.1 ha
        have := (hbn i a hi).2
        rw [e1] at this; exact this e0), e0]; rfl)
    obtain ⟨f1, f2, f3⟩ := hfx q h1 hq0
    exact ⟨fun j => by rw [bO q j hqn, f1], by rw [cO q hqn, f2], fun j => by rw [rO q j hqn, f3]⟩
  · by_cases hqn : n <= q
    · rw [hlookN q hqn] at hq
      have := topH_look hq
      omega
    · omega
end
end Go.Vc
namespace Go.Vc
open Go.RowKit
structure TabOK (P : Program) (C : Table) : Prop where
  spec : TableOK P C
  call : ∀ f c, (f, c) ∈ C -> Callable P f
section
variable {P : Program} {C : Table} {hint : Hint} {x : Cx}
theorem look_ne_append {new h : Heap} {r : Nat} (hr : (new ++ h).look r ≠ none) : new.look r ≠ none \/ h.look r ≠ none := by
  rw [<- addH_look] at hr
  unfold addH at hr
  cases hn : new.look r with
  | some k => exact .inl (by simp)
  | none => rw [hn] at hr; exact .inr hr
theorem evalH_keys (hC : TableOK P C) {o : Oper} {e : Env} {h : Heap} {n : Nat} (hp : (evalH P C hint o e h n).pre) : ∀ r, (evalH P C hint o e h n).new.look r ≠ none -> n <= r /\ r < n + (evalH P C hint o e h n).cnt := by
  intro r hr
  have hbox : ∀ (ow : Bool) (v : AV), (boxR ow n v).new.look r ≠ none -> n <= r /\ r < n + (boxR ow n v).cnt := fun ow v hr => by
    cases ow with
    | true =>
      simp only [boxR, cond_true, Heap.look] at hr ⊢
      split at hr
      · rename_i e; subst e; simp
      · exact (hr rfl).elim
    | false => simp [boxR, Heap.look] at hr
  have hnewL : ∀ (ow : Bool) (p : Prop) (v : Option AV), (newL ow n p v).new.look r ≠ none -> n <= r /\ r < n + (newL ow n p v).cnt := fun ow p v hr => by
    cases v with
    | none => simp [newL, noRes, Heap.look] at hr
    | some v =>
      cases ow with
      | true =>
        simp only [newL, cond_true, Heap.look] at hr ⊢
        split at hr
        · rename_i e; subst e; simp
        · exact (hr rfl).elim
      | false => simp [newL, Heap.look] at hr
  unfold evalH at hr hp ⊢
  split at hr <;> first | (simp [rv, Heap.look] at hr; done) | (simp [buildS_new, Heap.look] at hr; done) | skip
  · rename_i ho; (try simp only [ho]); exact hbox _ _ hr
  · rename_i ho
    simp only [ho] at *
    unfold allocR at hr ⊢
    cases hz : zv P _ with
    | none => rw [hz] at hr; simp [Heap.look] at hr
    | some z => simp only [hz] at hr ⊢; exact hbox _ _ hr
  · rename_i ho
    simp only [ho] at *
    cases hm : hint.mat (o.dst.getD 0) with
    | true =>
      simp only [hm, selR, cond_true, buildMR, Heap.look] at hr ⊢
      split at hr
      · rename_i e; subst e; simp
      · exact (hr rfl).elim
    | false =>
      simp only [hm, selR, cond_false] at hr ⊢
      rename_i _ t len ps
      cases hpu : (ps.map fun p => opnd e p.2).all AV.pureB with
      | true => simp only [hpu, cond_true] at hr ⊢; exact hnewL _ _ _ hr
      | false => simp only [hpu, cond_false] at hr ⊢; simp [vecR, Heap.look] at hr
  · rename_i ho
    simp only [ho] at *
    cases hm : hint.mat (o.dst.getD 0) with
    | true =>
      simp only [hm, selR, cond_true] at hr ⊢
      unfold makeMR at hr ⊢
      split at hr
      · simp only [Heap.look] at hr ⊢
        split at hr
        · rename_i e; subst e; simp
        · exact (hr rfl).elim
      · simp [noRes, Heap.look] at hr
    | false =>
      simp only [hm, selR, cond_false] at hr ⊢
      unfold makeR at hr ⊢
      split at hr
      · exact hnewL _ _ _ hr
      · simp [noRes, Heap.look] at hr
  · rename_i ho
    simp only [ho] at *
    unfold appN at hr ⊢
    split at hr
    · exact hnewL _ _ _ hr
    · simp [noRes, Heap.look] at hr
  · rename_i f xs ts ho
    simp only [ho] at *
    cases hh : hint (o.dst.getD 0) with
    | true =>
      simp only [hh, frzNew, cond_true] at hr hp ⊢
      cases hf : opnd e f with
      | fn g caps =>
        rw [hf] at hp hr
        obtain ⟨hpre, _⟩ := hp
        have hfind : (g, .p (C.find g)) ∈ C := by
          rcases Table.find_mem (C := C) (f := g) with h | h
          · rw [h] at hpre; exact hpre.elim
          · exact h
        have h1 := (hC g _ hfind _ _ hpre).2 r hr
        have h2 := topH_look hr
        exact ⟨h1, by omega⟩
      | bnd g caps =>
        rw [hf] at hp hr
        obtain ⟨hpre, _⟩ := hp
        have hfind : (g, .p (C.find g)) ∈ C := by
          rcases Table.find_mem (C := C) (f := g) with h | h
          · rw [h] at hpre; exact hpre.elim
          · exact h
        have h1 := (hC g _ hfind _ _ hpre).2 r hr
        have h2 := topH_look hr
        exact ⟨h1, by omega⟩
      | _ => rw [hf] at hp; exact hp.elim
    | false => simp [hh, frzNew, Heap.look] at hr
theorem Sat.drop {e : Env} {h : Heap} {n m : Nat} {a : Act} {w : World} (hs : Sat x e h n a w) (hm : n <= m) : Sat x e h m a w := by
  obtain ⟨S, ρ, h1, h2, h3, hf, h4, h5, h6, h7, h8, h9⟩ := hs
  exact ⟨S, ρ, h1, h2, h3, hf, h4, h5, h6, h7, fun r hr => Nat.lt_of_lt_of_le (h8 r hr) hm, Nat.le_trans h9 hm⟩
theorem opH_ok (hT : TabOK P C) {o : Oper} {e : Env} {h : Heap} {n : Nat} {a : Act} {w : World} (hp : (evalH P C hint o e h n).pre) (hs : Sat x e h n a w) (hd : ∀ t, o.dst = some t -> t < x.k)
    {next : Act -> World -> Prop} {Q : Exit -> Act -> World -> Prop}
    (hK : ∀ a' w', Sat x (dset e o.dst (evalH P C hint o e h n).val) ((evalH P C hint o e h n).new ++ h) (n + (evalH P C hint o e h n).cnt) a' w' -> next a' w') : o.wp P a w next Q := by
  obtain ⟨S, ρ, s1, s2, hrel, hfx, hE, hkept, hk, hdf, hn, hn0⟩ := hs
  have keys := evalH_keys (hint := hint) hT.spec hp
  have hok := evalH_ok (own := x.own) (hF := ((evalH P C hint o e h n).new ++ h).look) hT.spec hT.call (hint := hint) (o := o) (e := e) (h := h) (n := n)
    (fun r k hr => by
      rw [<- addH_look]
      have : (evalH P C hint o e h n).new.look r = none := by
        cases hnw : (evalH P C hint o e h n).new.look r with
        | none => rfl
        | some k' => have h1 := keys r (by rw [hnw]; simp); have h2 := hn r (by rw [hr]; simp); omega
      rw [addH_old this]; exact hr)
    (fun r h1 h2 h3 => by
      rw [<- addH_look, addH_old h3]
      cases hr : h.look r with
      | none => rfl
      | some k => have := hn r (by rw [hr]; simp); omega) hn hp
  refine hok S ρ h.look a w (fun b hb => x.hown b (Nat.le_trans hkept.size hb)) (fun r k hr => ?_) hrel (fun y _ => hE.opnd y) (fun r hr => ?_) next Q (fun cv S' ρ' w' hg hv => ?_)
  · rw [<- addH_look]
    have : (evalH P C hint o e h n).new.look r = none := by
      cases hnw : (evalH P C hint o e h n).new.look r with
      | none => rfl
      | some k' => have h1 := keys r (by rw [hnw]; simp); have h2 := hn r (by rw [hr]; simp); omega
    rw [addH_old this]; exact hr
  · cases hr' : h.look r with
    | none => rfl
    | some k => have h1 := keys r hr; have h2 := hn r (by rw [hr']; simp); omega
  · refine hK _ _ ⟨S', ρ', fun b c hb => hg.store b c (s1 b c hb), fun b h1 h2 => ?_, by rw [<- addH_look]; exact hg.rel, ?_, ?_, hkept.trans hg.kept, by rw [put_size]; exact hk, by rw [put_defers]; exact hdf, fun r hr => ?_, by omega⟩
    · by_cases hS : S b = none
      · exact hg.fresh b hS h2
      · exact s2 b h1 hS
    · rw [<- addH_look]
      refine hfx.keep hg.keep (fun r h1 h2 => ?_)
      intro e0
      rw [addH_look] at h2
      rcases look_ne_append h2 with h3 | h3
      · have := (keys r h3).1; omega
      · exact h3 e0
    · rw [<- addH_look]
      exact (hE.ext hg.store hg.keep).put hv (fun t ht => by rw [hk]; exact hd t ht)
    · rcases look_ne_append hr with h1 | h1
      · exact (keys r h1).2
      · have := hn r h1; omega
def dstOK (k : Nat) (l : List Oper) : Bool := l.all fun o => match o.dst with | some d => decide (d < k) | none => true
theorem dstOK_mem {k : Nat} {l : List Oper} (h : dstOK k l = true) {o : Oper} (ho : o ∈ l) : ∀ t, o.dst = some t -> t < k := by
  intro t ht
  have := List.all_eq_true.1 h o ho
  rw [ht] at this
  simpa using this
theorem nil_ok {x : Cx} {e : Env} {h : Heap} {n : Nat} {a : Act} {w : World} {op : BinOp} {t t2 : TypeId} {y z : Operand} {o : Oper} (ho : o.op = .binOp op t y z t2) (hz : isNilc op z = true) (hs : Sat x e h n a w)
    {K : Bool -> Prop} (hp : nilS P t (opnd e y) z K) (hd : ∀ t, o.dst = some t -> t < x.k)
    {next : Act -> World -> Prop} {Q : Exit -> Act -> World -> Prop}
    (hK : ∀ a' w' b, K b -> Sat x (dset e o.dst (.bool (negB op b))) h n a' w' -> next a' w') : o.wp P a w next Q := by
  have hv : ∃ S ρ, V S ρ h.look (opnd e y) (a.eval y) := by obtain ⟨S, ρ, _, _, _, _, hE, _⟩ := hs; exact ⟨S, ρ, hE.opnd y⟩
  obtain ⟨S, ρ, hv⟩ := hv
  have fin : ∀ b : Bool, K b -> (execOp a.eval o).run P w = .ok (.value (.bool (negB op b))) w -> o.wp P a w next Q := fun b hKb hrun => by
    unfold Oper.wp
    rw [hrun]
    exact hK _ _ _ hKb (hs.put hd (fun S ρ _ => v_bool _))
  have keyS : isSl P t /\ nilV (opnd e y) K -> ∃ (ad : Option Addr) (len cap : Nat) (el : TypeId), P.underlying t = some (.slice el) /\ a.eval y = .slice ad len cap /\ K ad.isNone := by
    rintro ⟨⟨el, ht⟩, hp⟩
    have lst : ∀ (v : AV) (xs : List AV) (m : Nat), v.elems = some (xs, m) -> opnd e y = v -> (∀ b, (b = true -> xs = []) -> K b) -> ∃ (ad : Option Addr) (len cap : Nat) (el : TypeId), P.underlying t = some (.slice el) /\ a.eval y = .slice ad len cap /\ K ad.isNone := by
      intro v xs m he hev hK
      rw [hev] at hv
      obtain ⟨ad, cap, b, off, c, hcv, hrow, _⟩ := hv.lst_inv he
      refine ⟨ad, _, cap, el, ht, hcv, hK _ (fun hb => ?_)⟩
      by_cases hne : xs = []
      · exact hne
      · obtain ⟨rfl, _⟩ := hrow hne; cases hb
    unfold nilV at hp
    split at hp
    · rename_i xs hev; exact lst _ _ 1 rfl hev (fun b hb => hp b (fun h => by simpa using hb h))
    · rename_i xs hev; exact lst _ _ 1 rfl hev (fun b hb => hp b (fun h => by simpa using hb h))
    · rename_i xs hev; exact lst _ _ 1 rfl hev (fun b hb => hp b (fun h => by simpa using hb h))
    · rename_i hev; rw [hev] at hv; obtain ⟨ad, hcv⟩ := hv.nils_inv; exact ⟨ad, 0, 0, el, ht, hcv, hp _⟩
    · exact hp.elim
  have keyE : isIf P t /\ nilE (opnd e y) K -> (a.eval y = .nilIface /\ K true) \/ (∃ u v, a.eval y = .iface u v) /\ K false := by
    rintro ⟨_, hp⟩
    unfold nilE at hp
    split at hp
    · rename_i hev; rw [hev] at hv; exact .inl ⟨hv.nilI_inv, hp⟩
    · rename_i hev; rw [hev] at hv; exact .inr ⟨hv.errI_inv, hp⟩
    · exact hp.elim
  unfold isNilc at hz
  split at hz
  · obtain ⟨ad, len, cap, el, ht, hcv, hKb⟩ := keyS hp
    refine fin _ hKb ?_
    have h1 := Lib.run_eql_slice_nil (P := P) w t el ad len cap 0 0 ht
    have hz0 : a.eval (.const (.slice none 0 0)) = .slice none 0 0 := rfl
    simp [execOp, ho, hcv, hz0, eqGuard, h1, negB]
  · obtain ⟨ad, len, cap, el, ht, hcv, hKb⟩ := keyS hp
    refine fin _ hKb ?_
    have h1 := run_neq_slice_nil_any (P := P) w t el ad len cap 0 0 ht
    have hz0 : a.eval (.const (.slice none 0 0)) = .slice none 0 0 := rfl
    simp [execOp, ho, hcv, hz0, eqGuard, h1, negB]
  · have ht : P.underlying t = some (.interface (P.methodsAt t)) := hp.1
    have hz0 : a.eval (.const .nilIface) = .nilIface := rfl
    rcases keyE hp with ⟨hcv, hKb⟩ | ⟨⟨u, v, hcv⟩, hKb⟩
    · refine fin _ hKb ?_
      have h1 := run_eql_nil_nil (P := P) w t ht
      simp [execOp, ho, hcv, hz0, eqGuard, h1, negB]
    · refine fin _ hKb ?_
      have h1 := run_eql_held_nil (P := P) w t u v ht
      simp [execOp, ho, hcv, hz0, eqGuard, h1, negB]
  · have ht : P.underlying t = some (.interface (P.methodsAt t)) := hp.1
    have hz0 : a.eval (.const .nilIface) = .nilIface := rfl
    rcases keyE hp with ⟨hcv, hKb⟩ | ⟨⟨u, v, hcv⟩, hKb⟩
    · refine fin _ hKb ?_
      have h1 := run_neq_nil_nil (P := P) w t ht
      simp [execOp, ho, hcv, hz0, eqGuard, h1, negB]
    · refine fin _ hKb ?_
      have h1 := run_neq_held_nil (P := P) w t u v ht
      simp [execOp, ho, hcv, hz0, eqGuard, h1, negB]
  · cases hz
theorem opsA_seq (hT : TabOK P C) (hx0 : x.n0 <= hint.n0) {all : List Oper} {Q : Exit -> Act -> World -> Prop} {K : Env -> Heap -> Nat -> Prop} (hK : ∀ e h n a w, K e h n -> Sat x e h n a w -> Q .normal a w) :
    ∀ (l : List Oper) (e : Env) (h : Heap) (n : Nat) (a : Act) (w : World), dstOK x.k l = true -> opsA P C hint all l e h n K -> Sat x e h n a w -> wpList P all.toArray Q l a w
  | [], e, h, n, a, w, _, ho, hs => hK e h n a w ho hs
  | o :: rest, e, h, n, a, w, hd, hop, hs => by
    have hd1 := dstOK_mem hd (o := o) (by simp)
    have hd2 : dstOK x.k rest = true := by simp only [dstOK, List.all_cons, Bool.and_eq_true] at hd ⊢; exact hd.2
    unfold wpList
    unfold opsA at hop
    obtain ⟨e', hs', h1 | h1⟩ := guard_ok hop hs
    · obtain ⟨hw, hy⟩ := h1
      rw [if_pos hw]
      left
      split at hy
      · rename_i c p q hpk
        have hcase : ∀ r : Operand, (∃ b : Bool, a.eval c = .bool b /\ (if b then p else q) = r) -> opsA P C hint all rest (dset e' o.dst (opnd e' r)) h n K -> o.wp P a w (wpList P all.toArray Q rest) Q := by
          rintro r ⟨b, hb, hr⟩ hK2
          unfold Oper.wp
          have : (execOp a.eval o).run P w = .ok (.value (a.eval r)) w := by
            subst hr
            cases b <;> simp [execOp, hpk, hb, asBool]
          rw [this]
          exact opsA_seq hT hx0 hK rest _ _ _ _ _ hd2 hK2 (hs'.put hd1 (fun S ρ hE => hE.opnd r))
        have hv := hs'
        obtain ⟨S, ρ, _, _, _, _, hE, _⟩ := hv
        have hvc := hE.opnd c
        unfold pickS at hy
        split at hy
        · rename_i b hb
          rw [hb] at hvc
          cases b with
          | true => exact hcase p ⟨true, hvc.bool_inv, rfl⟩ (hy.1 rfl)
          | false => exact hcase q ⟨false, hvc.bool_inv, rfl⟩ (hy.2 rfl)
        · rename_i hb; rw [hb] at hvc; exact hcase p ⟨true, hvc.tt_inv, rfl⟩ hy
        · rename_i hb; rw [hb] at hvc; exact hcase q ⟨false, hvc.ff_inv, rfl⟩ hy
        · exact hy.elim
      · rename_i t p v hst
        by_cases hpo : ∃ r i, opnd e' p = .po r i
        · obtain ⟨r, i, hpo⟩ := hpo
          exact row_ok hx0 hst hs' hpo hy.1 hd1 (fun a' w' hs2 => opsA_seq hT hx0 hK rest _ _ _ _ _ hd2 hy.2 hs2)
        · exact store_ok hst hs' hy.1 hd1 (fun r i h => hpo ⟨r, i, h⟩) (fun a' w' hs2 => opsA_seq hT hx0 hK rest _ _ _ _ _ hd2 hy.2 hs2)
      · rename_i s y ts tx hap
        unfold appS at hy
        split at hy
        · exact append_ok hx0 hap hs' hy.1 hd1 (fun a' w' hs2 => opsA_seq hT hx0 hK rest _ _ _ _ _ hd2 hy.2 hs2)
        · exact appM_ok hx0 hap hs' hy.1 hd1 (fun a' w' hs2 => opsA_seq hT hx0 hK rest _ _ _ _ _ hd2 hy.2 hs2)
        · exact opH_ok hT hy.1 hs' hd1 (fun a' w' hs2 => opsA_seq hT hx0 hK rest _ _ _ _ _ hd2 hy.2 hs2)
      · rename_i f xs ts hcl
        cases hm : hint.ms (mkey f) with
        | true =>
          cases hm2 : hint.ms (1000000 + mkey f) with
          | true =>
            simp only [hm, hm2, cond_true] at hy
            exact callZ_ok hT.spec hT.call hcl hs' hy hd1 (fun v e3 h3 c a' w' hk3 hs2 => opsA_seq hT hx0 hK rest _ _ _ _ _ hd2 hk3 hs2)
          | false =>
            simp only [hm, hm2, cond_true, cond_false] at hy
            exact callM_ok hT.spec hT.call hcl hs' hy.1 hd1 (fun a' w' hs2 => opsA_seq hT hx0 hK rest _ _ _ _ _ hd2 hy.2 hs2)
        | false =>
          simp only [hm, cond_false] at hy
          exact opH_ok hT hy.1 hs' hd1 (fun a' w' hs2 => opsA_seq hT hx0 hK rest _ _ _ _ _ hd2 hy.2 hs2)
      · rename_i op t y z t2 hbo
        cases hm : isNilc op z with
        | true =>
          simp only [hm, cond_true] at hy
          exact nil_ok hbo hm hs' hy hd1 (fun a' w' b hb hs2 => opsA_seq hT hx0 hK rest _ _ _ _ _ hd2 hb hs2)
        | false =>
          simp only [hm, cond_false] at hy
          exact opH_ok hT hy.1 hs' hd1 (fun a' w' hs2 => opsA_seq hT hx0 hK rest _ _ _ _ _ hd2 hy.2 hs2)
      · exact opH_ok hT hy.1 hs' hd1 (fun a' w' hs2 => opsA_seq hT hx0 hK rest _ _ _ _ _ hd2 hy.2 hs2)
    · obtain ⟨hw, hy⟩ := h1
      rw [if_neg (by rw [hw]; simp)]
      exact opsA_seq hT hx0 hK rest _ _ _ _ _ hd2 hy (hs'.put hd1 (fun S ρ _ => .pure _ _ .skipd))
end
end Go.Vc
namespace Go.Vc
open Go.RowKit
structure Stp where
  env : Env
  v : AV
  new : Heap
  cnt : Nat
  ran : Bool
def Ent (u v : AV) : Prop := ∀ S ρ H cv, V S ρ H u cv -> V S ρ H v cv
theorem Ent.refl (u : AV) : Ent u u := fun _ _ _ _ h => h
theorem Ent.trans {u v w : AV} (h : Ent u v) (k : Ent v w) : Ent u w := fun S ρ H cv hv => k S ρ H cv (h S ρ H cv hv)
def EntE (e e' : Env) : Prop := ∀ t, Ent (e.get t) (e'.get t)
theorem EntE.refl (e : Env) : EntE e e := fun _ => .refl _
theorem EntE.dset {e e' : Env} (h : EntE e e') (d : Option Tmp) (v : AV) : EntE (dset e d v) (dset e' d v) := by
  cases d with
  | none => exact h
  | some d =>
    intro t
    simp only [Go.Vc.dset, Env.get]
    by_cases ht : d = t
    · rw [if_pos ht, if_pos ht]; exact .refl _
    · rw [if_neg ht, if_neg ht]; exact h t
def Guarded (all : List Oper) (o : Oper) (e : Env) (yes : Bool) : Prop :=
  match o.guard with
  | none => yes = true
  | some (j, want) => match gdst all j with
    | none => yes = false
    | some d => ∀ S ρ H (tmps : Array Value), V S ρ H (e.get d) (tmps.getD d Go.undef) -> (((match tmps[d]? with | some (.bool b) => some b | _ => none) == some want) = yes)
section
variable {P : Program} {C : Table} {hint : Hint} {own : Nat -> Prop}
def HeadStep (P : Program) (own : Nat -> Prop) (all : List Oper) (o : Oper) (e : Env) (h : Heap) (n : Nat) (s : Stp) : Prop :=
  (EntE e s.env /\ Guarded all o e s.ran) /\ (∀ r, s.new.look r ≠ none -> n <= r /\ r < n + s.cnt) /\
    (if s.ran then ∀ hF : HF, (∀ r k, h.look r = some k -> hF r = some k) -> (∀ r, n <= r -> r < n + s.cnt -> s.new.look r = none -> hF r = none) -> OpOK P own o s.env hF s.v s.new
      else s.v = .skipd /\ s.new = [] /\ s.cnt = 0)
def Trace (P : Program) (own : Nat -> Prop) (all : List Oper) : List Oper -> List Stp -> Env -> Heap -> Nat -> Env -> Heap -> Nat -> Prop
  | [], [], e, h, n, e', h', n' => e' = e /\ h' = h /\ n' = n
  | o :: l, s :: tr, e, h, n, e', h', n' => HeadStep P own all o e h n s /\ (∀ r, h.look r ≠ none -> r < n) /\ Trace P own all l tr (dset s.env o.dst s.v) (s.new ++ h) (n + s.cnt) e' h' n'
  | _, _, _, _, _, _, _, _ => False
def isM (hint : Hint) (o : Oper) : Bool := match o.op with | .store .. => true | .call ⟨.builtin .append, _, _⟩ => true | .call ⟨.value f, _, _⟩ => hint.ms (mkey f) | .binOp op _ _ y _ => isNilc op y | _ => false
theorem guard_ext {all : List Oper} {o : Oper} {e : Env} {yes no : Env -> Prop} (hg : guardA all o.guard e yes no) : ∃ e1 y, EntE e e1 /\ Guarded all o e y /\ (if y then yes e1 else no e1) := by
  unfold guardA at hg
  cases hgd : o.guard with
  | none => rw [hgd] at hg; exact ⟨e, true, .refl _, by simp [Guarded, hgd], hg⟩
  | some jw =>
    obtain ⟨j, want⟩ := jw
    rw [hgd] at hg
    have hg : guardD want (gdst all j) e yes no := hg
    unfold guardD at hg
    cases hd : gdst all j with
    | none => rw [hd] at hg; exact ⟨e, false, .refl _, by simp [Guarded, hgd, hd], hg⟩
    | some d =>
      rw [hd] at hg
      have cell : ∀ (tmps : Array Value) (b : Bool), tmps.getD d Go.undef = .bool b -> tmps[d]? = some (.bool b) := fun tmps b hb => by
        rw [Array.getD_eq_getD_getElem?] at hb
        cases hc : tmps[d]? with
        | none => rw [hc] at hb; simp [Go.undef] at hb
        | some v => rw [hc] at hb; simp at hb; rw [hb]
      have ref : ∀ {u v : AV}, e.get d = u -> Ent u v -> EntE e ((d, v) :: e) := fun {u v} hu hv t => by
        simp only [Env.get]
        by_cases ht : d = t
        · subst ht; rw [if_pos rfl, hu]; exact hv
        · rw [if_neg ht]; exact .refl _
      have G : ∀ (y : Bool), (∀ S ρ H (tmps : Array Value), V S ρ H (e.get d) (tmps.getD d Go.undef) -> (((match tmps[d]? with | some (.bool b) => some b | _ => none) == some want) = y)) -> Guarded all o e y := fun y h => by
        unfold Guarded; rw [hgd]; simp only [hd]; exact h
      simp only [guardS] at hg
      split at hg
      · rename_i b hb
        have hG : Guarded all o e (b == want) := G _ (fun S ρ H tmps hv => by rw [hb] at hv; rw [cell tmps b hv.bool_inv]; cases b <;> cases want <;> rfl)
        cases b with
        | true =>
          refine ⟨_, _, ref hb (fun S ρ H cv h => by rw [h.bool_inv]; exact .pure _ _ .tt), hG, ?_⟩
          have := hg.1 rfl
          cases want <;> exact this
        | false =>
          refine ⟨_, _, ref hb (fun S ρ H cv h => by rw [h.bool_inv]; exact .pure _ _ .ff), hG, ?_⟩
          have := hg.2 rfl
          cases want <;> exact this
      · rename_i hb
        exact ⟨e, want, .refl _, G _ (fun S ρ H tmps hv => by rw [hb] at hv; rw [cell tmps true hv.tt_inv]; cases want <;> rfl), by cases want <;> exact hg⟩
      · rename_i hb
        exact ⟨e, !want, .refl _, G _ (fun S ρ H tmps hv => by rw [hb] at hv; rw [cell tmps false hv.ff_inv]; cases want <;> rfl), by cases want <;> exact hg⟩
      · rename_i hb
        refine ⟨e, false, .refl _, G _ (fun S ρ H tmps hv => ?_), hg⟩
        rw [hb] at hv
        have hc := hv.skipd_inv
        cases hc' : tmps[d]? with
        | none => rfl
        | some v =>
          rw [Array.getD_eq_getD_getElem?, hc'] at hc
          simp [Go.undef] at hc
          rw [hc]; rfl
      · exact hg.elim
theorem pick_ok {o : Oper} {c p q r : Operand} {e : Env} {hF : HF} {b : Bool} (ho : o.op = .pick c p q) (hb : ∀ S ρ H cv, V S ρ H (opnd e c) cv -> cv = .bool b) (hr : (if b then p else q) = r) : OpOK P own o e hF (opnd e r) [] := by
  refine OpOK.ofRun (fun S ρ H a w hsub hrel hx => ?_)
  rw [ho] at hx
  have h1 := hb S ρ H _ (hx c (by simp [Op.operands]))
  refine ⟨a.eval r, ?_, ?_⟩
  · subst hr; cases b <;> simp [execOp, ho, h1, asBool]
  · subst hr; cases b
    · exact hx q (by simp [Op.operands])
    · exact hx p (by simp [Op.operands])
theorem extract (hT : TabOK P C) {all tail : List Oper} {K : Env -> Heap -> Nat -> Prop} : ∀ (l : List Oper) (e : Env) (h : Heap) (n : Nat), (∀ o ∈ l, isM hint o = false) -> (∀ r, h.look r ≠ none -> r < n) -> opsA P C hint all (l ++ tail) e h n K ->
    ∃ tr e' h' n', Trace P own all l tr e h n e' h' n' /\ opsA P C hint all tail e' h' n' K
  | [], e, h, n, _, _, ho => ⟨[], e, h, n, ⟨rfl, rfl, rfl⟩, ho⟩
  | o :: l, e, h, n, hm, hn, ho => by
    have hm1 := hm o (by simp)
    have hm2 : ∀ o ∈ l, isM hint o = false := fun o h => hm o (by simp [h])
    simp only [List.cons_append] at ho
    unfold opsA at ho
    obtain ⟨e1, y, hE, hG, hy⟩ := guard_ext ho
    cases y with
    | false =>
      simp only [Bool.false_eq_true, if_false] at hy
      obtain ⟨tr, e', h', n', ht, hk⟩ := extract hT l _ h n hm2 hn hy
      exact ⟨⟨e1, .skipd, [], 0, false⟩ :: tr, e', h', n', ⟨⟨⟨hE, hG⟩, fun r hr => (hr rfl).elim, by simp⟩, hn, ht⟩, hk⟩
    | true =>
      simp only [if_true] at hy
      split at hy
      · rename_i c p q hpk
        have go : ∀ (b : Bool) (r : Operand), (∀ S ρ H cv, V S ρ H (opnd e1 c) cv -> cv = .bool b) -> (if b then p else q) = r -> opsA P C hint all (l ++ tail) (dset e1 o.dst (opnd e1 r)) h n K ->
            ∃ tr e' h' n', Trace P own all (o :: l) tr e h n e' h' n' /\ opsA P C hint all tail e' h' n' K := by
          intro b r hb hr hK2
          obtain ⟨tr, e', h', n', ht, hk⟩ := extract hT l _ h n hm2 hn hK2
          exact ⟨⟨e1, opnd e1 r, [], 0, true⟩ :: tr, e', h', n', ⟨⟨⟨hE, hG⟩, fun r hr => (hr rfl).elim, by simp only [if_true]; exact fun hF _ _ => pick_ok hpk hb hr⟩, hn, ht⟩, hk⟩
        unfold pickS at hy
        split at hy
        · rename_i b hb
          cases b with
          | true => exact go true p (fun S ρ H cv h => by rw [hb] at h; exact h.bool_inv) rfl (hy.1 rfl)
          | false => exact go false q (fun S ρ H cv h => by rw [hb] at h; exact h.bool_inv) rfl (hy.2 rfl)
        · rename_i hb; exact go true p (fun S ρ H cv h => by rw [hb] at h; exact h.tt_inv) rfl hy
        · rename_i hb; exact go false q (fun S ρ H cv h => by rw [hb] at h; exact h.ff_inv) rfl hy
        · exact hy.elim
      · rename_i t p v hst
        simp [isM, hst] at hm1
      · rename_i s y ts tx hst
        simp [isM, hst] at hm1
      · rename_i f xs ts hcl
        have hm3 : hint.ms (mkey f) = false := by simpa [isM, hcl] using hm1
        rw [hm3] at hy
        simp only [cond_false] at hy
        obtain ⟨hp, hy⟩ := hy
        have keys := evalH_keys (hint := hint) hT.spec hp
        obtain ⟨tr, e', h', n', ht, hk⟩ := extract hT l _ _ _ hm2 (fun r hr => by
          rcases look_ne_append hr with h1 | h1
          · exact (keys r h1).2
          · have := hn r h1; omega) hy
        refine ⟨⟨e1, (evalH P C hint o e1 h n).val, (evalH P C hint o e1 h n).new, (evalH P C hint o e1 h n).cnt, true⟩ :: tr, e', h', n', ⟨⟨⟨hE, hG⟩, keys, ?_⟩, hn, ht⟩, hk⟩
        simp only [if_true]
        exact fun hF h1 h2 => evalH_ok hT.spec hT.call h1 h2 hn hp
      · rename_i op t y z t2 hbo
        have hm3 : isNilc op z = false := by simpa [isM, hbo] using hm1
        rw [hm3] at hy
        simp only [cond_false] at hy
        obtain ⟨hp, hy⟩ := hy
        have keys := evalH_keys (hint := hint) hT.spec hp
        obtain ⟨tr, e', h', n', ht, hk⟩ := extract hT l _ _ _ hm2 (fun r hr => by
          rcases look_ne_append hr with h1 | h1
          · exact (keys r h1).2
          · have := hn r h1; omega) hy
        refine ⟨⟨e1, (evalH P C hint o e1 h n).val, (evalH P C hint o e1 h n).new, (evalH P C hint o e1 h n).cnt, true⟩ :: tr, e', h', n', ⟨⟨⟨hE, hG⟩, keys, ?_⟩, hn, ht⟩, hk⟩
        simp only [if_true]
        exact fun hF h1 h2 => evalH_ok hT.spec hT.call h1 h2 hn hp
      · obtain ⟨hp, hy⟩ := hy
        have keys := evalH_keys (hint := hint) hT.spec hp
        obtain ⟨tr, e', h', n', ht, hk⟩ := extract hT l _ _ _ hm2 (fun r hr => by
          rcases look_ne_append hr with h1 | h1
          · exact (keys r h1).2
          · have := hn r h1; omega) hy
        refine ⟨⟨e1, (evalH P C hint o e1 h n).val, (evalH P C hint o e1 h n).new, (evalH P C hint o e1 h n).cnt, true⟩ :: tr, e', h', n', ⟨⟨⟨hE, hG⟩, keys, ?_⟩, hn, ht⟩, hk⟩
        simp only [if_true]
        exact fun hF h1 h2 => evalH_ok hT.spec hT.call h1 h2 hn hp
end
end Go.Vc
namespace Go.Vc
open Go.RowKit
def cur : List Oper -> List Stp -> (Nat -> AV) -> Nat -> (Nat -> AV)
  | o :: l, s :: tr, f, i + 1 => cur l tr (fun t => if o.dst = some t then s.v else f t) i
  | _, _, f, _ => f
section
variable {P : Program} {own : Nat -> Prop}
structure Facts (P : Program) (own : Nat -> Prop) (all l : List Oper) (tr : List Stp) (f : Nat -> AV) (h : Heap) (n : Nat) (e' : Env) (h' : Heap) (n' : Nat) : Prop where
  len : tr.length = l.length
  le : n <= n'
  keys : ∀ r, h'.look r ≠ none -> r < n'
  old : ∀ r k, h.look r = some k -> h'.look r = some k
  whence : ∀ r k, h'.look r = some k -> h.look r = some k \/ ∃ (i : Nat) (s : Stp), tr[i]? = some s /\ s.new.look r = some k
  new : ∀ (i : Nat) (s : Stp) r k, tr[i]? = some s -> s.new.look r = some k -> h'.look r = some k /\ n <= r
  once : ∀ (i j : Nat) (s s' : Stp) r, i ≠ j -> tr[i]? = some s -> tr[j]? = some s' -> s.new.look r ≠ none -> s'.new.look r = none
  step : ∀ (i : Nat) (o : Oper) (s : Stp), l[i]? = some o -> tr[i]? = some s -> ∃ ei, (∀ t, Ent (cur l tr f i t) (ei.get t)) /\ EntE ei s.env /\ Guarded all o ei s.ran /\
    (if s.ran then OpOK P own o s.env h'.look s.v s.new else s.v = .skipd /\ s.new = [])
  fin : ∀ t, Ent (cur l tr f l.length t) (e'.get t)
theorem Trace.facts {all : List Oper} : ∀ (l : List Oper) (tr : List Stp) (e : Env) (f : Nat -> AV) (h : Heap) (n : Nat) (e' : Env) (h' : Heap) (n' : Nat), (∀ t, Ent (f t) (e.get t)) -> (∀ r, h.look r ≠ none -> r < n) ->
    Trace P own all l tr e h n e' h' n' -> Facts P own all l tr f h n e' h' n'
  | [], [], e, f, h, n, e', h', n', hf, hk, ht => by
    obtain ⟨rfl, rfl, rfl⟩ := ht
    exact ⟨rfl, Nat.le_refl _, hk, fun _ _ h => h, fun r k h => .inl h, fun i s r k hs => by simp at hs, fun i j s s' r _ hs => by simp at hs, fun i o s ho => by simp at ho, hf⟩
  | [], _ :: _, e, f, h, n, e', h', n', hf, hk, ht => ht.elim
  | _ :: _, [], e, f, h, n, e', h', n', hf, hk, ht => ht.elim
  | o :: l, s :: tr, e, f, h, n, e', h', n', hf, hk, ht => by
    obtain ⟨⟨⟨hE, hG⟩, hkeys, hstep⟩, _, ht⟩ := ht
    have hnone : ∀ r, h.look r ≠ none -> s.new.look r = none := fun r hr => by
      cases hn : s.new.look r with
      | none => rfl
      | some k => have h1 := hkeys r (by rw [hn]; simp); have h2 := hk r hr; omega
    have hk2 : ∀ r, (s.new ++ h).look r ≠ none -> r < n + s.cnt := fun r hr => by
      rcases look_ne_append hr with h1 | h1
      · exact (hkeys r h1).2
      · have := hk r h1; omega
    have hf2 : ∀ t, Ent (if o.dst = some t then s.v else f t) ((dset s.env o.dst s.v).get t) := fun t => by
      cases hd : o.dst with
      | none => simp only [dset]; rw [if_neg (by simp)]; exact (hf t).trans (hE t)
      | some d =>
        simp only [dset, Env.get]
        by_cases hdt : d = t
        · subst hdt; simp only [if_true]; exact .refl _
        · rw [if_neg hdt, if_neg (by simpa using hdt)]; exact (hf t).trans (hE t)
    have ih := Trace.facts l tr _ (fun t => if o.dst = some t then s.v else f t) _ _ e' h' n' hf2 hk2 ht
    have oldA : ∀ r k, h.look r = some k -> (s.new ++ h).look r = some k := fun r k hr => by
      rw [<- addH_look, addH_old (hnone r (by rw [hr]; simp))]; exact hr
    have newA : ∀ r k, s.new.look r = some k -> (s.new ++ h).look r = some k := fun r k hr => by rw [<- addH_look, addH_new hr]
    refine ⟨by simp [ih.len], by have := ih.le; omega, ih.keys, fun r k hr => ih.old r k (oldA r k hr), fun r k hr => ?_, fun i s' r k hs hr => ?_, fun i j s1 s2 r hij h1 h2 hr => ?_, fun i o' s' ho hs => ?_, ?_⟩
    · rcases ih.whence r k hr with h1 | ⟨i, s', h1, h2⟩
      · rw [<- addH_look] at h1
        cases hn : s.new.look r with
        | some k' => rw [addH_new hn] at h1; cases h1; exact .inr ⟨0, s, rfl, hn⟩
        | none => rw [addH_old hn] at h1; exact .inl h1
      · exact .inr ⟨i + 1, s', by simpa using h1, h2⟩
    · cases i with
      | zero => simp at hs; subst hs; exact ⟨ih.old r k (newA r k hr), (hkeys r (by rw [hr]; simp)).1⟩
      | succ i => simp at hs; obtain ⟨h1, h2⟩ := ih.new i s' r k hs hr; exact ⟨h1, by omega⟩
    · cases i with
      | zero =>
        cases j with
        | zero => exact (hij rfl).elim
        | succ j =>
          simp at h1 h2; subst h1
          cases hn : s2.new.look r with
          | none => rfl
          | some k => have a1 := (ih.new j s2 r k h2 hn).2; have a2 := (hkeys r hr).2; omega
      | succ i =>
        cases j with
        | zero =>
          simp at h1 h2; subst h2
          cases hn : s.new.look r with
          | none => rfl
          | some k =>
            obtain ⟨k', hk'⟩ := Option.ne_none_iff_exists'.1 hr
            have a1 := (ih.new i s1 r k' h1 hk').2; have a2 := (hkeys r (by rw [hn]; simp)).2; omega
        | succ j => simp at h1 h2; exact ih.once i j s1 s2 r (by omega) h1 h2 hr
    · cases i with
      | zero =>
        simp at ho hs; subst ho; subst hs
        refine ⟨e, hf, hE, hG, ?_⟩
        cases hr : s.ran with
        | false => rw [hr] at hstep; simp only [Bool.false_eq_true, if_false] at hstep ⊢; exact ⟨hstep.1, hstep.2.1⟩
        | true =>
          rw [hr] at hstep; simp only [if_true] at hstep ⊢
          refine hstep _ (fun r k h => ih.old r k (oldA r k h)) (fun r h1 h2 h3 => ?_)
          cases hl : h'.look r with
          | none => rfl
          | some k =>
            rcases ih.whence r k hl with hw | ⟨i, s', hw1, hw2⟩
            · rw [<- addH_look, addH_old h3] at hw
              have := hk r (by rw [hw]; simp); omega
            · have := (ih.new i s' r k hw1 hw2).2; omega
      | succ i => simp at ho hs; exact ih.step i o' s' ho hs
    · exact ih.fin
theorem cur_none : ∀ (l : List Oper) (tr : List Stp) (f : Nat -> AV) (i : Nat) (t : Nat), (∀ (j : Nat) o, j < i -> l[j]? = some o -> o.dst ≠ some t) -> cur l tr f i t = f t
  | [], _, f, i, t, _ => by cases i <;> rfl
  | _ :: _, [], f, i, t, _ => by cases i <;> rfl
  | _ :: _, _ :: _, f, 0, t, _ => rfl
  | o :: l, s :: tr, f, i + 1, t, h => by
    have h0 := h 0 o (by omega) rfl
    have := cur_none l tr (fun t => if o.dst = some t then s.v else f t) i t (fun j o' hj ho => h (j + 1) o' (by omega) (by simpa using ho))
    show cur l tr _ i t = f t
    rw [this, if_neg h0]
theorem cur_some : ∀ (l : List Oper) (tr : List Stp) (f : Nat -> AV) (i j : Nat) (t : Nat) (o : Oper) (s : Stp), j < i -> l[j]? = some o -> tr[j]? = some s -> o.dst = some t ->
    (∀ (q : Nat) o', q < i -> q ≠ j -> l[q]? = some o' -> o'.dst ≠ some t) -> cur l tr f i t = s.v
  | [], _, f, i, j, t, o, s, _, ho, _, _, _ => by simp at ho
  | _ :: _, [], f, i, j, t, o, s, _, _, hs, _, _ => by simp at hs
  | _ :: _, _ :: _, f, 0, j, t, o, s, hj, _, _, _, _ => absurd hj (Nat.not_lt_zero _)
  | o1 :: l, s1 :: tr, f, i + 1, j, t, o, s, hj, ho, hs, hd, hu => by
    show cur l tr _ i t = s.v
    cases j with
    | zero =>
      simp at ho hs; subst ho; subst hs
      rw [cur_none l tr _ i t (fun q o' hq ho => hu (q + 1) o' (by omega) (by omega) (by simpa using ho)), if_pos hd]
    | succ j =>
      simp at ho hs
      exact cur_some l tr _ i j t o s (by omega) ho hs hd (fun q o' hq hne ho => hu (q + 1) o' (by omega) (by omega) (by simpa using ho))
end
end Go.Vc
namespace Go.Vc
open Go.RowKit
def waits (o : Oper) (j : Nat) : Bool := o.after.any fun e => Region.binds .any e && e.on == j
def tmpsOf (o : Oper) : List Nat := o.op.operands.toList.filterMap fun | .tmp t => some t | _ => none
def backB (all : List Oper) : Bool := all.zipIdx.all fun (o, i) => o.after.all fun e => !Region.binds .any e || decide (e.on < i)
def ssaB (l : List Oper) : Bool :=
  l.zipIdx.all fun (o, j) => l.zipIdx.all fun (p, i) =>
    (match p.dst with
    | none => true
    | some d => (i == j || o.dst != some d) && (!(tmpsOf o).contains d || waits o i)) &&
    (match o.guard with
    | none => true
    | some (g, _) => g != i || waits o i)
def guardB (l : List Oper) : Bool := l.all fun o => match o.guard with | none => true | some (g, _) => decide (g < l.length)
def drawOK (hint : Hint) (all : List Oper) (hd : Nat) : Bool :=
  backB all && ssaB (all.take hd) && guardB (all.take hd) && (decide (hd = all.length) || (decide (hd < all.length) && Region.sinkB .any all.toArray hd && Region.chainB .any all.toArray hd)) && (all.take hd).all (fun o => !isM hint o)
theorem zipIdx_all {α : Type} {l : List α} {p : α × Nat -> Bool} (h : l.zipIdx.all p = true) {i : Nat} {x : α} (hx : l[i]? = some x) : p (x, i) = true := by
  refine List.all_eq_true.1 h (x, i) ?_
  rw [List.mem_iff_getElem?]
  exact ⟨i, by simp [List.getElem?_zipIdx, hx]⟩
theorem waits_spec {o : Oper} {j : Nat} (h : waits o j = true) : ∃ e ∈ o.after, Region.binds .any e = true /\ e.on = j := by
  obtain ⟨e, he, hb⟩ := Array.any_eq_true'.1 h
  simp only [Bool.and_eq_true, beq_iff_eq] at hb
  exact ⟨e, he, hb.1, hb.2⟩
section
variable {P : Program} {C : Table} {hint : Hint} {x : Cx}
theorem ready_listed {ops : Array Oper} {listed : Array Bool} {j i : Nat} {o : Oper} (hr : j ∈ Region.ready .any ops listed) (ho : ops[j]? = some o) (hw : waits o i = true) : listed.getD i false = true := by
  obtain ⟨_, o', ho', hall⟩ := mem_ready.1 hr
  rw [ho] at ho'; cases ho'
  obtain ⟨e, he, hb, rfl⟩ := waits_spec hw
  exact hall e he hb
structure Good (x : Cx) (l : List Oper) (tr : List Stp) (e : Env) (h h' : Heap) (listed : Array Bool) (a : Act) (w : World) (S : Store) (ρ : Rho) (H : HF) : Prop where
  s1 : x.S0.le S
  s2 : ∀ b, x.S0 b = none -> S b ≠ none -> x.own b
  rel : Rel x.own S ρ H w
  fix : RhoFix x.n0 x.ρ0 ρ H
  sub : ∀ r k, H r = some k -> h'.look r = some k
  old : ∀ r k, h.look r = some k -> H r = some k
  new : ∀ (i : Nat) s r k, tr[i]? = some s -> listed.getD i false = true -> s.new.look r = some k -> H r = some k
  not : ∀ (i : Nat) s r, tr[i]? = some s -> listed.getD i false = false -> s.new.look r ≠ none -> H r = none
  done : ∀ (i : Nat) o s d, l[i]? = some o -> tr[i]? = some s -> listed.getD i false = true -> o.dst = some d -> V S ρ H s.v (a.tmps.getD d Go.undef)
  rest : ∀ t, (∀ (i : Nat) o, l[i]? = some o -> o.dst ≠ some t) -> V S ρ H (e.get t) (a.tmps.getD t Go.undef)
  kept : Kept x.own x.W w
  size : a.tmps.size = x.k
  defers : a.defers = []
theorem Good.read {l : List Oper} {tr : List Stp} {e : Env} {h h' : Heap} {listed : Array Bool} {a : Act} {w : World} {S : Store} {ρ : Rho} {H : HF} (hg : Good x l tr e h h' listed a w S ρ H) (hlen : tr.length = l.length)
    (hssa : ssaB l = true) {j : Nat} {o : Oper} (ho : l[j]? = some o) (hdep : ∀ i, waits o i = true -> listed.getD i false = true /\ i < j) {t : Nat}
    (ht : ∀ (i : Nat) p, l[i]? = some p -> p.dst = some t -> waits o i = true) : V S ρ H (cur l tr e.get j t) (a.tmps.getD t Go.undef) := by
  by_cases hex : ∃ (i : Nat) (p : Oper), l[i]? = some p /\ p.dst = some t
  · obtain ⟨i, p, hp, hd⟩ := hex
    obtain ⟨hl, hij⟩ := hdep i (ht i p hp hd)
    have hit : i < tr.length := by rw [hlen]; exact (List.getElem?_eq_some_iff.1 hp).1
    have hs : tr[i]? = some tr[i] := by simp [hit]
    have := cur_some l tr e.get j i t p tr[i] hij hp hs hd (fun q o' hq hne ho' hdo => by
      have h1 := zipIdx_all (zipIdx_all hssa ho') hp
      simp only [hd, Bool.and_eq_true, Bool.or_eq_true, beq_iff_eq, bne_iff_ne, ne_eq] at h1
      rcases h1.1.1 with h2 | h2
      · exact hne h2.symm
      · exact h2 hdo)
    rw [this]
    exact hg.done i p _ t hp hs hl hd
  · rw [cur_none l tr e.get j t (fun i p _ hp hd => hex ⟨i, p, hp, hd⟩)]
    exact hg.rest t (fun i p hp hd => hex ⟨i, p, hp, hd⟩)
theorem getD_set (listed : Array Bool) (j i : Nat) (b : Bool) (h : j < listed.size) : (listed.setIfInBounds j true).getD i b = if i = j then true else listed.getD i b := by
  simp only [Array.getD_eq_getD_getElem?]
  by_cases hi : i = j
  · subst hi; simp [h]
  · rw [if_neg hi, Array.getElem?_setIfInBounds_ne (fun e => hi e.symm)]
theorem put_getD {a : Act} {o : Option Tmp} {v : Value} {t : Nat} (h : o ≠ some t) : (a.put o v).tmps.getD t Go.undef = a.tmps.getD t Go.undef := by
  cases o with
  | none => rfl
  | some d =>
    simp only [Act.put, Array.getD_eq_getD_getElem?]
    rw [Array.getElem?_setIfInBounds_ne (fun e => h (by rw [e]))]
theorem put_getD_self {a : Act} {d : Tmp} {v : Value} (h : d < a.tmps.size) : (a.put (some d) v).tmps.getD d Go.undef = v := by
  simp [Act.put, h]
theorem good_step {all l : List Oper} {tr : List Stp} {e e' : Env} {h h' : Heap} {n n' : Nat} (hx0 : x.n0 <= n) (F : Facts P x.own all l tr e.get h n e' h' n') (hall : ∀ (i : Nat) o, l[i]? = some o -> all[i]? = some o)
    (hback : backB all = true) (hssa : ssaB l = true) (hgd : guardB l = true) (hdst : dstOK x.k l = true) {listed : Array Bool} (hsz : listed.size = all.length) {a : Act} {w : World} {S : Store} {ρ : Rho} {H : HF}
    (hg : Good x l tr e h h' listed a w S ρ H) {j : Nat} (hr : j ∈ Region.ready .any all.toArray listed) (hj : j < l.length) {Q : Exit -> Act -> World -> Prop} {K : Act -> World -> Prop}
    (hK : ∀ a' w' S' ρ' H', Good x l tr e h h' (listed.setIfInBounds j true) a' w' S' ρ' H' -> K a' w') : wpOp P all.toArray Q j K a w := by
  have hlo : l[j]? = some l[j] := by simp [hj]
  have hao := hall j _ hlo
  generalize l[j] = o at hlo hao
  have hjt : j < tr.length := by rw [F.len]; exact hj
  have hls : tr[j]? = some tr[j] := by simp [hjt]
  generalize tr[j] = s at hls
  have hunl : listed.getD j true = false := (mem_ready.1 hr).1
  have hjl : j < listed.size := by
    rcases Nat.lt_or_ge j listed.size with h | h
    · exact h
    · simp [Array.getElem?_eq_none h] at hunl
  have hunl' : listed.getD j false = false := by simp [hjl] at hunl ⊢; exact hunl
  have hdep : ∀ i, waits o i = true -> listed.getD i false = true /\ i < j := fun i hw => by
    refine ⟨ready_listed hr (by simpa using hao) hw, ?_⟩
    obtain ⟨ed, he, hb, rfl⟩ := waits_spec hw
    have h1 := zipIdx_all hback hao
    have h2 := Array.all_eq_true'.1 h1 ed he
    simpa [hb] using h2
  have hd1 : ∀ t, o.dst = some t -> t < x.k := dstOK_mem hdst (List.mem_of_getElem? hlo)
  obtain ⟨ei, hcur, hE, hG, hop⟩ := F.step j o s hlo hls
  have hread : ∀ t, (∀ (i : Nat) p, l[i]? = some p -> p.dst = some t -> waits o i = true) -> V S ρ H (ei.get t) (a.tmps.getD t Go.undef) := fun t ht => hcur t _ _ _ _ (hg.read F.len hssa hlo hdep ht)
  have hx : ∀ y, y ∈ o.op.operands -> V S ρ H (opnd s.env y) (a.eval y) := fun y hy => by
    cases y with
    | tmp t =>
      refine hE t _ _ _ _ (hread t (fun i p hp hpd => ?_))
      have h1 := zipIdx_all (zipIdx_all hssa hlo) hp
      simp only [hpd, Bool.and_eq_true, Bool.or_eq_true] at h1
      rcases h1.1.2 with h2 | h2
      · have : (tmpsOf o).contains t = true := by
          simp only [List.contains_iff_mem, tmpsOf, List.mem_filterMap]
          exact ⟨.tmp t, by simpa using hy, rfl⟩
        rw [this] at h2; cases h2
      · exact h2
    | const v => exact cst_v S ρ H v
    | global g => exact .pure _ _ (.undef _)
    | func f => exact .pure _ _ (.fn f [] #[] rfl (by simp))
  have hwant : Region.wanted o (yielded all.toArray a.tmps) = s.ran := by
    unfold Guarded at hG
    cases hgd' : o.guard with
    | none => rw [hgd'] at hG; simp only at hG; rw [hG]; simp [Region.wanted, hgd']
    | some gw =>
      obtain ⟨g, want⟩ := gw
      rw [hgd'] at hG
      have hy : yielded all.toArray a.tmps g = ((gdst all g).bind fun d => match a.tmps[d]? with | some (.bool b) => some b | _ => none) := by
        unfold yielded
        rw [gdst_eq]
        simp only [List.getElem?_toArray]
        cases (all[g]?).bind (·.dst) <;> rfl
      have hw : Region.wanted o (yielded all.toArray a.tmps) = (yielded all.toArray a.tmps g == some want) := by simp [Region.wanted, hgd']
      rw [hw, hy]
      simp only at hG
      cases hgdd : gdst all g with
      | none => rw [hgdd] at hG; simp only at hG; rw [hG]; rfl
      | some d =>
        rw [hgdd] at hG
        refine hG S ρ H a.tmps (hread d (fun i p hp hpd => ?_))
        have hgl : g < l.length := by
          have := List.all_eq_true.1 hgd o (List.mem_of_getElem? hlo)
          simpa [hgd'] using this
        have hpg : l[g]? = some l[g] := by simp [hgl]
        have hag := hall g _ hpg
        have hpgd : (l[g]).dst = some d := by
          rw [gdst_eq, hag] at hgdd; simpa using hgdd
        by_cases hig : i = g
        · subst hig
          have h1 := zipIdx_all (zipIdx_all hssa hlo) hp
          simp only [hgd', Bool.and_eq_true, Bool.or_eq_true, bne_iff_ne, ne_eq] at h1
          rcases h1.2 with h2 | h2
          · first | exact (h2 rfl).elim | exact (h2 trivial).elim
          · exact h2
        · have h1 := zipIdx_all (zipIdx_all hssa hpg) hp
          simp only [hpd, Bool.and_eq_true, Bool.or_eq_true, beq_iff_eq, bne_iff_ne, ne_eq] at h1
          rcases h1.1.1 with h2 | h2
          · exact (hig h2).elim
          · exact (h2 hpgd).elim
  have apart : ∀ (i : Nat) p d, i ≠ j -> l[i]? = some p -> p.dst = some d -> o.dst ≠ some d := fun i p d hij hp hpd => by
    have h1 := zipIdx_all (zipIdx_all hssa hlo) hp
    simp only [hpd, Bool.and_eq_true, Bool.or_eq_true, beq_iff_eq, bne_iff_ne, ne_eq] at h1
    rcases h1.1.1 with h2 | h2
    · exact (hij h2).elim
    · exact h2
  -- the state behind it
  have next : ∀ (cv : Value) (w' : World) (S' : Store) (ρ' : Rho), Grow x.own S ρ H w S' ρ' (addH s.new H) w' -> V S' ρ' (addH s.new H) s.v cv -> K (a.put o.dst cv) w' := by
    intro cv w' S' ρ' hgr hv
    refine hK _ _ S' ρ' (addH s.new H) ⟨fun b c hb => hgr.store b c (hg.s1 b c hb), fun b h1 h2 => ?_, hgr.rel, ?_, fun r k hr => ?_, fun r k hr => hgr.keep.heap r k (hg.old r k hr), fun i si r k hsi hl hr => ?_,
      fun i si r hsi hl hr => ?_, fun i p si d hp hsi hl hpd => ?_, fun t ht => ?_, hg.kept.trans hgr.kept, by rw [put_size]; exact hg.size, by rw [put_defers]; exact hg.defers⟩
    · by_cases hS : S b = none
      · exact hgr.fresh b hS h2
      · exact hg.s2 b h1 hS
    · refine hg.fix.keep hgr.keep (fun r h1 h2 h3 => ?_)
      cases hn : s.new.look r with
      | some k' => have := (F.new j s r _ hls hn).2; omega
      | none => rw [addH_old hn] at h2; exact h2 h3
    · cases hn : s.new.look r with
      | some k' => rw [addH_new hn] at hr; cases hr; exact (F.new j s r _ hls hn).1
      | none => rw [addH_old hn] at hr; exact hg.sub r k hr
    · by_cases hij : i = j
      · subst hij; rw [hls] at hsi; cases hsi; exact addH_new hr
      · rw [getD_set _ _ _ _ hjl, if_neg hij] at hl
        exact hgr.keep.heap r k (hg.new i si r k hsi hl hr)
    · have hij : i ≠ j := fun e => by subst e; rw [getD_set _ _ _ _ hjl, if_pos rfl] at hl; cases hl
      rw [getD_set _ _ _ _ hjl, if_neg hij] at hl
      rw [addH_old (F.once i j si s r hij hsi hls hr)]
      exact hg.not i si r hsi hl hr
    · by_cases hij : i = j
      · subst hij
        rw [hls] at hsi; cases hsi
        rw [hlo] at hp; cases hp
        rw [hpd, put_getD_self (by rw [hg.size]; exact hd1 d hpd)]
        exact hv
      · rw [getD_set _ _ _ _ hjl, if_neg hij] at hl
        rw [put_getD (apart i p d hij hp hpd)]
        exact hgr.v (hg.done i p si d hp hsi hl hpd)
    · rw [put_getD (ht j o hlo)]
      exact hgr.v (hg.rest t ht)
  unfold wpOp
  simp only [List.getElem?_toArray, hao]
  cases hran : s.ran with
  | true =>
    rw [hran] at hop hwant
    simp only [if_true] at hop
    rw [if_pos hwant]
    left
    exact hop S ρ H a w (fun b hb => x.hown b (Nat.le_trans hg.kept.size hb)) hg.sub hg.rel hx (fun r hr => hg.not j s r hls hunl' hr) K Q (fun cv S' ρ' w' h1 h2 => next cv w' S' ρ' h1 h2)
  | false =>
    rw [hran] at hop hwant
    simp only [Bool.false_eq_true, if_false] at hop
    rw [if_neg (by rw [hwant]; simp)]
    obtain ⟨hv, hn⟩ := hop
    refine next _ w S ρ ?_ ?_
    · rw [hn]; exact .refl hg.rel
    · rw [hv]; exact .pure _ _ .skipd
end
end Go.Vc
namespace Go.Vc
open Go.RowKit
section
variable {P : Program} {C : Table} {hint : Hint} {x : Cx}
structure Left (all : List Oper) (listed : Array Bool) (U : List Nat) : Prop where
  size : listed.size = all.length
  mem : ∀ j, j ∈ U ↔ j < all.length /\ listed.getD j false = false
  nodup : U.Nodup
theorem Left.step {all : List Oper} {listed : Array Bool} {U : List Nat} (h : Left all listed U) {j : Nat} (hj : j ∈ U) : Left all (listed.setIfInBounds j true) (U.erase j) /\ (U.erase j).length + 1 = U.length := by
  have hjl : j < listed.size := by rw [h.size]; exact ((h.mem j).1 hj).1
  refine ⟨⟨by simp [h.size], fun i => ?_, h.nodup.erase j⟩, ?_⟩
  · rw [h.nodup.mem_erase_iff, h.mem i, getD_set _ _ _ _ hjl]
    by_cases hij : i = j
    · subst hij; simp
    · simp [hij]
  · rw [List.length_erase_of_mem hj]
    have := List.length_pos_of_mem hj
    omega
theorem ready_mem {all : List Oper} {listed : Array Bool} {U : List Nat} (h : Left all listed U) {j : Nat} (hr : j ∈ Region.ready .any all.toArray listed) : j ∈ U := by
  obtain ⟨h1, o, ho, _⟩ := mem_ready.1 hr
  have hj : j < all.length := by simpa using (Array.getElem?_eq_some_iff.1 ho).1
  refine (h.mem j).2 ⟨hj, ?_⟩
  have : j < listed.size := by rw [h.size]; exact hj
  simp [this] at h1 ⊢; exact h1
theorem ready_least {all : List Oper} (hback : backB all = true) {listed : Array Bool} {U : List Nat} (h : Left all listed U) {j : Nat} (hj : j ∈ U) (hl : ∀ i, i < j -> i ∉ U) : j ∈ Region.ready .any all.toArray listed := by
  obtain ⟨hjl, hjf⟩ := (h.mem j).1 hj
  have hjs : j < listed.size := by rw [h.size]; exact hjl
  refine mem_ready.2 ⟨by simp [hjs] at hjf ⊢; exact hjf, all[j], by simp [hjl], fun e he hb => ?_⟩
  have h1 := zipIdx_all hback (show all[j]? = some all[j] by simp [hjl])
  have h2 := Array.all_eq_true'.1 h1 e he
  have h3 : e.on < j := by simpa [hb] using h2
  have h4 := hl e.on h3
  cases hlst : listed.getD e.on false with
  | true => rfl
  | false => exact absurd ((h.mem e.on).2 ⟨by omega, hlst⟩) h4
theorem exists_least : ∀ (U : List Nat), U ≠ [] -> ∃ j ∈ U, ∀ i, i < j -> i ∉ U
  | [], h => (h rfl).elim
  | [a], _ => ⟨a, by simp, fun i hi hm => by simp at hm; omega⟩
  | a :: b :: U, _ => by
    obtain ⟨j, hj, hl⟩ := exists_least (b :: U) (by simp)
    by_cases haj : a < j
    · refine ⟨a, by simp, fun i hi hm => ?_⟩
      rcases List.mem_cons.1 hm with rfl | hm
      · omega
      · exact hl i (by omega) hm
    · refine ⟨j, List.mem_cons_of_mem _ hj, fun i hi hm => ?_⟩
      rcases List.mem_cons.1 hm with rfl | hm
      · omega
      · exact hl i hi hm
theorem tail_ok (hT : TabOK P C) (hx0 : x.n0 <= hint.n0) {all : List Oper} {Q : Exit -> Act -> World -> Prop} {K : Env -> Heap -> Nat -> Prop} (hK : ∀ e h n a w, K e h n -> Sat x e h n a w -> Q .normal a w) (hback : backB all = true) (hdst : dstOK x.k all = true)
    {hd : Nat} (hchain : Region.chainB .any all.toArray hd = true) :
    ∀ (l : List Oper) (i : Nat) (e : Env) (h : Heap) (n : Nat) (listed : Array Bool) (U : List Nat) (a : Act) (w : World) (fuel : Nat), all.drop i = l -> hd <= i -> Left all listed U -> (∀ j, j ∈ U ↔ i <= j /\ j < all.length) -> U.length <= fuel ->
      opsA P C hint all l e h n K -> Sat x e h n a w -> wpAny P .any all.toArray Q fuel listed a w
  | [], i, e, h, n, listed, U, a, w, fuel, hl, hi, hL, hU, hf, hop, hs => by
    have hil : all.length <= i := by
      rcases Nat.lt_or_ge i all.length with h | h
      · have := congrArg List.length hl; simp at this; omega
      · exact h
    have hE : Region.ready .any all.toArray listed = [] := by
      apply List.eq_nil_iff_forall_not_mem.2
      intro j hj
      have := (hU j).1 (ready_mem hL hj)
      omega
    cases fuel with
    | zero => exact ⟨hE, hK e h n a w hop hs⟩
    | succ fuel => exact ⟨fun _ => hK e h n a w hop hs, fun j hj => by rw [hE] at hj; cases hj⟩
  | o :: rest, i, e, h, n, listed, U, a, w, fuel, hl, hi, hL, hU, hf, hop, hs => by
    have hil : i < all.length := by
      rcases Nat.lt_or_ge i all.length with h | h
      · exact h
      · rw [List.drop_of_length_le h] at hl; cases hl
    have ho : all[i]? = some o := by
      have := congrArg (·[0]?) hl
      simpa using this
    have hrest : all.drop (i + 1) = rest := by
      rw [<- List.drop_drop, hl]; rfl
    have hiU : i ∈ U := (hU i).2 ⟨Nat.le_refl _, hil⟩
    have hir : i ∈ Region.ready .any all.toArray listed := ready_least hback hL hiU (fun j hj hm => by have := (hU j).1 hm; omega)
    have honly : ∀ j, j ∈ Region.ready .any all.toArray listed -> j = i := by
      intro j hj
      have hju := (hU j).1 (ready_mem hL hj)
      by_cases hji : j = i
      · exact hji
      · exfalso
        have h1 := List.all_eq_true.1 hchain j (List.mem_range.2 (by simpa using hju.2))
        simp only [Bool.or_eq_true, decide_eq_true_eq] at h1
        rcases h1 with h1 | h1
        · omega
        · obtain ⟨o', ho', ed, he, hb, hon⟩ := Region.waitsFor_spec h1
          obtain ⟨_, o2, ho2, hall⟩ := mem_ready.1 hj
          rw [ho'] at ho2; cases ho2
          have := hall ed he hb
          rw [hon] at this
          have hm : j - 1 ∈ U := (hU (j - 1)).2 ⟨by omega, by omega⟩
          have := ((hL.mem (j - 1)).1 hm).2
          simp_all
    have hd1 : ∀ t, o.dst = some t -> t < x.k := dstOK_mem hdst (List.mem_of_getElem? ho)
    obtain ⟨hL', hlen⟩ := hL.step hiU
    cases fuel with
    | zero => have := List.length_pos_of_mem hiU; omega
    | succ fuel =>
      refine ⟨fun h0 => (by rw [h0] at hir; cases hir), fun j hj => ?_⟩
      obtain rfl := honly j hj
      have go : ∀ e' h' n' a' w', opsA P C hint all rest e' h' n' K -> Sat x e' h' n' a' w' -> wpAny P .any all.toArray Q fuel (listed.setIfInBounds j true) a' w' := fun e' h' n' a' w' hop' hs' =>
        tail_ok hT hx0 hK hback hdst hchain rest (j + 1) e' h' n' _ _ a' w' fuel hrest (by omega) hL' (fun q => by
          rw [hL.nodup.mem_erase_iff, hU q]; omega) (by omega) hop' hs'
      unfold wpOp
      simp only [List.getElem?_toArray, ho]
      unfold opsA at hop
      obtain ⟨e', hs', h1 | h1⟩ := guard_ok hop hs
      · obtain ⟨hw, hy⟩ := h1
        rw [if_pos hw]
        left
        split at hy
        · rename_i c p q hpk
          have hcase : ∀ r : Operand, (∃ b : Bool, a.eval c = .bool b /\ (if b then p else q) = r) -> opsA P C hint all rest (dset e' o.dst (opnd e' r)) h n K -> o.wp P a w (wpAny P .any all.toArray Q fuel (listed.setIfInBounds j true)) Q := by
            rintro r ⟨b, hb, hr⟩ hK2
            unfold Oper.wp
            have : (execOp a.eval o).run P w = .ok (.value (a.eval r)) w := by
              subst hr
              cases b <;> simp [execOp, hpk, hb, asBool]
            rw [this]
            exact go _ _ _ _ _ hK2 (hs'.put hd1 (fun S ρ hE => hE.opnd r))
          have hv := hs'
          obtain ⟨S, ρ, _, _, _, _, hE, _⟩ := hv
          have hvc := hE.opnd c
          unfold pickS at hy
          split at hy
          · rename_i b hb
            rw [hb] at hvc
            cases b with
            | true => exact hcase p ⟨true, hvc.bool_inv, rfl⟩ (hy.1 rfl)
            | false => exact hcase q ⟨false, hvc.bool_inv, rfl⟩ (hy.2 rfl)
          · rename_i hb; rw [hb] at hvc; exact hcase p ⟨true, hvc.tt_inv, rfl⟩ hy
          · rename_i hb; rw [hb] at hvc; exact hcase q ⟨false, hvc.ff_inv, rfl⟩ hy
          · exact hy.elim
        · rename_i t p v hst
          by_cases hpo : ∃ r i, opnd e' p = .po r i
          · obtain ⟨r, i, hpo⟩ := hpo
            exact row_ok hx0 hst hs' hpo hy.1 hd1 (fun a' w' hs2 => go _ _ _ _ _ hy.2 hs2)
          · exact store_ok hst hs' hy.1 hd1 (fun r i h => hpo ⟨r, i, h⟩) (fun a' w' hs2 => go _ _ _ _ _ hy.2 hs2)
        · rename_i s y ts tx hap
          unfold appS at hy
          split at hy
          · exact append_ok hx0 hap hs' hy.1 hd1 (fun a' w' hs2 => go _ _ _ _ _ hy.2 hs2)
          · exact appM_ok hx0 hap hs' hy.1 hd1 (fun a' w' hs2 => go _ _ _ _ _ hy.2 hs2)
          · exact opH_ok hT hy.1 hs' hd1 (fun a' w' hs2 => go _ _ _ _ _ hy.2 hs2)
        · rename_i f xs ts hcl
          cases hm : hint.ms (mkey f) with
          | true =>
            cases hm2 : hint.ms (1000000 + mkey f) with
            | true =>
              simp only [hm, hm2, cond_true] at hy
              exact callZ_ok hT.spec hT.call hcl hs' hy hd1 (fun v e3 h3 c a' w' hk3 hs2 => go _ _ _ _ _ hk3 hs2)
            | false =>
              simp only [hm, hm2, cond_true, cond_false] at hy
              exact callM_ok hT.spec hT.call hcl hs' hy.1 hd1 (fun a' w' hs2 => go _ _ _ _ _ hy.2 hs2)
          | false =>
            simp only [hm, cond_false] at hy
            exact opH_ok hT hy.1 hs' hd1 (fun a' w' hs2 => go _ _ _ _ _ hy.2 hs2)
        · rename_i op t y z t2 hbo
          cases hm : isNilc op z with
          | true =>
            simp only [hm, cond_true] at hy
            exact nil_ok hbo hm hs' hy hd1 (fun a' w' b hb hs2 => go _ _ _ _ _ hb hs2)
          | false =>
            simp only [hm, cond_false] at hy
            exact opH_ok hT hy.1 hs' hd1 (fun a' w' hs2 => go _ _ _ _ _ hy.2 hs2)
        · exact opH_ok hT hy.1 hs' hd1 (fun a' w' hs2 => go _ _ _ _ _ hy.2 hs2)
      · obtain ⟨hw, hy⟩ := h1
        rw [if_neg (by rw [hw]; simp)]
        exact go _ _ _ _ _ hy (hs'.put hd1 (fun S ρ _ => .pure _ _ .skipd))
theorem draw_any (hT : TabOK P C) (hx0 : x.n0 <= hint.n0) {all : List Oper} {hd : Nat} (hchk : drawOK hint all hd = true) (hdst : dstOK x.k all = true) {e : Env} {h : Heap} {n : Nat} {a : Act} {w : World}
    {Q : Exit -> Act -> World -> Prop} {K : Env -> Heap -> Nat -> Prop} (hK : ∀ e h n a w, K e h n -> Sat x e h n a w -> Q .normal a w) (hop : opsA P C hint all all e h n K) (hs : Sat x e h n a w) :
    wpAny P .any all.toArray Q all.toArray.size (Array.replicate all.toArray.size false) a { w with drawn := w.drawn + 1 } := by
  simp only [drawOK, Bool.and_eq_true, Bool.or_eq_true, decide_eq_true_eq] at hchk
  obtain ⟨⟨⟨⟨hback, hssa⟩, hgd⟩, htail⟩, hM⟩ := hchk
  have hs' : Sat x e h n a { w with drawn := w.drawn + 1 } := by
    obtain ⟨S, ρ, s1, s2, s3, sf, s4, s5, s6⟩ := hs
    exact ⟨S, ρ, s1, s2, s3.drew _, sf, s4, s5.drew _, s6⟩
  have hk0 : ∀ r, h.look r ≠ none -> r < n := by obtain ⟨S, ρ, s1, s2, s3, sf, s4, s5, s6, s7, s8, s9⟩ := hs; exact s8
  have hxn : x.n0 <= n := by obtain ⟨S, ρ, s1, s2, s3, sf, s4, s5, s6, s7, s8, s9⟩ := hs; exact s9
  have hhd : hd <= all.length := by rcases htail with h | h <;> omega
  have hsplit : all = all.take hd ++ all.drop hd := (List.take_append_drop _ _).symm
  have hop2 : opsA P C hint all (all.take hd ++ all.drop hd) e h n K := by rw [<- hsplit]; exact hop
  obtain ⟨tr, e', h', n', ht, hkt⟩ := extract (own := x.own) hT (all.take hd) e h n (fun o ho => by have := List.all_eq_true.1 hM o ho; simpa using this) hk0 hop2
  have F := Trace.facts (f := e.get) _ _ _ _ _ _ _ _ (fun t => Ent.refl _) hk0 ht
  have hll : (all.take hd).length = hd := by simp; omega
  have hall : ∀ (i : Nat) o, (all.take hd)[i]? = some o -> all[i]? = some o := fun i o ho => by
    rw [List.getElem?_take] at ho; split at ho
    · exact ho
    · cases ho
  have hdst' : dstOK x.k (all.take hd) = true := List.all_eq_true.2 (fun o ho => List.all_eq_true.1 hdst o (List.mem_of_mem_take ho))
  -- what the head leaves
  have ends : ∀ {listed : Array Bool} {a : Act} {w : World} {S : Store} {ρ : Rho} {H : HF}, (∀ i, i < hd -> listed.getD i false = true) -> Good x (all.take hd) tr e h h' listed a w S ρ H -> Sat x e' h' n' a w := by
    intro listed a w S ρ H hl hg
    have eH : H = h'.look := by
      funext r
      cases hr : h'.look r with
      | none =>
        cases hH : H r with
        | none => rfl
        | some k => have := hg.sub r k hH; rw [hr] at this; cases this
      | some k =>
        rcases F.whence r k hr with h1 | ⟨i, s, h1, h2⟩
        · exact hg.old r k h1
        · have hi : i < hd := by
            have := (List.getElem?_eq_some_iff.1 h1).1
            rw [F.len, hll] at this; exact this
          exact hg.new i s r k h1 (hl i hi) h2
    refine ⟨S, ρ, hg.s1, hg.s2, by rw [<- eH]; exact hg.rel, by rw [<- eH]; exact hg.fix, fun t => ?_, hg.kept, hg.size, hg.defers, F.keys, Nat.le_trans hxn F.le⟩
    rw [<- eH]
    refine F.fin t _ _ _ _ ?_
    by_cases hex : ∃ (i : Nat) (p : Oper), (all.take hd)[i]? = some p /\ p.dst = some t
    · obtain ⟨i, p, hp, hpd⟩ := hex
      have hi := (List.getElem?_eq_some_iff.1 hp).1
      have hit : i < tr.length := by rw [F.len]; exact hi
      have hst : tr[i]? = some tr[i] := by simp [hit]
      rw [cur_some _ tr e.get _ i t p tr[i] hi hp hst hpd (fun q o' hq hne ho' hdo => by
        have h1 := zipIdx_all (zipIdx_all hssa ho') hp
        simp only [hpd, Bool.and_eq_true, Bool.or_eq_true, beq_iff_eq, bne_iff_ne, ne_eq] at h1
        rcases h1.1.1 with h2 | h2
        · exact hne h2.symm
        · exact h2 hdo)]
      exact hg.done i p _ t hp hst (hl i (by omega)) hpd
    · rw [cur_none _ tr e.get _ t (fun i p _ hp hpd => hex ⟨i, p, hp, hpd⟩)]
      exact hg.rest t (fun i p hp hpd => hex ⟨i, p, hp, hpd⟩)
  -- whatever order
  have main : ∀ (fuel : Nat) (U : List Nat) (listed : Array Bool) (a : Act) (w : World) (S : Store) (ρ : Rho) (H : HF), Left all listed U -> (∀ i, hd <= i -> i < all.length -> i ∈ U) -> U.length <= fuel ->
      (∀ j oj, all.toArray[j]? = some oj -> listed.getD j false = true -> ∀ ed ∈ oj.after, Region.binds .any ed = true -> listed.getD ed.on false = true) ->
      Good x (all.take hd) tr e h h' listed a w S ρ H -> wpAny P .any all.toArray Q fuel listed a w := by
    intro fuel
    induction fuel with
    | zero =>
      intro U listed a w S ρ H hL hUt hf hcl hg
      have hU0 : U = [] := List.length_eq_zero_iff.1 (by omega)
      subst hU0
      have hlist : ∀ i, i < hd -> listed.getD i false = true := fun i hi => by
        cases hli : listed.getD i false with
        | true => rfl
        | false => exact absurd ((hL.mem i).2 ⟨by omega, hli⟩) (by simp)
      have hdall : hd = all.length := by
        rcases Nat.lt_or_ge hd all.length with h | h
        · exact absurd (hUt hd (Nat.le_refl _) h) (by simp)
        · omega
      have hE : Region.ready .any all.toArray listed = [] := List.eq_nil_iff_forall_not_mem.2 (fun j hj => absurd (ready_mem hL hj) (by simp))
      refine ⟨hE, ?_⟩
      have : all.drop hd = [] := List.drop_of_length_le (by omega)
      rw [this] at hkt
      exact hK _ _ _ _ _ hkt (ends hlist hg)
    | succ fuel ih =>
      intro U listed a w S ρ H hL hUt hf hcl hg
      by_cases hrem : ∃ i ∈ U, i < hd
      · -- some head operation is left
        have hne : U ≠ [] := by obtain ⟨i, hi, _⟩ := hrem; intro e; subst e; cases hi
        obtain ⟨m, hm1, hm2⟩ := exists_least U hne
        have hmr := ready_least hback hL hm1 hm2
        refine ⟨fun h0 => (by rw [h0] at hmr; cases hmr), fun j hj => ?_⟩
        have hjU := ready_mem hL hj
        have hjhd : j < hd := by
          rcases Nat.lt_or_ge j hd with h | h
          · exact h
          · exfalso
            rcases htail with h1 | ⟨⟨h1, h2⟩, h3⟩
            · have := ((hL.mem j).1 hjU).1; omega
            · obtain ⟨i, hi1, hi2⟩ := hrem
              have hi3 := (hL.mem i).1 hi1
              have his : i < listed.size := by rw [hL.size]; omega
              refine tail_waits (md := .any) (ops := all.toArray) h2 h3 (by simpa using h1) ⟨by rw [hL.size]; simp, hcl, fun t ht ht' => ?_⟩ _ i rfl hi2 (getD_in his hi3.2) j h hj
              have ht2 : t < all.length := by simpa using ht'
              exact getD_in (by rw [hL.size]; exact ht2) ((hL.mem t).1 (hUt t ht ht2)).2
        obtain ⟨hL', hlen⟩ := hL.step hjU
        have hjs : j < listed.size := by rw [hL.size]; omega
        refine good_step hxn F hall hback hssa hgd hdst' hL.size hg hj (by rw [hll]; exact hjhd) (fun a' w' S' ρ' H' hg' => ?_)
        refine ih _ _ a' w' S' ρ' H' hL' (fun i hi1 hi2 => ?_) (by omega) (fun q oq hoq hlq ed hed hb => ?_) hg'
        · rw [hL.nodup.mem_erase_iff]; exact ⟨by omega, hUt i hi1 hi2⟩
        · rw [getD_set _ _ _ _ hjs] at hlq ⊢
          split
          · rfl
          · split at hlq
            · rename_i e1; subst e1
              obtain ⟨_, o2, ho2, hall2⟩ := mem_ready.1 hj
              rw [hoq] at ho2; cases ho2
              exact hall2 ed hed hb
            · exact hcl q oq hoq hlq ed hed hb
      · -- the head is done
        have hlist : ∀ i, i < hd -> listed.getD i false = true := fun i hi => by
          cases hli : listed.getD i false with
          | true => rfl
          | false => exact absurd ⟨i, (hL.mem i).2 ⟨by omega, hli⟩, hi⟩ hrem
        have hsat := ends hlist hg
        have hUiff : ∀ j, j ∈ U ↔ hd <= j /\ j < all.length := fun j => ⟨fun hj => ⟨by
          rcases Nat.lt_or_ge j hd with h | h
          · exact absurd ⟨j, hj, h⟩ hrem
          · exact h, ((hL.mem j).1 hj).1⟩, fun ⟨h1, h2⟩ => hUt j h1 h2⟩
        have hchain : Region.chainB .any all.toArray hd = true := by
          rcases htail with h1 | ⟨_, h3⟩
          · refine List.all_eq_true.2 (fun t ht => ?_)
            have := List.mem_range.1 ht
            simp at this
            simp; left; omega
          · exact h3
        exact tail_ok hT hx0 hK hback hdst hchain (all.drop hd) hd e' h' n' listed U a w (fuel + 1) rfl (Nat.le_refl _) hL hUiff hf hkt hsat
  obtain ⟨S, ρ, s1, s2, s3, sf, s4, s5, s6, s7, s8⟩ := hs'
  refine main all.toArray.size (List.range all.length) _ a _ S ρ h.look ⟨by simp, fun j => ?_, List.nodup_range⟩ (fun i _ hi => List.mem_range.2 hi) (by simp) (fun j oj _ hl => ?_) ?_
  · simp only [List.mem_range]
    constructor
    · intro hj; exact ⟨hj, getD_replicate_false _ _⟩
    · exact fun h => h.1
  · rw [getD_replicate_false] at hl; cases hl
  · refine ⟨s1, s2, s3, sf, fun r k hr => F.old r k hr, fun _ _ h => h, fun i s r k hs hl => (by rw [getD_replicate_false] at hl; cases hl), fun i s r hs _ hr => ?_, fun i o s d ho hs hl => (by rw [getD_replicate_false] at hl; cases hl), fun t _ => s4 t, s5, s6, s7⟩
    cases hh : h.look r with
    | none => rfl
    | some k =>
      obtain ⟨k', hk'⟩ := Option.ne_none_iff_exists'.1 hr
      have h1 := (F.new i s r k' hs hk').2
      have h2 := hk0 r (by rw [hh]; simp)
      omega
theorem draw_ok (hT : TabOK P C) (hx0 : x.n0 <= hint.n0) (hm : P.follows .mixedOrders = true) {all : List Oper} {hd : Nat} (hchk : drawOK hint all hd = true) (hdst : dstOK x.k all = true) {id : Nat} {e : Env} {h : Heap} {n : Nat} {a : Act} {w : World}
    {Q : Exit -> Act -> World -> Prop} {K : Env -> Heap -> Nat -> Prop} (hK : ∀ e h n a w, K e h n -> Sat x e h n a w -> Q .normal a w) (hop : opsA P C hint all all e h n K) (hs : Sat x e h n a w) :
    (Code.region id all.toArray true).wp P Q a w := wp_region_any hm (draw_any hT hx0 hchk hdst hK hop hs)
end
end Go.Vc
namespace Go.Vc
open Go.RowKit
def renO (f : Nat -> Nat) (o : Oper) : Oper := { o with after := o.after.map (fun e => { e with on := f e.on }), guard := o.guard.map fun g => (f g.1, g.2) }
def posOf : List Nat -> Nat -> Nat
  | [], _ => 0
  | a :: p, i => bif a == i then 0 else posOf p i + 1
def permL (q : List Nat) (l : List Oper) : List Nat -> List Oper
  | [] => []
  | i :: r => match l[i]? with
    | some o => renO (posOf q) o :: permL q l r
    | none => permL q l r
def permO (p : List Nat) (l : List Oper) : List Oper := match p with | [] => l | a :: r => permL (a :: r) l (a :: r)
def permOK (p : List Nat) (l : List Oper) : Bool :=
  p.length == l.length && (p.all fun i => decide (i < l.length)) && ((List.range l.length).all fun i => p[posOf p i]? == some i) && (p.zipIdx.all fun x => posOf p x.1 == x.2)
structure PermOf (all all' : List Oper) (f : Nat -> Nat) : Prop where
  len : all'.length = all.length
  lt : ∀ i, i < all.length -> f i < all.length
  inj : ∀ i j, i < all.length -> j < all.length -> f i = f j -> i = j
  sur : ∀ k, k < all.length -> ∃ i, i < all.length /\ f i = k
  at' : ∀ (i : Nat) o, all[i]? = some o -> all'[f i]? = some (renO f o)
  out : ∀ i, all.length <= i -> all.length <= f i
theorem posOf_out : ∀ (p : List Nat) (i : Nat), i ∉ p -> posOf p i = p.length
  | [], _, _ => rfl
  | a :: p, i, h => by
    have h1 : ¬ a = i := fun e => h (by rw [e]; exact List.mem_cons_self)
    have h2 := posOf_out p i (fun hm => h (List.mem_cons_of_mem _ hm))
    show (bif a == i then 0 else posOf p i + 1) = p.length + 1
    rw [show (a == i) = false by simpa using h1, h2]; rfl
theorem permL_all {q : List Nat} {l : List Oper} : ∀ {p : List Nat}, (∀ i ∈ p, i < l.length) -> (permL q l p).length = p.length /\ ∀ (k : Nat) i o, p[k]? = some i -> l[i]? = some o -> (permL q l p)[k]? = some (renO (posOf q) o)
  | [], _ => ⟨rfl, fun k i o h => by simp at h⟩
  | a :: p, h => by
    have ha := h a List.mem_cons_self
    obtain ⟨h1, h2⟩ := permL_all (q := q) (p := p) (fun i hi => h i (List.mem_cons_of_mem _ hi))
    have e : l[a]? = some l[a] := by simp [ha]
    have e2 : permL q l (a :: p) = renO (posOf q) l[a] :: permL q l p := by rw [permL, e]
    rw [e2]
    refine ⟨by simp [h1], fun k i o hk ho => ?_⟩
    cases k with
    | zero => simp at hk; subst hk; rw [e] at ho; cases ho; rfl
    | succ k => simp at hk ⊢; exact h2 k i o hk ho
theorem permOK_of {p : List Nat} {l : List Oper} (h : permOK p l = true) (hne : p ≠ []) : PermOf l (permO p l) (posOf p) := by
  simp only [permOK, Bool.and_eq_true, beq_iff_eq, List.all_eq_true, decide_eq_true_eq, List.mem_range] at h
  obtain ⟨⟨⟨h1, h2⟩, h3⟩, h4⟩ := h
  have ep : permO p l = permL p l p := by cases p with | nil => exact (hne rfl).elim | cons a p => rfl
  obtain ⟨g1, g2⟩ := permL_all (q := p) h2
  have hlt : ∀ i, i < l.length -> posOf p i < l.length := fun i hi => by
    have := (List.getElem?_eq_some_iff.1 (h3 i hi)).1
    omega
  refine ⟨by rw [ep, g1, h1], hlt, fun i j hi hj e => ?_, fun k hk => ?_, fun i o ho => ?_, fun i hi => ?_⟩
  · have a1 := h3 i hi
    have a2 := h3 j hj
    rw [e, a2] at a1; exact (Option.some.inj a1).symm
  · have hk' : k < p.length := by omega
    have e : p[k]? = some p[k] := by simp [hk']
    refine ⟨p[k], h2 _ (List.getElem_mem hk'), ?_⟩
    have := h4 (p[k], k) (by rw [List.mem_iff_getElem?]; exact ⟨k, by simp [List.getElem?_zipIdx, e]⟩)
    simpa using this
  · have hi := (List.getElem?_eq_some_iff.1 ho).1
    rw [ep]
    exact g2 _ i o (h3 i hi) ho
  · rw [posOf_out p i (fun hm => by have := h2 i hm; omega), h1]; exact Nat.le_refl _
section
variable {P : Program} {all all' : List Oper} {f : Nat -> Nat}
structure SameL (n : Nat) (f : Nat -> Nat) (listed listed' : Array Bool) : Prop where
  s1 : listed.size = n
  s2 : listed'.size = n
  eq : ∀ i, i < n -> ∀ b, listed'.getD (f i) b = listed.getD i b
theorem getD_out {listed : Array Bool} {i : Nat} (h : listed.size <= i) : listed.getD i false = false := by simp [Array.getElem?_eq_none h]
theorem SameL.edge {listed listed' : Array Bool} (hp : PermOf all all' f) (hs : SameL all.length f listed listed') (i : Nat) : listed'.getD (f i) false = listed.getD i false := by
  by_cases h : i < all.length
  · exact hs.eq i h false
  · rw [getD_out (by rw [hs.s2]; exact hp.out i (by omega)), getD_out (by rw [hs.s1]; omega)]
theorem ready_perm (hp : PermOf all all' f) {listed listed' : Array Bool} (hs : SameL all.length f listed listed') {i : Nat} (hi : i < all.length) :
    i ∈ Region.ready .any all.toArray listed ↔ f i ∈ Region.ready .any all'.toArray listed' := by
  have ho : all[i]? = some all[i] := by simp [hi]
  have ho' := hp.at' i _ ho
  rw [mem_ready, mem_ready]
  simp only [List.getElem?_toArray, ho, ho', Option.some.injEq, exists_eq_left']
  rw [hs.eq i hi true]
  refine and_congr_right (fun _ => ⟨fun h e' he' hb => ?_, fun h e he hb => ?_⟩)
  · obtain ⟨e, he, rfl⟩ := Array.mem_map.1 he'
    rw [hs.edge hp]
    exact h e he hb
  · have := h { e with on := f e.on } (Array.mem_map.2 ⟨e, he, rfl⟩) hb
    rwa [hs.edge hp] at this
theorem yielded_perm (hp : PermOf all all' f) (tmps : Array Value) (g : Nat) : yielded all'.toArray tmps (f g) = yielded all.toArray tmps g := by
  unfold yielded
  simp only [List.getElem?_toArray]
  by_cases h : g < all.length
  · have ho : all[g]? = some all[g] := by simp [h]
    rw [ho, hp.at' g _ ho]; rfl
  · rw [List.getElem?_eq_none (by rw [hp.len]; exact hp.out g (by omega)), List.getElem?_eq_none (by omega)]
theorem wanted_perm (hp : PermOf all all' f) (tmps : Array Value) (o : Oper) : Region.wanted (renO f o) (yielded all'.toArray tmps) = Region.wanted o (yielded all.toArray tmps) := by
  unfold Region.wanted
  cases hg : o.guard with
  | none => simp [renO, hg]
  | some gb => obtain ⟨g, b⟩ := gb; simp [renO, hg, yielded_perm hp]
theorem wpAny_perm (hp : PermOf all all' f) {Q : Exit -> Act -> World -> Prop} : ∀ (fuel : Nat) (listed listed' : Array Bool) (a : Act) (w : World), SameL all.length f listed listed' ->
    wpAny P .any all'.toArray Q fuel listed' a w -> wpAny P .any all.toArray Q fuel listed a w := by
  have nil : ∀ {listed listed' : Array Bool}, SameL all.length f listed listed' -> Region.ready .any all.toArray listed = [] -> Region.ready .any all'.toArray listed' = [] := fun hs h => by
    apply List.eq_nil_iff_forall_not_mem.2
    intro k hk
    obtain ⟨_, o, ho, _⟩ := mem_ready.1 hk
    have hkl : k < all.length := by have := (Array.getElem?_eq_some_iff.1 ho).1; simpa [hp.len] using this
    obtain ⟨i, hi, rfl⟩ := hp.sur k hkl
    have := (ready_perm hp hs hi).2 hk
    rw [h] at this; cases this
  have nil' : ∀ {listed listed' : Array Bool}, SameL all.length f listed listed' -> Region.ready .any all'.toArray listed' = [] -> Region.ready .any all.toArray listed = [] := fun hs h => by
    apply List.eq_nil_iff_forall_not_mem.2
    intro i hi
    obtain ⟨_, o, ho, _⟩ := mem_ready.1 hi
    have hil : i < all.length := by have := (Array.getElem?_eq_some_iff.1 ho).1; simpa using this
    have := (ready_perm hp hs hil).1 hi
    rw [h] at this; cases this
  intro fuel
  induction fuel with
  | zero => intro listed listed' a w hs h; exact ⟨nil' hs h.1, h.2⟩
  | succ fuel ih =>
    intro listed listed' a w hs h
    refine ⟨fun h0 => h.1 (nil hs h0), fun i hi => ?_⟩
    obtain ⟨_, o, ho, _⟩ := mem_ready.1 hi
    have hil : i < all.length := by have := (Array.getElem?_eq_some_iff.1 ho).1; simpa using this
    have ho1 : all[i]? = some o := by simpa using ho
    have ho2 := hp.at' i o ho1
    have hstep := h.2 (f i) ((ready_perm hp hs hil).1 hi)
    have hs' : SameL all.length f (listed.setIfInBounds i true) (listed'.setIfInBounds (f i) true) := ⟨by simp [hs.s1], by simp [hs.s2], fun j hj b => by
      rw [getD_set _ _ _ _ (by rw [hs.s2]; exact hp.lt i hil), getD_set _ _ _ _ (by rw [hs.s1]; exact hil)]
      by_cases e : j = i
      · subst e; rw [if_pos rfl, if_pos rfl]
      · rw [if_neg e, if_neg (fun e' => e (hp.inj j i hj hil e')), hs.eq j hj b]⟩
    unfold wpOp at hstep ⊢
    simp only [List.getElem?_toArray, ho1, ho2] at hstep ⊢
    rw [wanted_perm hp] at hstep
    split
    · rename_i hw
      rw [if_pos hw] at hstep
      rcases hstep with hstep | hstep
      · left
        exact Oper.wp_mono (fun a' w' h' => ih _ _ a' w' hs' h') hstep
      · right; exact hstep
    · rename_i hw
      rw [if_neg hw] at hstep
      exact ih _ _ _ _ hs' hstep
end
section
variable {P : Program} {C : Table} {hint : Hint} {x : Cx}
theorem getD_rep {n i : Nat} (h : i < n) (b : Bool) : (Array.replicate n false).getD i b = false := by simp [h]
theorem draw_perm (hT : TabOK P C) (hx0 : x.n0 <= hint.n0) (hm : P.follows .mixedOrders = true) {all all' : List Oper} {f : Nat -> Nat} (hp : PermOf all all' f) {hd : Nat} (hchk : drawOK hint all' hd = true) (hdst : dstOK x.k all' = true) {id : Nat} {e : Env} {h : Heap} {n : Nat} {a : Act} {w : World}
    {Q : Exit -> Act -> World -> Prop} {K : Env -> Heap -> Nat -> Prop} (hK : ∀ e h n a w, K e h n -> Sat x e h n a w -> Q .normal a w) (hop : opsA P C hint all' all' e h n K) (hs : Sat x e h n a w) :
    (Code.region id all.toArray true).wp P Q a w := by
  refine wp_region_any hm ?_
  have h1 := draw_any hT hx0 hchk hdst hK hop hs
  have e1 : all'.toArray.size = all.toArray.size := by simp [hp.len]
  rw [e1] at h1
  refine wpAny_perm hp _ _ _ _ _ ⟨by simp, by simp, fun i hi b => ?_⟩ h1
  simp only [List.size_toArray]
  rw [getD_rep (hp.lt i hi), getD_rep hi]
end
end Go.Vc
