/- An abstract run of the model's code, with proofs that it is sound: whatever order a region draws, whatever capacity an append draws. Conditions: none. Part two. -/
import Derived.Test.YtaoenbfmhdconaaVcA
import Derived.StillTail
import Derived.Deep.LoopGhost
set_option linter.unusedSimpArgs false
set_option linter.unusedVariables false
namespace Go.Vc
open Go.RowKit

/-- What the table needs. -/
structure TabOK (P : Program) (C : Table) : Prop where
  spec : TableOK P C
  call : ∀ f c, (f, c) ∈ C → Callable P f

section
variable {P : Program} {C : Table} {hint : Hint} {x : Cx}

theorem look_ne_append {new h : Heap} {r : Nat} (hr : (new ++ h).look r ≠ none) : new.look r ≠ none ∨ h.look r ≠ none := by
  rw [← addH_look] at hr
  unfold addH at hr
  cases hn : new.look r with
  | some k => exact .inl (by simp)
  | none => rw [hn] at hr; exact .inr hr

/-- The keys of new memory. -/
theorem evalH_keys (hC : TableOK P C) {o : Oper} {e : Env} {h : Heap} {n : Nat} (hp : (evalH P C hint o e h n).pre) : ∀ r, (evalH P C hint o e h n).new.look r ≠ none → n ≤ r ∧ r < n + (evalH P C hint o e h n).cnt := by
  intro r hr
  have hbox : ∀ (ow : Bool) (v : AV), (boxR ow n v).new.look r ≠ none → n ≤ r ∧ r < n + (boxR ow n v).cnt := fun ow v hr => by
    cases ow with
    | true =>
      simp only [boxR, cond_true, Heap.look] at hr ⊢
      split at hr
      · rename_i e; subst e; simp
      · exact (hr rfl).elim
    | false => simp [boxR, Heap.look] at hr
  have hnewL : ∀ (ow : Bool) (p : Prop) (v : Option AV), (newL ow n p v).new.look r ≠ none → n ≤ r ∧ r < n + (newL ow n p v).cnt := fun ow p v hr => by
    cases v with
    | none => simp [newL, noRes, Heap.look] at hr
    | some v =>
      cases ow with
      | true =>
        simp only [newL, cond_true, Heap.look] at hr ⊢
        split at hr
        · rename_i e; subst e; simp
        · exact (hr rfl).elim
      | false => simp [newL, Heap.look] at hr
  unfold evalH at hr hp ⊢
  split at hr <;> first | (simp [rv, Heap.look] at hr; done) | skip
  · rename_i ho; (try simp only [ho]); exact hbox _ _ hr
  · rename_i ho
    simp only [ho] at *
    unfold allocR at hr ⊢
    cases hz : zv P _ with
    | none => rw [hz] at hr; simp [Heap.look] at hr
    | some z => simp only [hz] at hr ⊢; exact hbox _ _ hr
  · rename_i ho; simp only [ho] at *; exact hnewL _ _ _ hr
  · rename_i ho
    simp only [ho] at *
    unfold makeR at hr ⊢
    split at hr
    · exact hnewL _ _ _ hr
    · simp [noRes, Heap.look] at hr
  · rename_i ho
    simp only [ho] at *
    unfold appN at hr ⊢
    split at hr
    · exact hnewL _ _ _ hr
    · simp [noRes, Heap.look] at hr
  · rename_i f xs ts ho
    simp only [ho] at *
    cases hh : hint (o.dst.getD 0) with
    | true =>
      simp only [hh, frzNew, cond_true] at hr hp ⊢
      have hfn : ∃ g caps, opnd e f = .fn g caps := by cases hfe : opnd e f <;> first | exact ⟨_, _, rfl⟩ | (rw [hfe] at hp; exact hp.elim)
      obtain ⟨g, caps, hf⟩ := hfn
      rw [hf] at hp hr ⊢
      obtain ⟨hpre, _⟩ := hp
      have hfind : (g, C.find g) ∈ C := by
        rcases Table.find_mem (C := C) (f := g) with h | h
        · rw [h] at hpre; exact hpre.elim
        · exact h
      exact (hC g _ hfind _ _ hpre).2 r hr
    | false => simp [hh, frzNew, Heap.look] at hr

theorem Sat.drop {e : Env} {h : Heap} {n m : Nat} {a : Act} {w : World} (hs : Sat x e h n a w) (hm : n ≤ m) : Sat x e h m a w := by
  obtain ⟨S, ρ, h1, h2, h3, h4, h5, h6, h7, h8⟩ := hs
  exact ⟨S, ρ, h1, h2, h3, h4, h5, h6, h7, fun r hr => Nat.lt_of_lt_of_le (h8 r hr) hm⟩

/-- An operation that only reads or makes memory, alone. -/
theorem opH_ok (hT : TabOK P C) {o : Oper} {e : Env} {h : Heap} {n : Nat} {a : Act} {w : World} (hp : (evalH P C hint o e h n).pre) (hs : Sat x e h n a w) (hd : ∀ t, o.dst = some t → t < x.k)
    {next : Act → World → Prop} {Q : Exit → Act → World → Prop}
    (hK : ∀ a' w', Sat x (dset e o.dst (evalH P C hint o e h n).val) ((evalH P C hint o e h n).new ++ h) (n + (evalH P C hint o e h n).cnt) a' w' → next a' w') : o.wp P a w next Q := by
  obtain ⟨S, ρ, s1, s2, hrel, hE, hkept, hk, hdf, hn⟩ := hs
  have keys := evalH_keys (hint := hint) hT.spec hp
  have hok := evalH_ok (own := x.own) (hF := ((evalH P C hint o e h n).new ++ h).look) hT.spec hT.call (hint := hint) (o := o) (e := e) (h := h) (n := n)
    (fun r k hr => by
      rw [← addH_look]
      have : (evalH P C hint o e h n).new.look r = none := by
        cases hnw : (evalH P C hint o e h n).new.look r with
        | none => rfl
        | some k' => have h1 := keys r (by rw [hnw]; simp); have h2 := hn r (by rw [hr]; simp); omega
      rw [addH_old this]; exact hr)
    (fun r h1 h2 h3 => by
      rw [← addH_look, addH_old h3]
      cases hr : h.look r with
      | none => rfl
      | some k => have := hn r (by rw [hr]; simp); omega) hn hp
  refine hok S ρ h.look a w (fun b hb => x.hown b (Nat.le_trans hkept.size hb)) (fun r k hr => ?_) hrel (fun y _ => hE.opnd y) (fun r hr => ?_) next Q (fun cv S' ρ' w' hg hv => ?_)
  · rw [← addH_look]
    have : (evalH P C hint o e h n).new.look r = none := by
      cases hnw : (evalH P C hint o e h n).new.look r with
      | none => rfl
      | some k' => have h1 := keys r (by rw [hnw]; simp); have h2 := hn r (by rw [hr]; simp); omega
    rw [addH_old this]; exact hr
  · cases hr' : h.look r with
    | none => rfl
    | some k => have h1 := keys r hr; have h2 := hn r (by rw [hr']; simp); omega
  · refine hK _ _ ⟨S', ρ', fun b c hb => hg.store b c (s1 b c hb), fun b h1 h2 => ?_, by rw [← addH_look]; exact hg.rel, ?_, hkept.trans hg.kept, by rw [put_size]; exact hk, by rw [put_defers]; exact hdf, fun r hr => ?_⟩
    · by_cases hS : S b = none
      · exact hg.fresh b hS h2
      · exact s2 b h1 hS
    · rw [← addH_look]
      exact (hE.ext hg.store hg.keep).put hv (fun t ht => by rw [hk]; exact hd t ht)
    · rcases look_ne_append hr with h1 | h1
      · exact (keys r h1).2
      · have := hn r h1; omega

def dstOK (k : Nat) (l : List Oper) : Bool := l.all fun o => match o.dst with | some d => decide (d < k) | none => true
theorem dstOK_mem {k : Nat} {l : List Oper} (h : dstOK k l = true) {o : Oper} (ho : o ∈ l) : ∀ t, o.dst = some t → t < k := by
  intro t ht
  have := List.all_eq_true.1 h o ho
  rw [ht] at this
  simpa using this

/-- In the order of the text. -/
theorem opsA_seq (hT : TabOK P C) {all : List Oper} {Q : Exit → Act → World → Prop} {K : Env → Heap → Nat → Prop} (hK : ∀ e h n a w, K e h n → Sat x e h n a w → Q .normal a w) :
    ∀ (l : List Oper) (e : Env) (h : Heap) (n : Nat) (a : Act) (w : World), dstOK x.k l = true → opsA P C hint all l e h n K → Sat x e h n a w → wpList P all.toArray Q l a w
  | [], e, h, n, a, w, _, ho, hs => hK e h n a w ho hs
  | o :: rest, e, h, n, a, w, hd, hop, hs => by
    have hd1 := dstOK_mem hd (o := o) (by simp)
    have hd2 : dstOK x.k rest = true := by simp only [dstOK, List.all_cons, Bool.and_eq_true] at hd ⊢; exact hd.2
    unfold wpList
    unfold opsA at hop
    obtain ⟨e', hs', h1 | h1⟩ := guard_ok hop hs
    · obtain ⟨hw, hy⟩ := h1
      rw [if_pos hw]
      left
      split at hy
      · rename_i c p q hpk
        have hcase : ∀ r : Operand, (∃ b : Bool, a.eval c = .bool b ∧ (if b then p else q) = r) → opsA P C hint all rest (dset e' o.dst (opnd e' r)) h n K → o.wp P a w (wpList P all.toArray Q rest) Q := by
          rintro r ⟨b, hb, hr⟩ hK2
          unfold Oper.wp
          have : (execOp a.eval o).run P w = .ok (.value (a.eval r)) w := by
            subst hr
            cases b <;> simp [execOp, hpk, hb, asBool]
          rw [this]
          exact opsA_seq hT hK rest _ _ _ _ _ hd2 hK2 (hs'.put hd1 (fun S ρ hE => hE.opnd r))
        have hv := hs'
        obtain ⟨S, ρ, _, _, _, hE, _⟩ := hv
        have hvc := hE.opnd c
        unfold pickS at hy
        split at hy
        · rename_i b hb
          rw [hb] at hvc
          cases b with
          | true => exact hcase p ⟨true, hvc.bool_inv, rfl⟩ (hy.1 rfl)
          | false => exact hcase q ⟨false, hvc.bool_inv, rfl⟩ (hy.2 rfl)
        · rename_i hb; rw [hb] at hvc; exact hcase p ⟨true, hvc.tt_inv, rfl⟩ hy
        · rename_i hb; rw [hb] at hvc; exact hcase q ⟨false, hvc.ff_inv, rfl⟩ hy
        · exact hy.elim
      · rename_i t p v hst
        exact store_ok hst hs' hy.1 hd1 (fun a' w' hs2 => opsA_seq hT hK rest _ _ _ _ _ hd2 hy.2 hs2)
      · rename_i s y ts tx hap
        unfold appS at hy
        split at hy
        · exact append_ok hap hs' hy.1 hd1 (fun a' w' hs2 => opsA_seq hT hK rest _ _ _ _ _ hd2 hy.2 hs2)
        · exact opH_ok hT hy.1 hs' hd1 (fun a' w' hs2 => opsA_seq hT hK rest _ _ _ _ _ hd2 hy.2 hs2)
      · exact opH_ok hT hy.1 hs' hd1 (fun a' w' hs2 => opsA_seq hT hK rest _ _ _ _ _ hd2 hy.2 hs2)
    · obtain ⟨hw, hy⟩ := h1
      rw [if_neg (by rw [hw]; simp)]
      exact opsA_seq hT hK rest _ _ _ _ _ hd2 hy (hs'.put hd1 (fun S ρ _ => .pure _ _ .skipd))
end
end Go.Vc
namespace Go.Vc
open Go.RowKit

structure Stp where
  env : Env
  v : AV
  new : Heap
  cnt : Nat
  ran : Bool

/-- What is known of one value is known of the other. -/
def Ent (u v : AV) : Prop := ∀ S ρ H cv, V S ρ H u cv → V S ρ H v cv
theorem Ent.refl (u : AV) : Ent u u := fun _ _ _ _ h => h
theorem Ent.trans {u v w : AV} (h : Ent u v) (k : Ent v w) : Ent u w := fun S ρ H cv hv => k S ρ H cv (h S ρ H cv hv)
def EntE (e e' : Env) : Prop := ∀ t, Ent (e.get t) (e'.get t)
theorem EntE.refl (e : Env) : EntE e e := fun _ => .refl _
theorem EntE.dset {e e' : Env} (h : EntE e e') (d : Option Tmp) (v : AV) : EntE (dset e d v) (dset e' d v) := by
  cases d with
  | none => exact h
  | some d =>
    intro t
    simp only [Go.Vc.dset, Env.get]
    by_cases ht : d = t
    · rw [if_pos ht, if_pos ht]; exact .refl _
    · rw [if_neg ht, if_neg ht]; exact h t

/-- The guard, read off an environment: run, or passed over. -/
def Guarded (all : List Oper) (o : Oper) (e : Env) (yes : Bool) : Prop :=
  match o.guard with
  | none => yes = true
  | some (j, want) => match gdst all j with
    | none => yes = false
    | some d => ∀ S ρ H (tmps : Array Value), V S ρ H (e.get d) (tmps.getD d Go.undef) → (((match tmps[d]? with | some (.bool b) => some b | _ => none) == some want) = yes)

section
variable {P : Program} {C : Table} {hint : Hint} {own : Nat → Prop}

/-- One head operation. -/
def HeadStep (P : Program) (own : Nat → Prop) (all : List Oper) (o : Oper) (e : Env) (h : Heap) (n : Nat) (s : Stp) : Prop :=
  (EntE e s.env ∧ Guarded all o e s.ran) ∧ (∀ r, s.new.look r ≠ none → n ≤ r ∧ r < n + s.cnt) ∧
    (if s.ran then ∀ hF : HF, (∀ r k, h.look r = some k → hF r = some k) → (∀ r, n ≤ r → r < n + s.cnt → s.new.look r = none → hF r = none) → OpOK P own o s.env hF s.v s.new
      else s.v = .skipd ∧ s.new = [] ∧ s.cnt = 0)

/-- A run of head operations, in the order of the text. -/
def Trace (P : Program) (own : Nat → Prop) (all : List Oper) : List Oper → List Stp → Env → Heap → Nat → Env → Heap → Nat → Prop
  | [], [], e, h, n, e', h', n' => e' = e ∧ h' = h ∧ n' = n
  | o :: l, s :: tr, e, h, n, e', h', n' => HeadStep P own all o e h n s ∧ (∀ r, h.look r ≠ none → r < n) ∧ Trace P own all l tr (dset s.env o.dst s.v) (s.new ++ h) (n + s.cnt) e' h' n'
  | _, _, _, _, _, _, _, _ => False

def isM (o : Oper) : Bool := match o.op with | .store .. => true | .call ⟨.builtin .append, _, _⟩ => true | _ => false

theorem guard_ext {all : List Oper} {o : Oper} {e : Env} {yes no : Env → Prop} (hg : guardA all o.guard e yes no) : ∃ e1 y, EntE e e1 ∧ Guarded all o e y ∧ (if y then yes e1 else no e1) := by
  unfold guardA at hg
  cases hgd : o.guard with
  | none => rw [hgd] at hg; exact ⟨e, true, .refl _, by simp [Guarded, hgd], hg⟩
  | some jw =>
    obtain ⟨j, want⟩ := jw
    rw [hgd] at hg
    have hg : guardD want (gdst all j) e yes no := hg
    unfold guardD at hg
    cases hd : gdst all j with
    | none => rw [hd] at hg; exact ⟨e, false, .refl _, by simp [Guarded, hgd, hd], hg⟩
    | some d =>
      rw [hd] at hg
      have cell : ∀ (tmps : Array Value) (b : Bool), tmps.getD d Go.undef = .bool b → tmps[d]? = some (.bool b) := fun tmps b hb => by
        rw [Array.getD_eq_getD_getElem?] at hb
        cases hc : tmps[d]? with
        | none => rw [hc] at hb; simp [Go.undef] at hb
        | some v => rw [hc] at hb; simp at hb; rw [hb]
      have ref : ∀ {u v : AV}, e.get d = u → Ent u v → EntE e ((d, v) :: e) := fun {u v} hu hv t => by
        simp only [Env.get]
        by_cases ht : d = t
        · subst ht; rw [if_pos rfl, hu]; exact hv
        · rw [if_neg ht]; exact .refl _
      have G : ∀ (y : Bool), (∀ S ρ H (tmps : Array Value), V S ρ H (e.get d) (tmps.getD d Go.undef) → (((match tmps[d]? with | some (.bool b) => some b | _ => none) == some want) = y)) → Guarded all o e y := fun y h => by
        unfold Guarded; rw [hgd]; simp only [hd]; exact h
      simp only [guardS] at hg
      split at hg
      · rename_i b hb
        have hG : Guarded all o e (b == want) := G _ (fun S ρ H tmps hv => by rw [hb] at hv; rw [cell tmps b hv.bool_inv]; cases b <;> cases want <;> rfl)
        cases b with
        | true =>
          refine ⟨_, _, ref hb (fun S ρ H cv h => by rw [h.bool_inv]; exact .pure _ _ .tt), hG, ?_⟩
          have := hg.1 rfl
          cases want <;> exact this
        | false =>
          refine ⟨_, _, ref hb (fun S ρ H cv h => by rw [h.bool_inv]; exact .pure _ _ .ff), hG, ?_⟩
          have := hg.2 rfl
          cases want <;> exact this
      · rename_i hb
        exact ⟨e, want, .refl _, G _ (fun S ρ H tmps hv => by rw [hb] at hv; rw [cell tmps true hv.tt_inv]; cases want <;> rfl), by cases want <;> exact hg⟩
      · rename_i hb
        exact ⟨e, !want, .refl _, G _ (fun S ρ H tmps hv => by rw [hb] at hv; rw [cell tmps false hv.ff_inv]; cases want <;> rfl), by cases want <;> exact hg⟩
      · rename_i hb
        refine ⟨e, false, .refl _, G _ (fun S ρ H tmps hv => ?_), hg⟩
        rw [hb] at hv
        have hc := hv.skipd_inv
        cases hc' : tmps[d]? with
        | none => rfl
        | some v =>
          rw [Array.getD_eq_getD_getElem?, hc'] at hc
          simp [Go.undef] at hc
          rw [hc]; rfl
      · exact hg.elim

theorem pick_ok {o : Oper} {c p q r : Operand} {e : Env} {hF : HF} {b : Bool} (ho : o.op = .pick c p q) (hb : ∀ S ρ H cv, V S ρ H (opnd e c) cv → cv = .bool b) (hr : (if b then p else q) = r) : OpOK P own o e hF (opnd e r) [] := by
  refine OpOK.ofRun (fun S ρ H a w hsub hrel hx => ?_)
  rw [ho] at hx
  have h1 := hb S ρ H _ (hx c (by simp [Op.operands]))
  refine ⟨a.eval r, ?_, ?_⟩
  · subst hr; cases b <;> simp [execOp, ho, h1, asBool]
  · subst hr; cases b
    · exact hx q (by simp [Op.operands])
    · exact hx p (by simp [Op.operands])

/-- The head of a region, as the text runs. -/
theorem extract (hT : TabOK P C) {all tail : List Oper} {K : Env → Heap → Nat → Prop} : ∀ (l : List Oper) (e : Env) (h : Heap) (n : Nat), (∀ o ∈ l, isM o = false) → (∀ r, h.look r ≠ none → r < n) → opsA P C hint all (l ++ tail) e h n K →
    ∃ tr e' h' n', Trace P own all l tr e h n e' h' n' ∧ opsA P C hint all tail e' h' n' K
  | [], e, h, n, _, _, ho => ⟨[], e, h, n, ⟨rfl, rfl, rfl⟩, ho⟩
  | o :: l, e, h, n, hm, hn, ho => by
    have hm1 := hm o (by simp)
    have hm2 : ∀ o ∈ l, isM o = false := fun o h => hm o (by simp [h])
    simp only [List.cons_append] at ho
    unfold opsA at ho
    obtain ⟨e1, y, hE, hG, hy⟩ := guard_ext ho
    cases y with
    | false =>
      simp only [Bool.false_eq_true, if_false] at hy
      obtain ⟨tr, e', h', n', ht, hk⟩ := extract hT l _ h n hm2 hn hy
      exact ⟨⟨e1, .skipd, [], 0, false⟩ :: tr, e', h', n', ⟨⟨⟨hE, hG⟩, fun r hr => (hr rfl).elim, by simp⟩, hn, ht⟩, hk⟩
    | true =>
      simp only [if_true] at hy
      split at hy
      · rename_i c p q hpk
        have go : ∀ (b : Bool) (r : Operand), (∀ S ρ H cv, V S ρ H (opnd e1 c) cv → cv = .bool b) → (if b then p else q) = r → opsA P C hint all (l ++ tail) (dset e1 o.dst (opnd e1 r)) h n K →
            ∃ tr e' h' n', Trace P own all (o :: l) tr e h n e' h' n' ∧ opsA P C hint all tail e' h' n' K := by
          intro b r hb hr hK2
          obtain ⟨tr, e', h', n', ht, hk⟩ := extract hT l _ h n hm2 hn hK2
          exact ⟨⟨e1, opnd e1 r, [], 0, true⟩ :: tr, e', h', n', ⟨⟨⟨hE, hG⟩, fun r hr => (hr rfl).elim, by simp only [if_true]; exact fun hF _ _ => pick_ok hpk hb hr⟩, hn, ht⟩, hk⟩
        unfold pickS at hy
        split at hy
        · rename_i b hb
          cases b with
          | true => exact go true p (fun S ρ H cv h => by rw [hb] at h; exact h.bool_inv) rfl (hy.1 rfl)
          | false => exact go false q (fun S ρ H cv h => by rw [hb] at h; exact h.bool_inv) rfl (hy.2 rfl)
        · rename_i hb; exact go true p (fun S ρ H cv h => by rw [hb] at h; exact h.tt_inv) rfl hy
        · rename_i hb; exact go false q (fun S ρ H cv h => by rw [hb] at h; exact h.ff_inv) rfl hy
        · exact hy.elim
      · rename_i t p v hst
        simp [isM, hst] at hm1
      · rename_i s y ts tx hst
        simp [isM, hst] at hm1
      · obtain ⟨hp, hy⟩ := hy
        have keys := evalH_keys (hint := hint) hT.spec hp
        obtain ⟨tr, e', h', n', ht, hk⟩ := extract hT l _ _ _ hm2 (fun r hr => by
          rcases look_ne_append hr with h1 | h1
          · exact (keys r h1).2
          · have := hn r h1; omega) hy
        refine ⟨⟨e1, (evalH P C hint o e1 h n).val, (evalH P C hint o e1 h n).new, (evalH P C hint o e1 h n).cnt, true⟩ :: tr, e', h', n', ⟨⟨⟨hE, hG⟩, keys, ?_⟩, hn, ht⟩, hk⟩
        simp only [if_true]
        exact fun hF h1 h2 => evalH_ok hT.spec hT.call h1 h2 hn hp
end
end Go.Vc
namespace Go.Vc
open Go.RowKit

/-- What a temporary holds ahead of operation i, in the order of the text. -/
def cur : List Oper → List Stp → (Nat → AV) → Nat → (Nat → AV)
  | o :: l, s :: tr, f, i + 1 => cur l tr (fun t => if o.dst = some t then s.v else f t) i
  | _, _, f, _ => f

section
variable {P : Program} {own : Nat → Prop}

structure Facts (P : Program) (own : Nat → Prop) (all l : List Oper) (tr : List Stp) (f : Nat → AV) (h : Heap) (n : Nat) (e' : Env) (h' : Heap) (n' : Nat) : Prop where
  len : tr.length = l.length
  le : n ≤ n'
  keys : ∀ r, h'.look r ≠ none → r < n'
  old : ∀ r k, h.look r = some k → h'.look r = some k
  whence : ∀ r k, h'.look r = some k → h.look r = some k ∨ ∃ (i : Nat) (s : Stp), tr[i]? = some s ∧ s.new.look r = some k
  new : ∀ (i : Nat) (s : Stp) r k, tr[i]? = some s → s.new.look r = some k → h'.look r = some k ∧ n ≤ r
  once : ∀ (i j : Nat) (s s' : Stp) r, i ≠ j → tr[i]? = some s → tr[j]? = some s' → s.new.look r ≠ none → s'.new.look r = none
  step : ∀ (i : Nat) (o : Oper) (s : Stp), l[i]? = some o → tr[i]? = some s → ∃ ei, (∀ t, Ent (cur l tr f i t) (ei.get t)) ∧ EntE ei s.env ∧ Guarded all o ei s.ran ∧
    (if s.ran then OpOK P own o s.env h'.look s.v s.new else s.v = .skipd ∧ s.new = [])
  fin : ∀ t, Ent (cur l tr f l.length t) (e'.get t)

theorem Trace.facts {all : List Oper} : ∀ (l : List Oper) (tr : List Stp) (e : Env) (f : Nat → AV) (h : Heap) (n : Nat) (e' : Env) (h' : Heap) (n' : Nat), (∀ t, Ent (f t) (e.get t)) → (∀ r, h.look r ≠ none → r < n) →
    Trace P own all l tr e h n e' h' n' → Facts P own all l tr f h n e' h' n'
  | [], [], e, f, h, n, e', h', n', hf, hk, ht => by
    obtain ⟨rfl, rfl, rfl⟩ := ht
    exact ⟨rfl, Nat.le_refl _, hk, fun _ _ h => h, fun r k h => .inl h, fun i s r k hs => by simp at hs, fun i j s s' r _ hs => by simp at hs, fun i o s ho => by simp at ho, hf⟩
  | [], _ :: _, e, f, h, n, e', h', n', hf, hk, ht => ht.elim
  | _ :: _, [], e, f, h, n, e', h', n', hf, hk, ht => ht.elim
  | o :: l, s :: tr, e, f, h, n, e', h', n', hf, hk, ht => by
    obtain ⟨⟨⟨hE, hG⟩, hkeys, hstep⟩, _, ht⟩ := ht
    have hnone : ∀ r, h.look r ≠ none → s.new.look r = none := fun r hr => by
      cases hn : s.new.look r with
      | none => rfl
      | some k => have h1 := hkeys r (by rw [hn]; simp); have h2 := hk r hr; omega
    have hk2 : ∀ r, (s.new ++ h).look r ≠ none → r < n + s.cnt := fun r hr => by
      rcases look_ne_append hr with h1 | h1
      · exact (hkeys r h1).2
      · have := hk r h1; omega
    have hf2 : ∀ t, Ent (if o.dst = some t then s.v else f t) ((dset s.env o.dst s.v).get t) := fun t => by
      cases hd : o.dst with
      | none => simp only [dset]; rw [if_neg (by simp)]; exact (hf t).trans (hE t)
      | some d =>
        simp only [dset, Env.get]
        by_cases hdt : d = t
        · subst hdt; simp only [if_true]; exact .refl _
        · rw [if_neg hdt, if_neg (by simpa using hdt)]; exact (hf t).trans (hE t)
    have ih := Trace.facts l tr _ (fun t => if o.dst = some t then s.v else f t) _ _ e' h' n' hf2 hk2 ht
    have oldA : ∀ r k, h.look r = some k → (s.new ++ h).look r = some k := fun r k hr => by
      rw [← addH_look, addH_old (hnone r (by rw [hr]; simp))]; exact hr
    have newA : ∀ r k, s.new.look r = some k → (s.new ++ h).look r = some k := fun r k hr => by rw [← addH_look, addH_new hr]
    refine ⟨by simp [ih.len], by have := ih.le; omega, ih.keys, fun r k hr => ih.old r k (oldA r k hr), fun r k hr => ?_, fun i s' r k hs hr => ?_, fun i j s1 s2 r hij h1 h2 hr => ?_, fun i o' s' ho hs => ?_, ?_⟩
    · rcases ih.whence r k hr with h1 | ⟨i, s', h1, h2⟩
      · rw [← addH_look] at h1
        cases hn : s.new.look r with
        | some k' => rw [addH_new hn] at h1; cases h1; exact .inr ⟨0, s, rfl, hn⟩
        | none => rw [addH_old hn] at h1; exact .inl h1
      · exact .inr ⟨i + 1, s', by simpa using h1, h2⟩
    · cases i with
      | zero => simp at hs; subst hs; exact ⟨ih.old r k (newA r k hr), (hkeys r (by rw [hr]; simp)).1⟩
      | succ i => simp at hs; obtain ⟨h1, h2⟩ := ih.new i s' r k hs hr; exact ⟨h1, by omega⟩
    · cases i with
      | zero =>
        cases j with
        | zero => exact (hij rfl).elim
        | succ j =>
          simp at h1 h2; subst h1
          cases hn : s2.new.look r with
          | none => rfl
          | some k => have a1 := (ih.new j s2 r k h2 hn).2; have a2 := (hkeys r hr).2; omega
      | succ i =>
        cases j with
        | zero =>
          simp at h1 h2; subst h2
          cases hn : s.new.look r with
          | none => rfl
          | some k =>
            obtain ⟨k', hk'⟩ := Option.ne_none_iff_exists'.1 hr
            have a1 := (ih.new i s1 r k' h1 hk').2; have a2 := (hkeys r (by rw [hn]; simp)).2; omega
        | succ j => simp at h1 h2; exact ih.once i j s1 s2 r (by omega) h1 h2 hr
    · cases i with
      | zero =>
        simp at ho hs; subst ho; subst hs
        refine ⟨e, hf, hE, hG, ?_⟩
        cases hr : s.ran with
        | false => rw [hr] at hstep; simp only [Bool.false_eq_true, if_false] at hstep ⊢; exact ⟨hstep.1, hstep.2.1⟩
        | true =>
          rw [hr] at hstep; simp only [if_true] at hstep ⊢
          refine hstep _ (fun r k h => ih.old r k (oldA r k h)) (fun r h1 h2 h3 => ?_)
          cases hl : h'.look r with
          | none => rfl
          | some k =>
            rcases ih.whence r k hl with hw | ⟨i, s', hw1, hw2⟩
            · rw [← addH_look, addH_old h3] at hw
              have := hk r (by rw [hw]; simp); omega
            · have := (ih.new i s' r k hw1 hw2).2; omega
      | succ i => simp at ho hs; exact ih.step i o' s' ho hs
    · exact ih.fin

theorem cur_none : ∀ (l : List Oper) (tr : List Stp) (f : Nat → AV) (i : Nat) (t : Nat), (∀ (j : Nat) o, j < i → l[j]? = some o → o.dst ≠ some t) → cur l tr f i t = f t
  | [], _, f, i, t, _ => by cases i <;> rfl
  | _ :: _, [], f, i, t, _ => by cases i <;> rfl
  | _ :: _, _ :: _, f, 0, t, _ => rfl
  | o :: l, s :: tr, f, i + 1, t, h => by
    have h0 := h 0 o (by omega) rfl
    have := cur_none l tr (fun t => if o.dst = some t then s.v else f t) i t (fun j o' hj ho => h (j + 1) o' (by omega) (by simpa using ho))
    show cur l tr _ i t = f t
    rw [this, if_neg h0]

theorem cur_some : ∀ (l : List Oper) (tr : List Stp) (f : Nat → AV) (i j : Nat) (t : Nat) (o : Oper) (s : Stp), j < i → l[j]? = some o → tr[j]? = some s → o.dst = some t →
    (∀ (q : Nat) o', q < i → q ≠ j → l[q]? = some o' → o'.dst ≠ some t) → cur l tr f i t = s.v
  | [], _, f, i, j, t, o, s, _, ho, _, _, _ => by simp at ho
  | _ :: _, [], f, i, j, t, o, s, _, _, hs, _, _ => by simp at hs
  | _ :: _, _ :: _, f, 0, j, t, o, s, hj, _, _, _, _ => absurd hj (Nat.not_lt_zero _)
  | o1 :: l, s1 :: tr, f, i + 1, j, t, o, s, hj, ho, hs, hd, hu => by
    show cur l tr _ i t = s.v
    cases j with
    | zero =>
      simp at ho hs; subst ho; subst hs
      rw [cur_none l tr _ i t (fun q o' hq ho => hu (q + 1) o' (by omega) (by omega) (by simpa using ho)), if_pos hd]
    | succ j =>
      simp at ho hs
      exact cur_some l tr _ i j t o s (by omega) ho hs hd (fun q o' hq hne ho => hu (q + 1) o' (by omega) (by omega) (by simpa using ho))
end
end Go.Vc
namespace Go.Vc
open Go.RowKit

def waits (o : Oper) (j : Nat) : Bool := o.after.any fun e => Region.binds .any e && e.on == j
def tmpsOf (o : Oper) : List Nat := o.op.operands.toList.filterMap fun | .tmp t => some t | _ => none

/-- Edges point backwards. -/
def backB (all : List Oper) : Bool := all.zipIdx.all fun (o, i) => o.after.all fun e => !Region.binds .any e || decide (e.on < i)
/-- Head operations write each its own temporary, and wait for those whose temporaries they read. -/
def ssaB (l : List Oper) : Bool :=
  l.zipIdx.all fun (o, j) => l.zipIdx.all fun (p, i) =>
    (match p.dst with
    | none => true
    | some d => (i == j || o.dst != some d) && (!(tmpsOf o).contains d || waits o i)) &&
    (match o.guard with
    | none => true
    | some (g, _) => g != i || waits o i)
def guardB (l : List Oper) : Bool := l.all fun o => match o.guard with | none => true | some (g, _) => decide (g < l.length)
def drawOK (all : List Oper) (hd : Nat) : Bool :=
  backB all && ssaB (all.take hd) && guardB (all.take hd) && (decide (hd = all.length) || (decide (hd < all.length) && Region.sinkB .any all.toArray hd && Region.chainB .any all.toArray hd)) && (all.take hd).all (fun o => !isM o)

theorem zipIdx_all {α : Type} {l : List α} {p : α × Nat → Bool} (h : l.zipIdx.all p = true) {i : Nat} {x : α} (hx : l[i]? = some x) : p (x, i) = true := by
  refine List.all_eq_true.1 h (x, i) ?_
  rw [List.mem_iff_getElem?]
  exact ⟨i, by simp [List.getElem?_zipIdx, hx]⟩

theorem waits_spec {o : Oper} {j : Nat} (h : waits o j = true) : ∃ e ∈ o.after, Region.binds .any e = true ∧ e.on = j := by
  obtain ⟨e, he, hb⟩ := Array.any_eq_true'.1 h
  simp only [Bool.and_eq_true, beq_iff_eq] at hb
  exact ⟨e, he, hb.1, hb.2⟩

section
variable {P : Program} {C : Table} {hint : Hint} {x : Cx}

theorem ready_listed {ops : Array Oper} {listed : Array Bool} {j i : Nat} {o : Oper} (hr : j ∈ Region.ready .any ops listed) (ho : ops[j]? = some o) (hw : waits o i = true) : listed.getD i false = true := by
  obtain ⟨_, o', ho', hall⟩ := mem_ready.1 hr
  rw [ho] at ho'; cases ho'
  obtain ⟨e, he, hb, rfl⟩ := waits_spec hw
  exact hall e he hb

/-- Between the operations of a head, in whatever order they come. -/
structure Good (x : Cx) (l : List Oper) (tr : List Stp) (e : Env) (h h' : Heap) (listed : Array Bool) (a : Act) (w : World) (S : Store) (ρ : Rho) (H : HF) : Prop where
  s1 : x.S0.le S
  s2 : ∀ b, x.S0 b = none → S b ≠ none → x.own b
  rel : Rel x.own S ρ H w
  sub : ∀ r k, H r = some k → h'.look r = some k
  old : ∀ r k, h.look r = some k → H r = some k
  new : ∀ (i : Nat) s r k, tr[i]? = some s → listed.getD i false = true → s.new.look r = some k → H r = some k
  not : ∀ (i : Nat) s r, tr[i]? = some s → listed.getD i false = false → s.new.look r ≠ none → H r = none
  done : ∀ (i : Nat) o s d, l[i]? = some o → tr[i]? = some s → listed.getD i false = true → o.dst = some d → V S ρ H s.v (a.tmps.getD d Go.undef)
  rest : ∀ t, (∀ (i : Nat) o, l[i]? = some o → o.dst ≠ some t) → V S ρ H (e.get t) (a.tmps.getD t Go.undef)
  kept : Kept x.own x.W w
  size : a.tmps.size = x.k
  defers : a.defers = []

/-- What a temporary that a head operation reads holds. -/
theorem Good.read {l : List Oper} {tr : List Stp} {e : Env} {h h' : Heap} {listed : Array Bool} {a : Act} {w : World} {S : Store} {ρ : Rho} {H : HF} (hg : Good x l tr e h h' listed a w S ρ H) (hlen : tr.length = l.length)
    (hssa : ssaB l = true) {j : Nat} {o : Oper} (ho : l[j]? = some o) (hdep : ∀ i, waits o i = true → listed.getD i false = true ∧ i < j) {t : Nat}
    (ht : ∀ (i : Nat) p, l[i]? = some p → p.dst = some t → waits o i = true) : V S ρ H (cur l tr e.get j t) (a.tmps.getD t Go.undef) := by
  by_cases hex : ∃ (i : Nat) (p : Oper), l[i]? = some p ∧ p.dst = some t
  · obtain ⟨i, p, hp, hd⟩ := hex
    obtain ⟨hl, hij⟩ := hdep i (ht i p hp hd)
    have hit : i < tr.length := by rw [hlen]; exact (List.getElem?_eq_some_iff.1 hp).1
    have hs : tr[i]? = some tr[i] := by simp [hit]
    have := cur_some l tr e.get j i t p tr[i] hij hp hs hd (fun q o' hq hne ho' hdo => by
      have h1 := zipIdx_all (zipIdx_all hssa ho') hp
      simp only [hd, Bool.and_eq_true, Bool.or_eq_true, beq_iff_eq, bne_iff_ne, ne_eq] at h1
      rcases h1.1.1 with h2 | h2
      · exact hne h2.symm
      · exact h2 hdo)
    rw [this]
    exact hg.done i p _ t hp hs hl hd
  · rw [cur_none l tr e.get j t (fun i p _ hp hd => hex ⟨i, p, hp, hd⟩)]
    exact hg.rest t (fun i p hp hd => hex ⟨i, p, hp, hd⟩)

theorem getD_set (listed : Array Bool) (j i : Nat) (b : Bool) (h : j < listed.size) : (listed.setIfInBounds j true).getD i b = if i = j then true else listed.getD i b := by
  simp only [Array.getD_eq_getD_getElem?]
  by_cases hi : i = j
  · subst hi; simp [h]
  · rw [if_neg hi, Array.getElem?_setIfInBounds_ne (fun e => hi e.symm)]

theorem put_getD {a : Act} {o : Option Tmp} {v : Value} {t : Nat} (h : o ≠ some t) : (a.put o v).tmps.getD t Go.undef = a.tmps.getD t Go.undef := by
  cases o with
  | none => rfl
  | some d =>
    simp only [Act.put, Array.getD_eq_getD_getElem?]
    rw [Array.getElem?_setIfInBounds_ne (fun e => h (by rw [e]))]
theorem put_getD_self {a : Act} {d : Tmp} {v : Value} (h : d < a.tmps.size) : (a.put (some d) v).tmps.getD d Go.undef = v := by
  simp [Act.put, h]

theorem good_step {all l : List Oper} {tr : List Stp} {e e' : Env} {h h' : Heap} {n n' : Nat} (F : Facts P x.own all l tr e.get h n e' h' n') (hall : ∀ (i : Nat) o, l[i]? = some o → all[i]? = some o)
    (hback : backB all = true) (hssa : ssaB l = true) (hgd : guardB l = true) (hdst : dstOK x.k l = true) {listed : Array Bool} (hsz : listed.size = all.length) {a : Act} {w : World} {S : Store} {ρ : Rho} {H : HF}
    (hg : Good x l tr e h h' listed a w S ρ H) {j : Nat} (hr : j ∈ Region.ready .any all.toArray listed) (hj : j < l.length) {Q : Exit → Act → World → Prop} {K : Act → World → Prop}
    (hK : ∀ a' w' S' ρ' H', Good x l tr e h h' (listed.setIfInBounds j true) a' w' S' ρ' H' → K a' w') : wpOp P all.toArray Q j K a w := by
  have hlo : l[j]? = some l[j] := by simp [hj]
  have hao := hall j _ hlo
  generalize l[j] = o at hlo hao
  have hjt : j < tr.length := by rw [F.len]; exact hj
  have hls : tr[j]? = some tr[j] := by simp [hjt]
  generalize tr[j] = s at hls
  have hunl : listed.getD j true = false := (mem_ready.1 hr).1
  have hjl : j < listed.size := by
    rcases Nat.lt_or_ge j listed.size with h | h
    · exact h
    · simp [Array.getElem?_eq_none h] at hunl
  have hunl' : listed.getD j false = false := by simp [hjl] at hunl ⊢; exact hunl
  have hdep : ∀ i, waits o i = true → listed.getD i false = true ∧ i < j := fun i hw => by
    refine ⟨ready_listed hr (by simpa using hao) hw, ?_⟩
    obtain ⟨ed, he, hb, rfl⟩ := waits_spec hw
    have h1 := zipIdx_all hback hao
    have h2 := Array.all_eq_true'.1 h1 ed he
    simpa [hb] using h2
  have hd1 : ∀ t, o.dst = some t → t < x.k := dstOK_mem hdst (List.mem_of_getElem? hlo)
  obtain ⟨ei, hcur, hE, hG, hop⟩ := F.step j o s hlo hls
  have hread : ∀ t, (∀ (i : Nat) p, l[i]? = some p → p.dst = some t → waits o i = true) → V S ρ H (ei.get t) (a.tmps.getD t Go.undef) := fun t ht => hcur t _ _ _ _ (hg.read F.len hssa hlo hdep ht)
  have hx : ∀ y, y ∈ o.op.operands → V S ρ H (opnd s.env y) (a.eval y) := fun y hy => by
    cases y with
    | tmp t =>
      refine hE t _ _ _ _ (hread t (fun i p hp hpd => ?_))
      have h1 := zipIdx_all (zipIdx_all hssa hlo) hp
      simp only [hpd, Bool.and_eq_true, Bool.or_eq_true] at h1
      rcases h1.1.2 with h2 | h2
      · have : (tmpsOf o).contains t = true := by
          simp only [List.contains_iff_mem, tmpsOf, List.mem_filterMap]
          exact ⟨.tmp t, by simpa using hy, rfl⟩
        rw [this] at h2; cases h2
      · exact h2
    | const v => exact cst_v S ρ H v
    | global g => exact .pure _ _ (.undef _)
    | func f => exact .pure _ _ (.fn f [] #[] rfl (by simp))
  have hwant : Region.wanted o (yielded all.toArray a.tmps) = s.ran := by
    unfold Guarded at hG
    cases hgd' : o.guard with
    | none => rw [hgd'] at hG; simp only at hG; rw [hG]; simp [Region.wanted, hgd']
    | some gw =>
      obtain ⟨g, want⟩ := gw
      rw [hgd'] at hG
      have hy : yielded all.toArray a.tmps g = ((gdst all g).bind fun d => match a.tmps[d]? with | some (.bool b) => some b | _ => none) := by
        unfold yielded
        rw [gdst_eq]
        simp only [List.getElem?_toArray]
        cases (all[g]?).bind (·.dst) <;> rfl
      have hw : Region.wanted o (yielded all.toArray a.tmps) = (yielded all.toArray a.tmps g == some want) := by simp [Region.wanted, hgd']
      rw [hw, hy]
      simp only at hG
      cases hgdd : gdst all g with
      | none => rw [hgdd] at hG; simp only at hG; rw [hG]; rfl
      | some d =>
        rw [hgdd] at hG
        refine hG S ρ H a.tmps (hread d (fun i p hp hpd => ?_))
        have hgl : g < l.length := by
          have := List.all_eq_true.1 hgd o (List.mem_of_getElem? hlo)
          simpa [hgd'] using this
        have hpg : l[g]? = some l[g] := by simp [hgl]
        have hag := hall g _ hpg
        have hpgd : (l[g]).dst = some d := by
          rw [gdst_eq, hag] at hgdd; simpa using hgdd
        by_cases hig : i = g
        · subst hig
          have h1 := zipIdx_all (zipIdx_all hssa hlo) hp
          simp only [hgd', Bool.and_eq_true, Bool.or_eq_true, bne_iff_ne, ne_eq] at h1
          rcases h1.2 with h2 | h2
          · first | exact (h2 rfl).elim | exact (h2 trivial).elim
          · exact h2
        · have h1 := zipIdx_all (zipIdx_all hssa hpg) hp
          simp only [hpd, Bool.and_eq_true, Bool.or_eq_true, beq_iff_eq, bne_iff_ne, ne_eq] at h1
          rcases h1.1.1 with h2 | h2
          · exact (hig h2).elim
          · exact (h2 hpgd).elim
  have apart : ∀ (i : Nat) p d, i ≠ j → l[i]? = some p → p.dst = some d → o.dst ≠ some d := fun i p d hij hp hpd => by
    have h1 := zipIdx_all (zipIdx_all hssa hlo) hp
    simp only [hpd, Bool.and_eq_true, Bool.or_eq_true, beq_iff_eq, bne_iff_ne, ne_eq] at h1
    rcases h1.1.1 with h2 | h2
    · exact (hij h2).elim
    · exact h2
  -- the state behind it
  have next : ∀ (cv : Value) (w' : World) (S' : Store) (ρ' : Rho), Grow x.own S ρ H w S' ρ' (addH s.new H) w' → V S' ρ' (addH s.new H) s.v cv → K (a.put o.dst cv) w' := by
    intro cv w' S' ρ' hgr hv
    refine hK _ _ S' ρ' (addH s.new H) ⟨fun b c hb => hgr.store b c (hg.s1 b c hb), fun b h1 h2 => ?_, hgr.rel, fun r k hr => ?_, fun r k hr => hgr.keep.heap r k (hg.old r k hr), fun i si r k hsi hl hr => ?_,
      fun i si r hsi hl hr => ?_, fun i p si d hp hsi hl hpd => ?_, fun t ht => ?_, hg.kept.trans hgr.kept, by rw [put_size]; exact hg.size, by rw [put_defers]; exact hg.defers⟩
    · by_cases hS : S b = none
      · exact hgr.fresh b hS h2
      · exact hg.s2 b h1 hS
    · cases hn : s.new.look r with
      | some k' => rw [addH_new hn] at hr; cases hr; exact (F.new j s r _ hls hn).1
      | none => rw [addH_old hn] at hr; exact hg.sub r k hr
    · by_cases hij : i = j
      · subst hij; rw [hls] at hsi; cases hsi; exact addH_new hr
      · rw [getD_set _ _ _ _ hjl, if_neg hij] at hl
        exact hgr.keep.heap r k (hg.new i si r k hsi hl hr)
    · have hij : i ≠ j := fun e => by subst e; rw [getD_set _ _ _ _ hjl, if_pos rfl] at hl; cases hl
      rw [getD_set _ _ _ _ hjl, if_neg hij] at hl
      rw [addH_old (F.once i j si s r hij hsi hls hr)]
      exact hg.not i si r hsi hl hr
    · by_cases hij : i = j
      · subst hij
        rw [hls] at hsi; cases hsi
        rw [hlo] at hp; cases hp
        rw [hpd, put_getD_self (by rw [hg.size]; exact hd1 d hpd)]
        exact hv
      · rw [getD_set _ _ _ _ hjl, if_neg hij] at hl
        rw [put_getD (apart i p d hij hp hpd)]
        exact hgr.v (hg.done i p si d hp hsi hl hpd)
    · rw [put_getD (ht j o hlo)]
      exact hgr.v (hg.rest t ht)
  unfold wpOp
  simp only [List.getElem?_toArray, hao]
  cases hran : s.ran with
  | true =>
    rw [hran] at hop hwant
    simp only [if_true] at hop
    rw [if_pos hwant]
    left
    exact hop S ρ H a w (fun b hb => x.hown b (Nat.le_trans hg.kept.size hb)) hg.sub hg.rel hx (fun r hr => hg.not j s r hls hunl' hr) K Q (fun cv S' ρ' w' h1 h2 => next cv w' S' ρ' h1 h2)
  | false =>
    rw [hran] at hop hwant
    simp only [Bool.false_eq_true, if_false] at hop
    rw [if_neg (by rw [hwant]; simp)]
    obtain ⟨hv, hn⟩ := hop
    refine next _ w S ρ ?_ ?_
    · rw [hn]; exact .refl hg.rel
    · rw [hv]; exact .pure _ _ .skipd
end
end Go.Vc
namespace Go.Vc
open Go.RowKit
section
variable {P : Program} {C : Table} {hint : Hint} {x : Cx}

/-- The indices not yet carried out. -/
structure Left (all : List Oper) (listed : Array Bool) (U : List Nat) : Prop where
  size : listed.size = all.length
  mem : ∀ j, j ∈ U ↔ j < all.length ∧ listed.getD j false = false
  nodup : U.Nodup

theorem Left.step {all : List Oper} {listed : Array Bool} {U : List Nat} (h : Left all listed U) {j : Nat} (hj : j ∈ U) : Left all (listed.setIfInBounds j true) (U.erase j) ∧ (U.erase j).length + 1 = U.length := by
  have hjl : j < listed.size := by rw [h.size]; exact ((h.mem j).1 hj).1
  refine ⟨⟨by simp [h.size], fun i => ?_, h.nodup.erase j⟩, ?_⟩
  · rw [h.nodup.mem_erase_iff, h.mem i, getD_set _ _ _ _ hjl]
    by_cases hij : i = j
    · subst hij; simp
    · simp [hij]
  · rw [List.length_erase_of_mem hj]
    have := List.length_pos_of_mem hj
    omega

theorem ready_mem {all : List Oper} {listed : Array Bool} {U : List Nat} (h : Left all listed U) {j : Nat} (hr : j ∈ Region.ready .any all.toArray listed) : j ∈ U := by
  obtain ⟨h1, o, ho, _⟩ := mem_ready.1 hr
  have hj : j < all.length := by simpa using (Array.getElem?_eq_some_iff.1 ho).1
  refine (h.mem j).2 ⟨hj, ?_⟩
  have : j < listed.size := by rw [h.size]; exact hj
  simp [this] at h1 ⊢; exact h1

/-- The least one that is left may come up. -/
theorem ready_least {all : List Oper} (hback : backB all = true) {listed : Array Bool} {U : List Nat} (h : Left all listed U) {j : Nat} (hj : j ∈ U) (hl : ∀ i, i < j → i ∉ U) : j ∈ Region.ready .any all.toArray listed := by
  obtain ⟨hjl, hjf⟩ := (h.mem j).1 hj
  have hjs : j < listed.size := by rw [h.size]; exact hjl
  refine mem_ready.2 ⟨by simp [hjs] at hjf ⊢; exact hjf, all[j], by simp [hjl], fun e he hb => ?_⟩
  have h1 := zipIdx_all hback (show all[j]? = some all[j] by simp [hjl])
  have h2 := Array.all_eq_true'.1 h1 e he
  have h3 : e.on < j := by simpa [hb] using h2
  have h4 := hl e.on h3
  cases hlst : listed.getD e.on false with
  | true => rfl
  | false => exact absurd ((h.mem e.on).2 ⟨by omega, hlst⟩) h4

theorem exists_least : ∀ (U : List Nat), U ≠ [] → ∃ j ∈ U, ∀ i, i < j → i ∉ U
  | [], h => (h rfl).elim
  | [a], _ => ⟨a, by simp, fun i hi hm => by simp at hm; omega⟩
  | a :: b :: U, _ => by
    obtain ⟨j, hj, hl⟩ := exists_least (b :: U) (by simp)
    by_cases haj : a < j
    · refine ⟨a, by simp, fun i hi hm => ?_⟩
      rcases List.mem_cons.1 hm with rfl | hm
      · omega
      · exact hl i (by omega) hm
    · refine ⟨j, List.mem_cons_of_mem _ hj, fun i hi hm => ?_⟩
      rcases List.mem_cons.1 hm with rfl | hm
      · omega
      · exact hl i hi hm

/-- The tail: one after the other. -/
theorem tail_ok (hT : TabOK P C) {all : List Oper} {Q : Exit → Act → World → Prop} {K : Env → Heap → Nat → Prop} (hK : ∀ e h n a w, K e h n → Sat x e h n a w → Q .normal a w) (hback : backB all = true) (hdst : dstOK x.k all = true)
    {hd : Nat} (hchain : Region.chainB .any all.toArray hd = true) :
    ∀ (l : List Oper) (i : Nat) (e : Env) (h : Heap) (n : Nat) (listed : Array Bool) (U : List Nat) (a : Act) (w : World) (fuel : Nat), all.drop i = l → hd ≤ i → Left all listed U → (∀ j, j ∈ U ↔ i ≤ j ∧ j < all.length) → U.length ≤ fuel →
      opsA P C hint all l e h n K → Sat x e h n a w → wpAny P .any all.toArray Q fuel listed a w
  | [], i, e, h, n, listed, U, a, w, fuel, hl, hi, hL, hU, hf, hop, hs => by
    have hil : all.length ≤ i := by
      rcases Nat.lt_or_ge i all.length with h | h
      · have := congrArg List.length hl; simp at this; omega
      · exact h
    have hE : Region.ready .any all.toArray listed = [] := by
      apply List.eq_nil_iff_forall_not_mem.2
      intro j hj
      have := (hU j).1 (ready_mem hL hj)
      omega
    cases fuel with
    | zero => exact ⟨hE, hK e h n a w hop hs⟩
    | succ fuel => exact ⟨fun _ => hK e h n a w hop hs, fun j hj => by rw [hE] at hj; cases hj⟩
  | o :: rest, i, e, h, n, listed, U, a, w, fuel, hl, hi, hL, hU, hf, hop, hs => by
    have hil : i < all.length := by
      rcases Nat.lt_or_ge i all.length with h | h
      · exact h
      · rw [List.drop_of_length_le h] at hl; cases hl
    have ho : all[i]? = some o := by
      have := congrArg (·[0]?) hl
      simpa using this
    have hrest : all.drop (i + 1) = rest := by
      rw [← List.drop_drop, hl]; rfl
    have hiU : i ∈ U := (hU i).2 ⟨Nat.le_refl _, hil⟩
    have hir : i ∈ Region.ready .any all.toArray listed := ready_least hback hL hiU (fun j hj hm => by have := (hU j).1 hm; omega)
    have honly : ∀ j, j ∈ Region.ready .any all.toArray listed → j = i := by
      intro j hj
      have hju := (hU j).1 (ready_mem hL hj)
      by_cases hji : j = i
      · exact hji
      · exfalso
        have h1 := List.all_eq_true.1 hchain j (List.mem_range.2 (by simpa using hju.2))
        simp only [Bool.or_eq_true, decide_eq_true_eq] at h1
        rcases h1 with h1 | h1
        · omega
        · obtain ⟨o', ho', ed, he, hb, hon⟩ := Region.waitsFor_spec h1
          obtain ⟨_, o2, ho2, hall⟩ := mem_ready.1 hj
          rw [ho'] at ho2; cases ho2
          have := hall ed he hb
          rw [hon] at this
          have hm : j - 1 ∈ U := (hU (j - 1)).2 ⟨by omega, by omega⟩
          have := ((hL.mem (j - 1)).1 hm).2
          simp_all
    have hd1 : ∀ t, o.dst = some t → t < x.k := dstOK_mem hdst (List.mem_of_getElem? ho)
    obtain ⟨hL', hlen⟩ := hL.step hiU
    cases fuel with
    | zero => have := List.length_pos_of_mem hiU; omega
    | succ fuel =>
      refine ⟨fun h0 => (by rw [h0] at hir; cases hir), fun j hj => ?_⟩
      obtain rfl := honly j hj
      have go : ∀ e' h' n' a' w', opsA P C hint all rest e' h' n' K → Sat x e' h' n' a' w' → wpAny P .any all.toArray Q fuel (listed.setIfInBounds j true) a' w' := fun e' h' n' a' w' hop' hs' =>
        tail_ok hT hK hback hdst hchain rest (j + 1) e' h' n' _ _ a' w' fuel hrest (by omega) hL' (fun q => by
          rw [hL.nodup.mem_erase_iff, hU q]; omega) (by omega) hop' hs'
      unfold wpOp
      simp only [List.getElem?_toArray, ho]
      unfold opsA at hop
      obtain ⟨e', hs', h1 | h1⟩ := guard_ok hop hs
      · obtain ⟨hw, hy⟩ := h1
        rw [if_pos hw]
        left
        split at hy
        · rename_i c p q hpk
          have hcase : ∀ r : Operand, (∃ b : Bool, a.eval c = .bool b ∧ (if b then p else q) = r) → opsA P C hint all rest (dset e' o.dst (opnd e' r)) h n K → o.wp P a w (wpAny P .any all.toArray Q fuel (listed.setIfInBounds j true)) Q := by
            rintro r ⟨b, hb, hr⟩ hK2
            unfold Oper.wp
            have : (execOp a.eval o).run P w = .ok (.value (a.eval r)) w := by
              subst hr
              cases b <;> simp [execOp, hpk, hb, asBool]
            rw [this]
            exact go _ _ _ _ _ hK2 (hs'.put hd1 (fun S ρ hE => hE.opnd r))
          have hv := hs'
          obtain ⟨S, ρ, _, _, _, hE, _⟩ := hv
          have hvc := hE.opnd c
          unfold pickS at hy
          split at hy
          · rename_i b hb
            rw [hb] at hvc
            cases b with
            | true => exact hcase p ⟨true, hvc.bool_inv, rfl⟩ (hy.1 rfl)
            | false => exact hcase q ⟨false, hvc.bool_inv, rfl⟩ (hy.2 rfl)
          · rename_i hb; rw [hb] at hvc; exact hcase p ⟨true, hvc.tt_inv, rfl⟩ hy
          · rename_i hb; rw [hb] at hvc; exact hcase q ⟨false, hvc.ff_inv, rfl⟩ hy
          · exact hy.elim
        · rename_i t p v hst
          exact store_ok hst hs' hy.1 hd1 (fun a' w' hs2 => go _ _ _ _ _ hy.2 hs2)
        · rename_i s y ts tx hap
          unfold appS at hy
          split at hy
          · exact append_ok hap hs' hy.1 hd1 (fun a' w' hs2 => go _ _ _ _ _ hy.2 hs2)
          · exact opH_ok hT hy.1 hs' hd1 (fun a' w' hs2 => go _ _ _ _ _ hy.2 hs2)
        · exact opH_ok hT hy.1 hs' hd1 (fun a' w' hs2 => go _ _ _ _ _ hy.2 hs2)
      · obtain ⟨hw, hy⟩ := h1
        rw [if_neg (by rw [hw]; simp)]
        exact go _ _ _ _ _ hy (hs'.put hd1 (fun S ρ _ => .pure _ _ .skipd))

/-- A region that draws its order. -/
theorem draw_ok (hT : TabOK P C) (hm : P.follows .mixedOrders = true) {all : List Oper} {hd : Nat} (hchk : drawOK all hd = true) (hdst : dstOK x.k all = true) {id : Nat} {e : Env} {h : Heap} {n : Nat} {a : Act} {w : World}
    {Q : Exit → Act → World → Prop} {K : Env → Heap → Nat → Prop} (hK : ∀ e h n a w, K e h n → Sat x e h n a w → Q .normal a w) (hop : opsA P C hint all all e h n K) (hs : Sat x e h n a w) :
    (Code.region id all.toArray true).wp P Q a w := by
  refine wp_region_any hm ?_
  simp only [drawOK, Bool.and_eq_true, Bool.or_eq_true, decide_eq_true_eq] at hchk
  obtain ⟨⟨⟨⟨hback, hssa⟩, hgd⟩, htail⟩, hM⟩ := hchk
  have hs' : Sat x e h n a { w with drawn := w.drawn + 1 } := by
    obtain ⟨S, ρ, s1, s2, s3, s4, s5, s6⟩ := hs
    exact ⟨S, ρ, s1, s2, s3.drew _, s4, s5.drew _, s6⟩
  have hk0 : ∀ r, h.look r ≠ none → r < n := by obtain ⟨S, ρ, s1, s2, s3, s4, s5, s6, s7, s8⟩ := hs; exact s8
  have hhd : hd ≤ all.length := by rcases htail with h | h <;> omega
  have hsplit : all = all.take hd ++ all.drop hd := (List.take_append_drop _ _).symm
  have hop2 : opsA P C hint all (all.take hd ++ all.drop hd) e h n K := by rw [← hsplit]; exact hop
  obtain ⟨tr, e', h', n', ht, hkt⟩ := extract (own := x.own) hT (all.take hd) e h n (fun o ho => by have := List.all_eq_true.1 hM o ho; simpa using this) hk0 hop2
  have F := Trace.facts (f := e.get) _ _ _ _ _ _ _ _ (fun t => Ent.refl _) hk0 ht
  have hll : (all.take hd).length = hd := by simp; omega
  have hall : ∀ (i : Nat) o, (all.take hd)[i]? = some o → all[i]? = some o := fun i o ho => by
    rw [List.getElem?_take] at ho; split at ho
    · exact ho
    · cases ho
  have hdst' : dstOK x.k (all.take hd) = true := List.all_eq_true.2 (fun o ho => List.all_eq_true.1 hdst o (List.mem_of_mem_take ho))
  -- what the head leaves
  have ends : ∀ {listed : Array Bool} {a : Act} {w : World} {S : Store} {ρ : Rho} {H : HF}, (∀ i, i < hd → listed.getD i false = true) → Good x (all.take hd) tr e h h' listed a w S ρ H → Sat x e' h' n' a w := by
    intro listed a w S ρ H hl hg
    have eH : H = h'.look := by
      funext r
      cases hr : h'.look r with
      | none =>
        cases hH : H r with
        | none => rfl
        | some k => have := hg.sub r k hH; rw [hr] at this; cases this
      | some k =>
        rcases F.whence r k hr with h1 | ⟨i, s, h1, h2⟩
        · exact hg.old r k h1
        · have hi : i < hd := by
            have := (List.getElem?_eq_some_iff.1 h1).1
            rw [F.len, hll] at this; exact this
          exact hg.new i s r k h1 (hl i hi) h2
    refine ⟨S, ρ, hg.s1, hg.s2, by rw [← eH]; exact hg.rel, fun t => ?_, hg.kept, hg.size, hg.defers, F.keys⟩
    rw [← eH]
    refine F.fin t _ _ _ _ ?_
    by_cases hex : ∃ (i : Nat) (p : Oper), (all.take hd)[i]? = some p ∧ p.dst = some t
    · obtain ⟨i, p, hp, hpd⟩ := hex
      have hi := (List.getElem?_eq_some_iff.1 hp).1
      have hit : i < tr.length := by rw [F.len]; exact hi
      have hst : tr[i]? = some tr[i] := by simp [hit]
      rw [cur_some _ tr e.get _ i t p tr[i] hi hp hst hpd (fun q o' hq hne ho' hdo => by
        have h1 := zipIdx_all (zipIdx_all hssa ho') hp
        simp only [hpd, Bool.and_eq_true, Bool.or_eq_true, beq_iff_eq, bne_iff_ne, ne_eq] at h1
        rcases h1.1.1 with h2 | h2
        · exact hne h2.symm
        · exact h2 hdo)]
      exact hg.done i p _ t hp hst (hl i (by omega)) hpd
    · rw [cur_none _ tr e.get _ t (fun i p _ hp hpd => hex ⟨i, p, hp, hpd⟩)]
      exact hg.rest t (fun i p hp hpd => hex ⟨i, p, hp, hpd⟩)
  -- whatever order
  have main : ∀ (fuel : Nat) (U : List Nat) (listed : Array Bool) (a : Act) (w : World) (S : Store) (ρ : Rho) (H : HF), Left all listed U → (∀ i, hd ≤ i → i < all.length → i ∈ U) → U.length ≤ fuel →
      (∀ j oj, all.toArray[j]? = some oj → listed.getD j false = true → ∀ ed ∈ oj.after, Region.binds .any ed = true → listed.getD ed.on false = true) →
      Good x (all.take hd) tr e h h' listed a w S ρ H → wpAny P .any all.toArray Q fuel listed a w := by
    intro fuel
    induction fuel with
    | zero =>
      intro U listed a w S ρ H hL hUt hf hcl hg
      have hU0 : U = [] := List.length_eq_zero_iff.1 (by omega)
      subst hU0
      have hlist : ∀ i, i < hd → listed.getD i false = true := fun i hi => by
        cases hli : listed.getD i false with
        | true => rfl
        | false => exact absurd ((hL.mem i).2 ⟨by omega, hli⟩) (by simp)
      have hdall : hd = all.length := by
        rcases Nat.lt_or_ge hd all.length with h | h
        · exact absurd (hUt hd (Nat.le_refl _) h) (by simp)
        · omega
      have hE : Region.ready .any all.toArray listed = [] := List.eq_nil_iff_forall_not_mem.2 (fun j hj => absurd (ready_mem hL hj) (by simp))
      refine ⟨hE, ?_⟩
      have : all.drop hd = [] := List.drop_of_length_le (by omega)
      rw [this] at hkt
      exact hK _ _ _ _ _ hkt (ends hlist hg)
    | succ fuel ih =>
      intro U listed a w S ρ H hL hUt hf hcl hg
      by_cases hrem : ∃ i ∈ U, i < hd
      · -- some head operation is left
        have hne : U ≠ [] := by obtain ⟨i, hi, _⟩ := hrem; intro e; subst e; cases hi
        obtain ⟨m, hm1, hm2⟩ := exists_least U hne
        have hmr := ready_least hback hL hm1 hm2
        refine ⟨fun h0 => (by rw [h0] at hmr; cases hmr), fun j hj => ?_⟩
        have hjU := ready_mem hL hj
        have hjhd : j < hd := by
          rcases Nat.lt_or_ge j hd with h | h
          · exact h
          · exfalso
            rcases htail with h1 | ⟨⟨h1, h2⟩, h3⟩
            · have := ((hL.mem j).1 hjU).1; omega
            · obtain ⟨i, hi1, hi2⟩ := hrem
              have hi3 := (hL.mem i).1 hi1
              have his : i < listed.size := by rw [hL.size]; omega
              refine tail_waits (md := .any) (ops := all.toArray) h2 h3 (by simpa using h1) ⟨by rw [hL.size]; simp, hcl, fun t ht ht' => ?_⟩ _ i rfl hi2 (getD_in his hi3.2) j h hj
              have ht2 : t < all.length := by simpa using ht'
              exact getD_in (by rw [hL.size]; exact ht2) ((hL.mem t).1 (hUt t ht ht2)).2
        obtain ⟨hL', hlen⟩ := hL.step hjU
        have hjs : j < listed.size := by rw [hL.size]; omega
        refine good_step F hall hback hssa hgd hdst' hL.size hg hj (by rw [hll]; exact hjhd) (fun a' w' S' ρ' H' hg' => ?_)
        refine ih _ _ a' w' S' ρ' H' hL' (fun i hi1 hi2 => ?_) (by omega) (fun q oq hoq hlq ed hed hb => ?_) hg'
        · rw [hL.nodup.mem_erase_iff]; exact ⟨by omega, hUt i hi1 hi2⟩
        · rw [getD_set _ _ _ _ hjs] at hlq ⊢
          split
          · rfl
          · split at hlq
            · rename_i e1; subst e1
              obtain ⟨_, o2, ho2, hall2⟩ := mem_ready.1 hj
              rw [hoq] at ho2; cases ho2
              exact hall2 ed hed hb
            · exact hcl q oq hoq hlq ed hed hb
      · -- the head is done
        have hlist : ∀ i, i < hd → listed.getD i false = true := fun i hi => by
          cases hli : listed.getD i false with
          | true => rfl
          | false => exact absurd ⟨i, (hL.mem i).2 ⟨by omega, hli⟩, hi⟩ hrem
        have hsat := ends hlist hg
        have hUiff : ∀ j, j ∈ U ↔ hd ≤ j ∧ j < all.length := fun j => ⟨fun hj => ⟨by
          rcases Nat.lt_or_ge j hd with h | h
          · exact absurd ⟨j, hj, h⟩ hrem
          · exact h, ((hL.mem j).1 hj).1⟩, fun ⟨h1, h2⟩ => hUt j h1 h2⟩
        have hchain : Region.chainB .any all.toArray hd = true := by
          rcases htail with h1 | ⟨_, h3⟩
          · refine List.all_eq_true.2 (fun t ht => ?_)
            have := List.mem_range.1 ht
            simp at this
            simp; left; omega
          · exact h3
        exact tail_ok hT hK hback hdst hchain (all.drop hd) hd e' h' n' listed U a w (fuel + 1) rfl (Nat.le_refl _) hL hUiff hf hkt hsat
  obtain ⟨S, ρ, s1, s2, s3, s4, s5, s6, s7, s8⟩ := hs'
  refine main all.toArray.size (List.range all.length) _ a _ S ρ h.look ⟨by simp, fun j => ?_, List.nodup_range⟩ (fun i _ hi => List.mem_range.2 hi) (by simp) (fun j oj _ hl => ?_) ?_
  · simp only [List.mem_range]
    constructor
    · intro hj; exact ⟨hj, getD_replicate_false _ _⟩
    · exact fun h => h.1
  · rw [getD_replicate_false] at hl; cases hl
  · refine ⟨s1, s2, s3, fun r k hr => F.old r k hr, fun _ _ h => h, fun i s r k hs hl => (by rw [getD_replicate_false] at hl; cases hl), fun i s r hs _ hr => ?_, fun i o s d ho hs hl => (by rw [getD_replicate_false] at hl; cases hl), fun t _ => s4 t, s5, s6, s7⟩
    cases hh : h.look r with
    | none => rfl
    | some k =>
      obtain ⟨k', hk'⟩ := Option.ne_none_iff_exists'.1 hr
      have h1 := (F.new i s r k' hs hk').2
      have h2 := hk0 r (by rw [hh]; simp)
      omega
end
end Go.Vc
namespace Go.Vc
open Go.RowKit

/-! ### Weakening -/
mutual
/-- The one value may be taken for the other. -/
def Co : AV → AV → Prop
  | .agg cs, .agg ds => CoL cs ds
  | .tup cs, .tup ds => CoL cs ds
  | .nils, .ints xs => xs = []
  | .nils, .rows xs => xs = []
  | .nils, .strs xs => xs = []
  | .nils, .pairs xs => xs = []
  | .tt, .bool b => b = true
  | .ff, .bool b => b = false
  | u, v => u = v
def CoL : List AV → List AV → Prop
  | [], [] => True
  | a :: l, b :: m => Co a b ∧ CoL l m
  | _, _ => False
end

theorem sees_nil {S : Store} {v : AV} {m : Nat} (he : v.elems = some ([], m)) (a : Option Addr) : Sees S v (.slice a 0 0) :=
  .lst v [] m a 0 he (Nat.le_refl _) 0 0 #[] (fun _ _ => Go.undef) (fun h => (h rfl).elim) (fun x hx => by cases hx) (fun i x j y hx => by simp at hx) (fun i x j y hx => by simp at hx)

theorem Co.ent : ∀ (u v : AV), Co u v → Ent u v := by
  intro u
  refine AV.rec (motive_1 := fun u => ∀ v, Co u v → Ent u v) (motive_2 := fun l => ∀ m, CoL l m → l.length = m.length ∧ ∀ (j : Nat) a b, l[j]? = some a → m[j]? = some b → Ent a b) ?_ ?_ ?_ ?_ ?_ ?_ ?_ ?_ ?_ ?_ ?_ ?_ ?_ ?_ ?_ ?_ ?_ ?_ ?_ ?_ ?_ ?_ ?_ ?_ ?_ ?_ ?_ ?_ ?_ u
  case refine_10 =>
    intro cs ih v h
    cases v <;> first | (rename_i ds; have hh : CoL cs ds := h; obtain ⟨hl, hp⟩ := ih ds hh; intro S ρ H cv hv; obtain ⟨vs, rfl, hs, hc⟩ := hv.agg_inv; refine .agg _ _ (by rw [hs, hl]) (fun j y u hy hu => ?_); have hj : j < cs.length := (by rw [hl]; exact (List.getElem?_eq_some_iff.1 hy).1); exact hp j cs[j] y (by simp [hj]) hy _ _ _ _ (hc j cs[j] u (by simp [hj]) hu)) | (simp [Co] at h)
  case refine_11 =>
    intro cs ih v h
    cases v <;> first | (rename_i ds; have hh : CoL cs ds := h; obtain ⟨hl, hp⟩ := ih ds hh; intro S ρ H cv hv; obtain ⟨vs, rfl, hs, hc⟩ := hv.tup_inv; refine .tup _ _ (by rw [hs, hl]) (fun j y u hy hu => ?_); have hj : j < cs.length := (by rw [hl]; exact (List.getElem?_eq_some_iff.1 hy).1); exact hp j cs[j] y (by simp [hj]) hy _ _ _ _ (hc j cs[j] u (by simp [hj]) hu)) | (simp [Co] at h)
  case refine_14 =>
    intro v h
    cases v <;> simp [Co] at h <;> first | (subst h; intro S ρ H cv hv; obtain ⟨a, rfl⟩ := hv.nils_inv; exact .pure _ _ (sees_nil rfl a)) | exact .refl _
  case refine_19 =>
    intro v h
    cases v <;> simp [Co] at h <;> first | (subst h; intro S ρ H cv hv; rw [hv.tt_inv]; exact v_bool _) | exact .refl _
  case refine_20 =>
    intro v h
    cases v <;> simp [Co] at h <;> first | (subst h; intro S ρ H cv hv; rw [hv.ff_inv]; exact v_bool _) | exact .refl _
  case refine_28 =>
    intro m h
    cases m with
    | nil => exact ⟨rfl, fun j a b h => by simp at h⟩
    | cons => simp [CoL] at h
  case refine_29 =>
    intro a l iha ihl m h
    cases m with
    | nil => simp [CoL] at h
    | cons b m =>
      obtain ⟨h1, h2⟩ : Co a b ∧ CoL l m := by simpa [CoL] using h
      obtain ⟨hl, hp⟩ := ihl m h2
      refine ⟨by simp [hl], fun j x y hx hy => ?_⟩
      cases j with
      | zero => simp at hx hy; subst hx; subst hy; exact iha _ h1
      | succ j => simp at hx hy; exact hp j x y hx hy
  all_goals
    intros
    rename_i h
    have e := h
    simp only [Co] at e
    first | (subst e; exact .refl _) | (rw [← e]; exact .refl _)

theorem CoL.spec {l m : List AV} (h : CoL l m) : l.length = m.length ∧ ∀ (j : Nat) a b, l[j]? = some a → m[j]? = some b → Ent a b := by
  induction l generalizing m with
  | nil =>
    cases m with
    | nil => exact ⟨rfl, fun j a b h => by simp at h⟩
    | cons => simp [CoL] at h
  | cons a l ih =>
    cases m with
    | nil => simp [CoL] at h
    | cons b m =>
      obtain ⟨h1, h2⟩ : Co a b ∧ CoL l m := by simpa [CoL] using h
      obtain ⟨hl, hp⟩ := ih h2
      refine ⟨by simp [hl], fun j x y hx hy => ?_⟩
      cases j with
      | zero => simp at hx hy; subst hx; subst hy; exact Co.ent _ _ h1
      | succ j => simp at hx hy; exact hp j x y hx hy

def CoB : Blk → Blk → Prop
  | .box cs, .box ds => CoL cs ds
  | .arr v, .arr u => v = u
  | .mat a, .mat b => a = b
  | _, _ => False
def CoO (k : Option Blk) (φ : AV → AV) (k' : Blk) : Prop :=
  match k with
  | some k => CoB (k.tr φ) k'
  | none => False
def keeps (h' : Heap) (r : Nat) : Bool := (h'.look r).isSome
def WEnv (φ : AV → AV) (e : Env) : Env → Prop
  | [] => True
  | (t, v') :: e' => Co ((e.get t).tr φ) v' ∧ WEnv φ e e'
def WHeap (φ : AV → AV) (h : Heap) (n' : Nat) : Heap → Prop
  | [] => True
  | (r, k') :: h' => (CoO (h.look r) φ k' ∧ r < n') ∧ WHeap φ h n' h'
/-- The one state may be taken for the other. -/
def Weak (e : Env) (h : Heap) (e' : Env) (h' : Heap) (n' : Nat) : Prop := WEnv (frzA (keeps h') h.look) e e' ∧ WHeap (frzA (keeps h') h.look) h n' h'
def WeakTo (J : Env → Heap → Nat → Prop) (e : Env) (h : Heap) (_n : Nat) : Prop := ∃ e' h' n', Weak e h e' h' n' ∧ J e' h' n'
end Go.Vc
namespace Go.Vc
open Go.RowKit

/-- Of a block less may be known. -/
inductive BW : Blk → Blk → Prop
  | box (cs ds : List AV) (hl : cs.length = ds.length) (h : ∀ (j : Nat) a b, cs[j]? = some a → ds[j]? = some b → Ent a b) : BW (.box cs) (.box ds)
  | same (k : Blk) : BW k k

section
variable {S : Store} {ρ : Rho} {H H2 : HF} {w : World} {own : Nat → Prop}

theorem V.weak (h1 : ∀ r k, H r = some k → ∃ k2, H2 r = some k2 ∧ BW k k2) {v : AV} {cv : Value} (h : V S ρ H v cv) : V S ρ H2 v cv := by
  refine h.keep (fun _ _ h => h) (fun a cv hra hv => ?_)
  cases hv with
  | pure _ _ h => exact .pure _ _ h
  | agg => cases hra
  | tup => cases hra
  | fn => cases hra
  | sl q v xs m a hr he ha => obtain ⟨k2, hk, hb⟩ := h1 _ _ hr; cases hb with | same => exact .sl q v xs m a hk he ha
  | mt q xss a hr ha => obtain ⟨k2, hk, hb⟩ := h1 _ _ hr; cases hb with | same => exact .mt q xss a hk ha
  | mr q i xss row cv hr h0 hi h => obtain ⟨k2, hk, hb⟩ := h1 _ _ hr; cases hb with | same => exact .mr q i xss row cv hk h0 hi h
  | bx q off cs hr ho =>
    obtain ⟨k2, hk, hb⟩ := h1 _ _ hr
    cases hb with
    | same => exact .bx q off cs hk ho
    | box _ ds hl hh => exact .bx q off ds hk (by rw [← hl]; exact ho)
  | pa q i v xs m hr he h0 hi => obtain ⟨k2, hk, hb⟩ := h1 _ _ hr; cases hb with | same => exact .pa q i v xs m hk he h0 hi
  | pm q i j xss row hr h0 hi hj0 hj => obtain ⟨k2, hk, hb⟩ := h1 _ _ hr; cases hb with | same => exact .pm q i j xss row hk h0 hi hj0 hj
  | po q i xss hr h0 hi => obtain ⟨k2, hk, hb⟩ := h1 _ _ hr; cases hb with | same => exact .po q i xss hk h0 hi

theorem Rel.weak (hrel : Rel own S ρ H w) (h1 : ∀ r k, H r = some k → ∃ k2, H2 r = some k2 ∧ BW k k2) (h2 : ∀ r k2, H2 r = some k2 → ∃ k, H r = some k ∧ BW k k2) : Rel own S ρ H2 w := by
  have ft : ∀ r j, foot ρ H2 r j → foot ρ H r j := fun r j hf => by
    unfold foot at hf ⊢
    cases hr : H2 r with
    | none => rw [hr] at hf; exact hf.elim
    | some k2 =>
      obtain ⟨k, hk, hb⟩ := h2 r k2 hr
      rw [hr] at hf; rw [hk]
      cases hb with
      | same => exact hf
      | box => exact hf
  refine ⟨hrel.stab, fun r k2 hr => ?_, fun r j hf => hrel.owned r j (ft r j hf), fun r j r' j' hf hf' e => hrel.sep _ _ _ _ (ft r j hf) (ft r' j' hf') e⟩
  obtain ⟨k, hk, hb⟩ := h2 r k2 hr
  have hbl := hrel.blk r k hk
  cases hb with
  | box cs ds hl hh =>
    obtain ⟨c, g1, g2, g3⟩ := hbl
    refine ⟨c, g1, by rw [g2, hl], fun j y v hy hv => ?_⟩
    have hj : j < cs.length := by rw [hl]; exact (List.getElem?_eq_some_iff.1 hy).1
    exact hh j cs[j] y (by simp [hj]) hy _ _ _ _ ((g3 j cs[j] v (by simp [hj]) hv).weak h1)
  | same =>
    cases k2 with
    | box cs => obtain ⟨c, g1, g2, g3⟩ := hbl; exact ⟨c, g1, g2, fun j y v hy hv => (g3 j y v hy hv).weak h1⟩
    | arr v => exact hbl
    | mat xss => exact hbl
end

theorem WHeap.spec {φ : AV → AV} {h : Heap} {n' : Nat} : ∀ {h' : Heap}, WHeap φ h n' h' → ∀ r k', h'.look r = some k' → (∃ k, h.look r = some k ∧ CoB (k.tr φ) k') ∧ r < n'
  | [], _, r, k', hk => by cases hk
  | (q, k) :: h', hw, r, k', hk => by
    obtain ⟨⟨h1, h2⟩, h3⟩ := hw
    simp only [Heap.look] at hk
    split at hk
    · rename_i e; subst e; cases hk
      refine ⟨?_, h2⟩
      unfold CoO at h1
      split at h1
      · rename_i k0 hk0; exact ⟨k0, hk0, h1⟩
      · exact h1.elim
    · exact WHeap.spec h3 r k' hk

theorem CoB.bw {k k' : Blk} (h : CoB k k') : BW k k' := by
  cases k <;> cases k' <;> simp only [CoB] at h <;> first | exact h.elim | skip
  · obtain ⟨h1, h2⟩ := h.spec; exact .box _ _ h1 h2
  · subst h; exact .same _
  · subst h; exact .same _

theorem WEnv.spec {S : Store} {ρ : Rho} {H : HF} {φ : AV → AV} {e : Env} (tmps : Nat → Value) (hE : ∀ t, V S ρ H ((e.get t).tr φ) (tmps t)) : ∀ {e' : Env}, WEnv φ e e' → ∀ t, V S ρ H (e'.get t) (tmps t)
  | [], _, t => .pure _ _ (.undef _)
  | (q, v') :: e', hw, t => by
    obtain ⟨h1, h2⟩ := hw
    simp only [Env.get]
    split
    · rename_i ht; subst ht; exact Co.ent _ _ h1 _ _ _ _ (hE q)
    · exact WEnv.spec tmps hE h2 t

/-- One state for another. -/
theorem Sat.weak {x : Cx} {e : Env} {h : Heap} {n : Nat} {a : Act} {w : World} (hs : Sat x e h n a w) {e' : Env} {h' : Heap} {n' : Nat} (hw : Weak e h e' h' n') : Sat x e' h' n' a w := by
  obtain ⟨S, ρ, s1, s2, s3, s4, s5, s6, s7, s8⟩ := hs
  obtain ⟨S', f1, f2, f3, f4⟩ := freeze s3 (keeps h')
  have hh := WHeap.spec hw.2
  have b1 : ∀ r k, frzH (keeps h') h.look r = some k → ∃ k2, h'.look r = some k2 ∧ BW k k2 := fun r k hr => by
    obtain ⟨hk, k0, hk0, rfl⟩ := frzH_some hr
    obtain ⟨k2, hk2⟩ := Option.isSome_iff_exists.1 hk
    obtain ⟨⟨k1, hk1, hc⟩, _⟩ := hh r k2 hk2
    rw [hk0] at hk1; cases hk1
    exact ⟨k2, hk2, hc.bw⟩
  have b2 : ∀ r k2, h'.look r = some k2 → ∃ k, frzH (keeps h') h.look r = some k ∧ BW k k2 := fun r k2 hr => by
    obtain ⟨⟨k1, hk1, hc⟩, _⟩ := hh r k2 hr
    exact ⟨_, by rw [frzH_keep (by simp [keeps, hr]), hk1]; rfl, hc.bw⟩
  refine ⟨S', ρ, fun b c hb => f1 b c (s1 b c hb), fun b h1 h2 => ?_, f3.weak b1 b2, fun t => ?_, s5, s6, s7, fun r hr => ?_⟩
  · by_cases hS : S b = none
    · exact f2 b hS h2
    · exact s2 b h1 hS
  · exact WEnv.spec (fun t => a.tmps.getD t Go.undef) (fun t => (f4 _ _ (s4 t)).weak b1) hw.1 t
  · obtain ⟨k2, hk2⟩ := Option.ne_none_iff_exists'.1 hr
    exact (hh r k2 hk2).2

/-! ### Code -/
abbrev AQ := Exit → Env → Heap → Nat → Prop
def thenA (K : Env → Heap → Nat → Prop) (Q : AQ) : AQ
  | .normal, e, h, n => K e h n
  | ex, e, h, n => Q ex e h n
def blockA (id : Nat) (Q : AQ) : AQ
  | .exit i, e, h, n => if i = id then Q .normal e h n else Q (.exit i) e h n
  | ex, e, h, n => Q ex e h n
def condA (v : AV) (A B : Prop) : Prop :=
  match v with
  | .bool b => partB b A B
  | .tt => A
  | .ff => B
  | _ => False
def loopA (B : AQ → Env → Heap → Nat → Prop) (Q : AQ) (e : Env) (h : Heap) (n : Nat) : Prop :=
  ∃ (I : Nat → Env → Heap → Nat → Prop) (m0 : Nat), WeakTo (I m0) e h n ∧ ∀ m e h n, I m e h n → B (thenA (WeakTo fun e h n => ∃ m', m' < m ∧ I m' e h n) Q) e h n
/-- The references in some slots. -/
def frzR : List Nat → Env → List Nat
  | [], _ => []
  | d :: l, e => match e.get d with
    | .sl r => r :: frzR l e
    | .mt r => r :: frzR l e
    | _ => frzR l e
def keepR : List Nat → Nat → Bool
  | [], _ => true
  | q :: l, r => bif q == r then false else keepR l r
def frzE (φ : AV → AV) : Env → Env
  | [] => []
  | (t, v) :: e => (t, v.tr φ) :: frzE φ e
def frzP (keep : Nat → Bool) (φ : AV → AV) : Heap → Heap
  | [] => []
  | (q, k) :: h => bif keep q then (q, k.tr φ) :: frzP keep φ h else frzP keep φ h
/-- Ahead of a region some memory may be given up: from there on it is only read. -/
def regA (fz : List Nat) (A : Env → Heap → Prop) (e : Env) (h : Heap) : Prop :=
  match fz with
  | [] => A e h
  | l => A (frzE (frzA (keepR (frzR l e)) h.look) e) (frzP (keepR (frzR l e)) (frzA (keepR (frzR l e)) h.look) h)

theorem frzE_get (φ : AV → AV) (e : Env) (t : Tmp) : (frzE φ e).get t = (e.get t).tr φ := by
  induction e with
  | nil => rfl
  | cons x e ih =>
    obtain ⟨q, v⟩ := x
    simp only [frzE, Env.get]
    split
    · rfl
    · exact ih
theorem frzP_look (keep : Nat → Bool) (φ : AV → AV) (h : Heap) (q : Nat) : (frzP keep φ h).look q = bif keep q then (h.look q).map (Blk.tr φ) else none := by
  induction h with
  | nil => simp [frzP, Heap.look]
  | cons x h ih =>
    obtain ⟨k, v⟩ := x
    simp only [frzP, Heap.look]
    cases hk : keep k with
    | true =>
      simp only [cond_true, Heap.look]
      split
      · rename_i e; subst e; simp [hk]
      · exact ih
    | false =>
      simp only [cond_false]
      split
      · rename_i e; subst e; rw [ih, hk]; rfl
      · exact ih
theorem Sat.frz {x : Cx} {e : Env} {h : Heap} {n : Nat} {a : Act} {w : World} (hs : Sat x e h n a w) (keep : Nat → Bool) : Sat x (frzE (frzA keep h.look) e) (frzP keep (frzA keep h.look) h) n a w := by
  obtain ⟨S, ρ, s1, s2, s3, s4, s5, s6, s7, s8⟩ := hs
  obtain ⟨S', f1, f2, f3, f4⟩ := freeze s3 keep
  have eh : (frzP keep (frzA keep h.look) h).look = frzH keep h.look := by funext q; rw [frzP_look]; rfl
  refine ⟨S', ρ, fun b c hb => f1 b c (s1 b c hb), fun b h1 h2 => ?_, by rw [eh]; exact f3, fun t => by rw [eh, frzE_get]; exact f4 _ _ (s4 t), s5, s6, s7, fun r hr => s8 r (fun e0 => hr (by rw [frzP_look, e0]; cases keep r <;> rfl))⟩
  by_cases hS : S b = none
  · exact f2 b hS h2
  · exact s2 b h1 hS
theorem regA_ok {x : Cx} {fz : List Nat} {A : Env → Heap → Prop} {e : Env} {h : Heap} {n : Nat} {a : Act} {w : World} (hr : regA fz A e h) (hs : Sat x e h n a w) : ∃ e' h', A e' h' ∧ Sat x e' h' n a w := by
  unfold regA at hr
  split at hr
  · exact ⟨e, h, hr, hs⟩
  · exact ⟨_, _, hr, hs.frz _⟩

def codeA (P : Program) (C : Table) (hint : Hint) : Code → AQ → Env → Heap → Nat → Prop
  | .skip, Q, e, h, n => Q .normal e h n
  | .region i ops _, Q, e, h, n => regA (hint.fz i) (fun e h => opsA P C hint ops.toList ops.toList e h n (Q .normal)) e h
  | .seq a b, Q, e, h, n => codeA P C hint a (thenA (codeA P C hint b Q) Q) e h n
  | .cond c a b, Q, e, h, n => condA (opnd e c) (codeA P C hint a Q e h n) (codeA P C hint b Q e h n)
  | .block id b, Q, e, h, n => codeA P C hint b (blockA id Q) e h n
  | .loop b, Q, e, h, n => loopA (codeA P C hint b) Q e h n
  | .exit i, Q, e, h, n => Q (.exit i) e h n
  | .ret, Q, e, h, n => Q .ret e h n
  | _, _, _, _, _ => False

def headLen : List Oper → Nat
  | [] => 0
  | o :: l => bif isM o then 0 else headLen l + 1
/-- What is asked of the text, once for all. -/
def codeOK (k : Nat) : Code → Bool
  | .region _ ops d => dstOK k ops.toList && (!d || drawOK ops.toList (headLen ops.toList))
  | .seq a b => codeOK k a && codeOK k b
  | .cond _ a b => codeOK k a && codeOK k b
  | .block _ b => codeOK k b
  | .loop b => codeOK k b
  | _ => true

section
variable {P : Program} {C : Table} {hint : Hint} {x : Cx}

def liftQ (x : Cx) (Q : AQ) : Exit → Act → World → Prop := fun ex a w => ∃ e h n, Q ex e h n ∧ Sat x e h n a w

theorem code_ok (hT : TabOK P C) (hm : P.follows .mixedOrders = true) : ∀ (c : Code) (Q : AQ) (e : Env) (h : Heap) (n : Nat) (a : Act) (w : World), codeOK x.k c = true → codeA P C hint c Q e h n → Sat x e h n a w →
    c.wp P (liftQ x Q) a w
  | .skip, Q, e, h, n, a, w, _, hc, hs => wp_skip ⟨e, h, n, hc, hs⟩
  | .region id ⟨ops⟩ d, Q, e0, h0, n, a, w, hk, hc0, hs0 => by
    simp only [codeOK, Bool.and_eq_true] at hk
    have hK : ∀ e h n a w, Q .normal e h n → Sat x e h n a w → liftQ x Q .normal a w := fun e h n a w h1 h2 => ⟨e, h, n, h1, h2⟩
    have hc1 : regA (hint.fz id) (fun e h => opsA P C hint ops ops e h n (Q .normal)) e0 h0 := hc0
    obtain ⟨e, h, hc, hs⟩ := regA_ok hc1 hs0
    cases d with
    | true => exact draw_ok hT hm (by simpa using hk.2) hk.1 hK hc hs
    | false =>
      refine wp_region ?_
      have := wpOps_eq_wpList (P := P) (Q := liftQ x Q) (ops := ops.toArray) ops 0 (by simp)
      rw [show (List.range ops.toArray.size) = List.range' 0 ops.length by simp [List.range_eq_range']]
      rw [this]
      exact opsA_seq hT hK ops e h n a w hk.1 hc hs
  | .seq c d, Q, e, h, n, a, w, hk, hc, hs => by
    simp only [codeOK, Bool.and_eq_true] at hk
    refine wp_seq (wp_mono (code_ok hT hm c _ e h n a w hk.1 hc hs) ?_)
    rintro ex a' w' ⟨e', h', n', hq, hs'⟩
    cases ex with
    | normal => exact code_ok hT hm d Q e' h' n' a' w' hk.2 hq hs'
    | exit i => exact ⟨e', h', n', hq, hs'⟩
    | goto l => exact ⟨e', h', n', hq, hs'⟩
    | ret => exact ⟨e', h', n', hq, hs'⟩
    | panic ch => exact ⟨e', h', n', hq, hs'⟩
    | outgrown => exact ⟨e', h', n', hq, hs'⟩
  | .cond c t f, Q, e, h, n, a, w, hk, hc, hs => by
    simp only [codeOK, Bool.and_eq_true] at hk
    have hc : condA (opnd e c) (codeA P C hint t Q e h n) (codeA P C hint f Q e h n) := hc
    have hv : ∃ S ρ, V S ρ h.look (opnd e c) (a.eval c) := by obtain ⟨S, ρ, _, _, _, hE, _⟩ := hs; exact ⟨S, ρ, hE.opnd c⟩
    obtain ⟨S, ρ, hv⟩ := hv
    unfold condA at hc
    split at hc
    · rename_i b hb
      rw [hb] at hv
      exact wp_cond_split hv.bool_inv (fun hb => code_ok hT hm t Q e h n a w hk.1 (hc.1 hb) hs) (fun hb => code_ok hT hm f Q e h n a w hk.2 (hc.2 hb) hs)
    · rename_i hb; rw [hb] at hv; exact wp_cond_true hv.tt_inv (code_ok hT hm t Q e h n a w hk.1 hc hs)
    · rename_i hb; rw [hb] at hv; exact wp_cond_false hv.ff_inv (code_ok hT hm f Q e h n a w hk.2 hc hs)
    · exact hc.elim
  | .block id b, Q, e, h, n, a, w, hk, hc, hs => by
    refine wp_block (wp_mono (code_ok hT hm b _ e h n a w hk hc hs) ?_)
    rintro ex a' w' ⟨e', h', n', hq, hs'⟩
    cases ex with
    | exit i =>
      simp only [blockA] at hq
      simp only [Exit.inBlock]
      split
      · rename_i hi; rw [if_pos hi] at hq; exact ⟨e', h', n', hq, hs'⟩
      · rename_i hi; rw [if_neg hi] at hq; exact ⟨e', h', n', hq, hs'⟩
    | normal => exact ⟨e', h', n', hq, hs'⟩
    | goto l => exact ⟨e', h', n', hq, hs'⟩
    | ret => exact ⟨e', h', n', hq, hs'⟩
    | panic ch => exact ⟨e', h', n', hq, hs'⟩
    | outgrown => exact ⟨e', h', n', hq, hs'⟩
  | .loop b, Q, e, h, n, a, w, hk, hc, hs => by
    obtain ⟨I, m0, ⟨e0, h0, n0, hw, hI⟩, hround⟩ : loopA (codeA P C hint b) Q e h n := hc
    refine wp_loop_ghost (fun m a w => ∃ e h n, I m e h n ∧ Sat x e h n a w) m0 ⟨e0, h0, n0, hI, hs.weak hw⟩ ?_
    rintro m a w ⟨e1, h1, n1, hI1, hs1⟩
    refine wp_mono (code_ok hT hm b _ e1 h1 n1 a w hk (hround m e1 h1 n1 hI1) hs1) ?_
    rintro ex a' w' ⟨e', h', n', hq, hs'⟩
    cases ex with
    | normal =>
      obtain ⟨e2, h2, n2, hw2, m', hm', hI2⟩ := hq
      exact ⟨m', hm', e2, h2, n2, hI2, hs'.weak hw2⟩
    | exit i => exact ⟨e', h', n', hq, hs'⟩
    | goto l => exact ⟨e', h', n', hq, hs'⟩
    | ret => exact ⟨e', h', n', hq, hs'⟩
    | panic ch => exact ⟨e', h', n', hq, hs'⟩
    | outgrown => exact ⟨e', h', n', hq, hs'⟩
  | .exit i, Q, e, h, n, a, w, _, hc, hs => wp_exit ⟨e, h, n, hc, hs⟩
  | .ret, Q, e, h, n, a, w, _, hc, hs => wp_ret ⟨e, h, n, hc, hs⟩
  | .rangeFunc .., _, _, _, _, _, _, _, hc, _ => hc.elim
  | .scope _, _, _, _, _, _, _, _, hc, _ => hc.elim
  | .label _, _, _, _, _, _, _, _, hc, _ => hc.elim
  | .goto _, _, _, _, _, _, _, _, hc, _ => hc.elim
  | .refuse _, _, _, _, _, _, _, _, hc, _ => hc.elim
end
end Go.Vc
namespace Go.Vc
open Go.RowKit

/-! ### A function -/
/-- The arguments in their slots. -/
def envOf : Nat → List AV → Env
  | _, [] => []
  | i, v :: l => (i, v) :: envOf (i + 1) l

/-- The value in a result's place. -/
def resV (P : Program) (e : Env) (h : Heap) : ResultVar → AV
  | .tmp t => e.get t
  | .cell a t => loadV (td P t) (blkOf h (e.get a)) (e.get a)
def resP (P : Program) (e : Env) (h : Heap) : ResultVar → Prop
  | .tmp _ => True
  | .cell a t => loadP (td P t) (blkOf h (e.get a)) (e.get a)
def resL (P : Program) (e : Env) (h : Heap) : List ResultVar → List AV
  | [] => []
  | r :: l => resV P e h r :: resL P e h l
def resPL (P : Program) (e : Env) (h : Heap) : List ResultVar → Prop
  | [] => True
  | r :: l => resP P e h r ∧ resPL P e h l
def tupOf : List AV → AV
  | [v] => v
  | vs => .tup vs

/-- At a function's end: the result may be taken for 'val', the memory for 'new'. -/
def retA (P : Program) (rs : List ResultVar) (val : AV) (new : Heap) (e : Env) (h : Heap) : Prop :=
  resPL P e h rs ∧ Co ((tupOf (resL P e h rs)).tr (frzA (keeps new) h.look)) val ∧ ∃ n', WHeap (frzA (keeps new) h.look) h n' new
def endA (P : Program) (rs : List ResultVar) (val : AV) (new : Heap) : AQ
  | .normal, e, h, _ => retA P rs val new e h
  | .ret, e, h, _ => retA P rs val new e h
  | _, _, _, _ => False
def funA (P : Program) (C : Table) (hint : Hint) (c : Code) (rs : List ResultVar) (args : List AV) (val : AV) (new : Heap) : Prop :=
  codeA P C hint c (endA P rs val new) (envOf 0 args) [] 0

theorem envOf_get (l : List AV) : ∀ (i t : Nat), (envOf i l).get t = if i ≤ t then (match l[t - i]? with | some v => v | none => .undef) else .undef := by
  induction l with
  | nil => intro i t; simp [envOf, Env.get]
  | cons v l ih =>
    intro i t
    simp only [envOf, Env.get]
    by_cases h : i = t
    · subst h; simp
    · rw [if_neg h, ih]
      by_cases h1 : i + 1 ≤ t
      · rw [if_pos h1, if_pos (by omega)]
        have : t - i = (t - (i + 1)) + 1 := by omega
        rw [this]; simp
      · rw [if_neg h1, if_neg (by omega)]

/-- A result, read. -/
def resS (tmps : Array Value) : ResultVar → Sem Value
  | .tmp t => pure (tmps.getD t Go.undef)
  | .cell q t => do loadVar t (← asAddr (tmps.getD q Go.undef))
theorem results_eq (fn : Func) (tmps : Array Value) : results fn tmps = (do let vs ← fn.results.mapM (resS tmps); pure (if h : vs.size = 1 then vs[0] else .tuple vs)) := by
  unfold results
  congr 2

section
variable {P : Program} {C : Table} {hint : Hint}

theorem results_ok {S : Store} {ρ : Rho} {h : Heap} {own : Nat → Prop} {e : Env} {a : Act} {w : World} (hrel : Rel own S ρ h.look w) (hE : EnvRel S ρ h.look e a) : ∀ (rs : List ResultVar), resPL P e h rs →
    ∃ vs : List Value, (rs.mapM (resS a.tmps)).run P w = .ok vs w ∧ vs.length = rs.length ∧
      ∀ (j : Nat) x v, (resL P e h rs)[j]? = some x → vs[j]? = some v → V S ρ h.look x v
  | [], _ => ⟨[], by simp, rfl, fun j x v h => by simp [resL] at h⟩
  | r :: rs, hp => by
    obtain ⟨hp1, hp2⟩ := hp
    obtain ⟨vs, hr, hl, hv⟩ := results_ok hrel hE rs hp2
    have one : ∃ u, (resS a.tmps r).run P w = .ok u w ∧ V S ρ h.look (resV P e h r) u := by
      cases r with
      | tmp t => exact ⟨_, rfl, hE t⟩
      | cell q t =>
        obtain ⟨u, hu, hv⟩ := load_ok (hF := h.look) (fun _ _ h => h) (fun _ _ h => h) hrel hp1 (hE q)
        refine ⟨u, ?_, hv⟩
        have hptr : ∃ b o, a.tmps.getD q Go.undef = .pointer (some ⟨b, o, none⟩) := by
          have hvq := hE q
          have hp1 : loadP (td P t) (blkOf h (e.get q)) (e.get q) := hp1
          unfold loadP at hp1
          split at hp1
          · rename_i c cs hc; rw [hc] at hvq; obtain ⟨b, o, _, h1, _⟩ := hvq.iptr_inv; exact ⟨b, o, h1⟩
          · rename_i m cs hc; rw [hc] at hvq; obtain ⟨b, o, _, h1, _⟩ := hvq.iptr_inv; exact ⟨b, o, h1⟩
          · rename_i r0 off cs hc _; rw [hc] at hvq; obtain ⟨_, h1, _⟩ := hvq.bx_inv; exact ⟨_, _, h1⟩
          · rename_i m r0 off cs hc _; rw [hc] at hvq; obtain ⟨_, h1, _⟩ := hvq.bx_inv; exact ⟨_, _, h1⟩
          · rename_i r0 i v hc _; rw [hc] at hvq; obtain ⟨_, _, _, h1, _⟩ := hvq.pa_inv; exact ⟨_, _, h1⟩
          · rename_i m r0 i v hc _; rw [hc] at hvq; obtain ⟨_, _, _, h1, _⟩ := hvq.pa_inv; exact ⟨_, _, h1⟩
          · rename_i r0 i j xss hc _; rw [hc] at hvq; obtain ⟨_, _, h1, _⟩ := hvq.pm_inv; exact ⟨_, _, h1⟩
          · rename_i r0 i xss hc _; rw [hc] at hvq; obtain ⟨_, h1, _⟩ := hvq.po_inv; exact ⟨_, _, h1⟩
          · exact hp1.elim
        obtain ⟨b, o, hbo⟩ := hptr
        rw [hbo] at hu
        show (do loadVar t (← asAddr (a.tmps.getD q Go.undef)) : Sem Value).run P w = _
        rw [hbo]
        simpa [Instr.loadAt, Instr.sureAddr, asAddr] using hu
    obtain ⟨u, hu, hvu⟩ := one
    refine ⟨u :: vs, ?_, by simp [hl], fun j x v hx hv' => ?_⟩
    · rw [List.mapM_cons]
      simp only [Sem.run_bind, hu, Result.andThen_ok, hr, Sem.run_pure]
    · cases j with
      | zero => simp [resL] at hx hv'; subst hx; subst hv'; exact hvu
      | succ j => simp [resL] at hx hv'; exact hv j x v hx hv'

/-- **A function keeps its contract**, if its body's abstract run says so. -/
theorem fun_ok (hT : TabOK P C) (hm : P.follows .mixedOrders = true) {f : FuncId} {fn : Func} {c : Code} (hf : P.funcs[f]? = some fn) (hb : fn.body = some c) {args : List AV} {val : AV} {new : Heap} (hk : codeOK fn.ntmps c = true)
    (hl0 : Nat.ble args.length fn.ntmps = true) (h : funA P C hint c fn.results.toList args val new) : SpecOK P f args val new := by
  have hl := Nat.le_of_ble_eq_true hl0
  intro S w cargs hS hsz hargs
  refine calls_of_wp hf hb ?_
  let x : Cx := ⟨w, fun b => w.heap.size ≤ b, fn.ntmps, S, fun b hb => hb⟩
  have hsat : Sat x (envOf 0 args) [] 0 { tmps := cargs ++ Array.replicate (fn.ntmps - cargs.size) Go.undef, defers := [] } w := by
    let ρ : Rho := ⟨fun _ _ => 0, fun _ => 0⟩
    refine ⟨S, ρ, fun _ _ h => h, fun b h1 h2 => absurd h1 h2, ⟨hS, fun r k hr => (by cases hr), fun r j hf => hf.elim, fun r j r' j' hf => hf.elim⟩, fun t => ?_, Kept.refl _ _, (by show (cargs ++ Array.replicate (fn.ntmps - cargs.size) Go.undef).size = fn.ntmps; simp; omega), rfl, fun r hr => (hr rfl).elim⟩
    rw [envOf_get]
    simp only [Nat.zero_le, if_true, Nat.sub_zero]
    cases ht : args[t]? with
    | none => exact .pure _ _ (.undef _)
    | some v =>
      have hlt : t < cargs.size := by rw [hsz]; exact (List.getElem?_eq_some_iff.1 ht).1
      have e1 : (cargs ++ Array.replicate (fn.ntmps - cargs.size) Go.undef).getD t Go.undef = cargs[t] := by
        rw [Array.getD_eq_getD_getElem?, Array.getElem?_append_left hlt]; simp [hlt]
      rw [e1]
      exact .pure _ _ (hargs t v cargs[t] ht (by simp [hlt]))
  refine wp_mono (code_ok (x := x) hT hm c _ _ _ _ _ w hk h hsat) ?_
  rintro ex a w' ⟨e, hp, n, hq, hs⟩
  have fin : retA P fn.results.toList val new e hp → a.defers = [] ∧ ∃ v, (results fn a.tmps).run P w' = .ok v w' ∧ ∃ cv S' ρ', (Ending.returned v) = .returned cv ∧ Rel (w.heap.size ≤ ·) S' ρ' new.look w' ∧ S.le S' ∧ (∀ b, S b = none → S' b ≠ none → w.heap.size ≤ b) ∧
      Kept (w.heap.size ≤ ·) w w' ∧ V S' ρ' new.look val cv := by
    rintro ⟨r1, r2, n', r3⟩
    have hs0 := hs
    obtain ⟨S1, ρ, s1, s2, s3, s4, s5, s6, s7, s8⟩ := hs
    obtain ⟨vs, hr, hlen, hv⟩ := results_ok s3 s4 fn.results.toList r1
    refine ⟨s7, (if h : vs.toArray.size = 1 then vs.toArray[0] else .tuple vs.toArray), ?_, ?_⟩
    · rw [results_eq, Sem.run_bind, Array.mapM_eq_mapM_toList, Sem.run_map, hr]
      simp only [Result.andThen_ok, Sem.run_pure]
    · -- the result, frozen and weakened
      have htup : V S1 ρ hp.look (tupOf (resL P e hp fn.results.toList)) (if h : vs.toArray.size = 1 then vs.toArray[0] else .tuple vs.toArray) := by
        have hlr : (resL P e hp fn.results.toList).length = fn.results.toList.length := by
          generalize fn.results.toList = l
          induction l with
          | nil => rfl
          | cons r l ih => simp [resL, ih]
        by_cases h1 : vs.length = 1
        · obtain ⟨v0, rfl⟩ := List.length_eq_one_iff.1 h1
          obtain ⟨u0, hu0⟩ := List.length_eq_one_iff.1 (show (resL P e hp fn.results.toList).length = 1 by rw [hlr, ← hlen]; rfl)
          rw [hu0] at hv ⊢
          simp only [List.size_toArray, List.length_singleton, dif_pos]
          exact hv 0 u0 v0 rfl rfl
        · rw [dif_neg (by simpa using h1)]
          have : tupOf (resL P e hp fn.results.toList) = .tup (resL P e hp fn.results.toList) := by
            rw [← hlen] at hlr
            generalize resL P e hp fn.results.toList = l at hlr
            match l with
            | [] => rfl
            | [u] => exact absurd (by simpa using hlr.symm) h1
            | _ :: _ :: _ => rfl
          rw [this]
          exact .tup _ _ (by simp [hlr, hlen]) (fun j y v hy hv' => hv j y v hy (by simpa using hv'))
      obtain ⟨S', f1, f2, f3, f4⟩ := freeze s3 (keeps new)
      have hh := WHeap.spec r3
      have b1 : ∀ r k, frzH (keeps new) hp.look r = some k → ∃ k2, new.look r = some k2 ∧ BW k k2 := fun r k hr => by
        obtain ⟨hk, k0, hk0, rfl⟩ := frzH_some hr
        obtain ⟨k2, hk2⟩ := Option.isSome_iff_exists.1 hk
        obtain ⟨⟨k1, hk1, hc⟩, _⟩ := hh r k2 hk2
        rw [hk0] at hk1; cases hk1
        exact ⟨k2, hk2, hc.bw⟩
      have b2 : ∀ r k2, new.look r = some k2 → ∃ k, frzH (keeps new) hp.look r = some k ∧ BW k k2 := fun r k2 hr => by
        obtain ⟨⟨k1, hk1, hc⟩, _⟩ := hh r k2 hr
        exact ⟨_, by rw [frzH_keep (by simp [keeps, hr]), hk1]; rfl, hc.bw⟩
      refine ⟨_, S', ρ, rfl, f3.weak b1 b2, fun b c hb => f1 b c (s1 b c hb), fun b h1 h2 => ?_, s5, Co.ent _ _ r2 _ _ _ _ ((f4 _ _ htup).weak b1)⟩
      by_cases hS1 : S1 b = none
      · exact f2 b hS1 h2
      · exact s2 b h1 hS1
  cases ex with
  | normal => exact fin hq
  | ret => exact fin hq
  | exit i => exact hq.elim
  | goto l => exact hq.elim
  | panic ch => exact hq.elim
  | outgrown => exact hq.elim
end
end Go.Vc
namespace Go.Vc
open Go.RowKit

/-! ### The rules that the reckoner goes by -/
def memB : List Nat → Nat → Bool
  | [], _ => false
  | a :: l, d => bif a == d then true else memB l d
theorem memB_nil (d : Nat) : memB [] d = false := (rfl)
theorem memB_cons (a d : Nat) (l : List Nat) : memB (a :: l) d = bif a == d then true else memB l d := (rfl)
def fzL : List (Nat × List Nat) → Nat → List Nat
  | [], _ => []
  | (a, l) :: r, d => bif a == d then l else fzL r d
theorem fzL_nil (d : Nat) : fzL [] d = [] := (rfl)
theorem fzL_cons (a d : Nat) (l r) : fzL ((a, l) :: r) d = bif a == d then l else fzL r d := (rfl)
/-- Slots whose new memory is to be written. -/
def hintL (l : List Nat) : Hint := ⟨memB l, fun _ => []⟩
/-- .. and regions ahead of which the memory in some slots is given up. -/
def hintF (l : List Nat) (r : List (Nat × List Nat)) : Hint := ⟨memB l, fzL r⟩
theorem hintL_own (l d) : (hintL l).own d = memB l d := (rfl)
theorem hintL_fz (l d) : (hintL l).fz d = [] := (rfl)
theorem hintF_own (l r d) : (hintF l r).own d = memB l d := (rfl)
theorem hintF_fz (l r d) : (hintF l r).fz d = fzL r d := (rfl)
theorem regA_nil (A e h) : regA [] A e h = A e h := (rfl)
theorem regA_cons (a l A e h) : regA (a :: l) A e h = A (frzE (frzA (keepR (frzR (a :: l) e)) h.look) e) (frzP (keepR (frzR (a :: l) e)) (frzA (keepR (frzR (a :: l) e)) h.look) h) := (rfl)
def frzR1 (v : AV) (k : List Nat) : List Nat := match v with | .sl r => r :: k | .mt r => r :: k | _ => k
theorem frzR_nil (e) : frzR [] e = [] := (rfl)
theorem frzR_cons (d l e) : frzR (d :: l) e = frzR1 (e.get d) (frzR l e) := by rw [frzR]; cases e.get d <;> rfl
theorem frzR1_sl (r k) : frzR1 (.sl r) k = r :: k := (rfl)
theorem frzR1_mt (r k) : frzR1 (.mt r) k = r :: k := (rfl)
theorem keepR_nil (r) : keepR [] r = true := (rfl)
theorem keepR_cons (q l r) : keepR (q :: l) r = bif q == r then false else keepR l r := (rfl)
theorem frzE_nil (φ) : frzE φ [] = [] := (rfl)
theorem frzE_cons (φ t v e) : frzE φ ((t, v) :: e) = (t, v.tr φ) :: frzE φ e := (rfl)
theorem frzP_nil (keep φ) : frzP keep φ [] = [] := (rfl)
theorem frzP_cons (keep φ q k h) : frzP keep φ ((q, k) :: h) = bif keep q then (q, k.tr φ) :: frzP keep φ h else frzP keep φ h := (rfl)
theorem purE_nil (r) : purE r [] = [] := (rfl)
theorem purE_cons (r t v e) : purE r ((t, v) :: e) = (t, v.tr (purA r)) :: purE r e := (rfl)
theorem purH_nil (r) : purH r [] = [] := (rfl)
theorem purH_cons (r q k h) : purH r ((q, k) :: h) = (q, k.tr (purA r)) :: purH r h := (rfl)
theorem purA_sl (r q) : purA r (.sl q) = bif q == r then .undef else .sl q := (rfl)
theorem purA_mt (r q) : purA r (.mt q) = bif q == r then .undef else .mt q := (rfl)
theorem purA_mr (r q i) : purA r (.mr q i) = bif q == r then .undef else .mr q i := (rfl)
theorem purA_bx (r q o) : purA r (.bx q o) = bif q == r then .undef else .bx q o := (rfl)
theorem purA_pa (r q i) : purA r (.pa q i) = bif q == r then .undef else .pa q i := (rfl)
theorem purA_pm (r q i j) : purA r (.pm q i j) = bif q == r then .undef else .pm q i j := (rfl)
theorem purA_po (r q i) : purA r (.po q i) = bif q == r then .undef else .po q i := (rfl)
theorem appS_sl (r A B) : appS (.sl r) A B = A := (rfl)
theorem appS_nils (A B) : appS .nils A B = B := (rfl)
theorem appR_i (P ts tx r xs ys e h) : appR P ts tx (.sl r) (some (.arr (.ints xs))) (.ints ys) e h = ⟨apP (ap P ts) 1 (xs ++ ys).length ∧ isSl P tx, purE r e, hset (purH r h) r (.arr (.ints (xs ++ ys)))⟩ := (rfl)
theorem appR_in (P ts tx r xs e h) : appR P ts tx (.sl r) (some (.arr (.ints xs))) .nils e h = ⟨apP (ap P ts) 1 xs.length ∧ isSl P tx, purE r e, hset (purH r h) r (.arr (.ints xs))⟩ := (rfl)
theorem appR_r (P ts tx r xs ys e h) : appR P ts tx (.sl r) (some (.arr (.rows xs))) (.rows ys) e h = ⟨apP (ap P ts) 1 (xs ++ ys).length ∧ isSl P tx, purE r e, hset (purH r h) r (.arr (.rows (xs ++ ys)))⟩ := (rfl)
theorem appR_s (P ts tx r xs ys e h) : appR P ts tx (.sl r) (some (.arr (.strs xs))) (.strs ys) e h = ⟨apP (ap P ts) 1 (xs ++ ys).length ∧ isSl P tx, purE r e, hset (purH r h) r (.arr (.strs (xs ++ ys)))⟩ := (rfl)
theorem appR_p (P ts tx r xs ys e h) : appR P ts tx (.sl r) (some (.arr (.pairs xs))) (.pairs ys) e h = ⟨apP (ap P ts) 2 (xs ++ ys).length ∧ isSl P tx, purE r e, hset (purH r h) r (.arr (.pairs (xs ++ ys)))⟩ := (rfl)
theorem apP_some (k b m l) : apP (some (k, b)) m l = (k = m ∧ l * (b + 1) ≤ 140737488355328) := (rfl)
theorem appN_i (P ow n ts tx ys) : appN P ow n ts tx .nils (.ints ys) = newL ow n (apP (ap P ts) 1 ys.length ∧ isSl P tx) (some (.ints ys)) := (rfl)
theorem appN_r (P ow n ts tx ys) : appN P ow n ts tx .nils (.rows ys) = newL ow n (apP (ap P ts) 1 ys.length ∧ isSl P tx) (some (.rows ys)) := (rfl)
theorem appN_s (P ow n ts tx ys) : appN P ow n ts tx .nils (.strs ys) = newL ow n (apP (ap P ts) 1 ys.length ∧ isSl P tx) (some (.strs ys)) := (rfl)
theorem appN_p (P ow n ts tx ys) : appN P ow n ts tx .nils (.pairs ys) = newL ow n (apP (ap P ts) 2 ys.length ∧ isSl P tx) (some (.pairs ys)) := (rfl)
theorem newL_t (n p v) : newL true n p (some v) = ⟨p, .sl n, [(n, .arr v)], 1⟩ := (rfl)
theorem newL_f (n p v) : newL false n p (some v) = ⟨p, v, [], 0⟩ := (rfl)
theorem pureR_mk (b p v new c) : pureR b ⟨p, v, new, c⟩ = ⟨b = true ∧ p, v, new, c⟩ := (rfl)
theorem buildR_eq (P ow n t len is vs) : buildR P ow n t len is vs = newL ow n ((inOrder 0 is = true ∧ is.length = len) ∧ (ap P t).isSome = true ∧ len ≤ 1000000) (mkL (seedL (sd P t) 0) vs) := (rfl)
theorem inOrder_nil (k) : inOrder k [] = true := (rfl)
theorem inOrder_cons (k i l) : inOrder k (i :: l) = bif k == i then inOrder (k + 1) l else false := (rfl)
theorem mkL_nil (s) : mkL s [] = s := (rfl)
theorem mkL_cons (s v l) : mkL s (v :: l) = consV v (mkL s l) := (rfl)
theorem consV_i (n xs) : consV (.int .i64 n) (some (.ints xs)) = some (.ints (n :: xs)) := (rfl)
theorem consV_b (b xs) : consV (.bool b) (some (.bools xs)) = some (.bools (b :: xs)) := (rfl)
theorem consV_s (b xs) : consV (.str b) (some (.strs xs)) = some (.strs (b :: xs)) := (rfl)
theorem consV_r (r xs) : consV (.ints r) (some (.rows xs)) = some (.rows (r :: xs)) := (rfl)
theorem consV_n (xs) : consV .nils (some (.rows xs)) = some (.rows ([] :: xs)) := (rfl)
theorem consV_p (a b xs) : consV (.agg [.int .i64 a, .int .i64 b]) (some (.pairs xs)) = some (.pairs ((a, b) :: xs)) := (rfl)
theorem seed_i (k n) : seedL (some (.int .i64 k)) n = some (.ints (List.replicate n k)) := (rfl)
theorem seed_b (k n) : seedL (some (.bool k)) n = some (.bools (List.replicate n k)) := (rfl)
theorem seed_s (k n) : seedL (some (.string k)) n = some (.strs (List.replicate n k)) := (rfl)
theorem seed_r (n) : seedL (some (.slice none 0 0)) n = some (.rows (List.replicate n [])) := (rfl)
theorem seed_p (a b n) : seedL (some (.agg ⟨[.int .i64 a, .int .i64 b]⟩)) n = some (.pairs (List.replicate n (a, b))) := (rfl)
theorem rep0 {α : Type} (x : α) : List.replicate 0 x = [] := (rfl)
def mkW (z : Option (Nat × Nat)) (l : Nat) : Prop := match z with | some (_, b) => l * (b + 1) ≤ 140737488355328 | none => False
theorem mkW_some (k b l) : mkW (some (k, b)) l = (l * (b + 1) ≤ 140737488355328) := (rfl)
theorem makeR_eq (P ow n t k k' l c) : makeR P ow n t (.int k l) (.int k' c) = newL ow n ((0 ≤ l ∧ l ≤ c) ∧ mkW (ap P t) c.toNat) (seedL (sd P t) l.toNat) := by
  show newL _ _ _ _ = newL _ _ _ _
  congr 1
  cases h : ap P t with
  | none => rfl
  | some z => obtain ⟨a, b⟩ := z; simp [apP, mkW]

section
variable (P : Program) (C : Table) (hint : Hint) (Q : AQ) (e : Env) (h : Heap) (n : Nat)
theorem codeA_skip : codeA P C hint .skip Q e h n = Q .normal e h n := (rfl)
theorem codeA_region (i ops d) : codeA P C hint (.region i ⟨ops⟩ d) Q e h n = regA (hint.fz i) (fun e h => opsA P C hint ops ops e h n (Q .normal)) e h := (rfl)
theorem codeA_seq (x y) : codeA P C hint (.seq x y) Q e h n = codeA P C hint x (thenA (codeA P C hint y Q) Q) e h n := (rfl)
theorem codeA_cond (c x y) : codeA P C hint (.cond c x y) Q e h n = condA (opnd e c) (codeA P C hint x Q e h n) (codeA P C hint y Q e h n) := (rfl)
theorem codeA_block (id b) : codeA P C hint (.block id b) Q e h n = codeA P C hint b (blockA id Q) e h n := (rfl)
theorem codeA_exit (id) : codeA P C hint (.exit id) Q e h n = Q (.exit id) e h n := (rfl)
theorem codeA_ret : codeA P C hint .ret Q e h n = Q .ret e h n := (rfl)
theorem codeA_loop (b) : codeA P C hint (.loop b) Q e h n = loopA (codeA P C hint b) Q e h n := (rfl)
theorem thenA_normal (K) : thenA K Q .normal e h n = K e h n := (rfl)
theorem thenA_exit (K i) : thenA K Q (.exit i) e h n = Q (.exit i) e h n := (rfl)
theorem thenA_ret (K) : thenA K Q .ret e h n = Q .ret e h n := (rfl)
theorem blockA_normal (i) : blockA i Q .normal e h n = Q .normal e h n := (rfl)
theorem blockA_ret (i) : blockA i Q .ret e h n = Q .ret e h n := (rfl)
theorem blockA_exit (i j) : blockA i Q (.exit j) e h n = if j = i then Q .normal e h n else Q (.exit j) e h n := (rfl)
theorem endA_normal (rs val new) : endA P rs val new .normal e h n = retA P rs val new e h := (rfl)
theorem endA_ret (rs val new) : endA P rs val new .ret e h n = retA P rs val new e h := (rfl)
theorem condA_bool (b A B) : condA (.bool b) A B = partB b A B := (rfl)
theorem condA_tt (A B) : condA .tt A B = A := (rfl)
theorem condA_ff (A B) : condA .ff A B = B := (rfl)
end

def callK (r : Res) (K : AV → Heap → Nat → Prop) : Prop := r.pre ∧ K r.val r.new r.cnt
theorem callK_mk (p v new c) (K : AV → Heap → Nat → Prop) : callK ⟨p, v, new, c⟩ K = (p ∧ K v new c) := (rfl)
def storK (r : ResM) (K : Env → Heap → Prop) : Prop := r.pre ∧ K r.env r.heap
theorem storK_mk (p e h) (K : Env → Heap → Prop) : storK ⟨p, e, h⟩ K = (p ∧ K e h) := (rfl)

section
variable (P : Program) (C : Table) (hint : Hint) (all rest : List Oper) (e : Env) (h : Heap) (n : Nat) (K : Env → Heap → Nat → Prop) (dst : Option Tmp) (t : TypeId) (pos : String) (af : Array Edge)
theorem opsA_nil : opsA P C hint all [] e h n K = K e h n := (rfl)
theorem opsA_g (op : Op) (j w) : opsA P C hint all (⟨dst, op, t, pos, af, some (j, w)⟩ :: rest) e h n K =
    guardD w (gdst all j) e (fun e => opsA P C hint all (⟨dst, op, t, pos, af, none⟩ :: rest) e h n K) (fun e => opsA P C hint all rest (dset e dst .skipd) h n K) := (rfl)
theorem opsA_move (x) : opsA P C hint all (⟨dst, .move x, t, pos, af, none⟩ :: rest) e h n K = opsA P C hint all rest (dset e dst (opnd e x)) h n K := by
  show (True ∧ _) = _; rw [true_and]; rfl
theorem opsA_assign (x) : opsA P C hint all (⟨dst, .assign x, t, pos, af, none⟩ :: rest) e h n K = opsA P C hint all rest (dset e dst (opnd e x)) h n K := by
  show (True ∧ _) = _; rw [true_and]; rfl
theorem opsA_pick (c a b) : opsA P C hint all (⟨dst, .pick c a b, t, pos, af, none⟩ :: rest) e h n K =
    pickS (opnd e c) (opsA P C hint all rest (dset e dst (opnd e a)) h n K) (opsA P C hint all rest (dset e dst (opnd e b)) h n K) := (rfl)
theorem opsA_store (t1 p x) : opsA P C hint all (⟨dst, .store t1 p x, t, pos, af, none⟩ :: rest) e h n K =
    storK (storeR (td P t1) (blkOf h (opnd e p)) (opnd e p) (opnd e x) e h) fun e h => opsA P C hint all rest (dset e dst .skipd) h n K := (rfl)
theorem opsA_bin (op x y t1 t2) : opsA P C hint all (⟨dst, .binOp op t1 x y t2, t, pos, af, none⟩ :: rest) e h n K =
    (arithP P t1 op (opnd e x) (opnd e y) ∧ opsA P C hint all rest (dset e dst (arithV op (opnd e x) (opnd e y))) h n K) := (rfl)
theorem opsA_not (x t1) : opsA P C hint all (⟨dst, .unOp .not t1 x, t, pos, af, none⟩ :: rest) e h n K = (notP (opnd e x) ∧ opsA P C hint all rest (dset e dst (notV (opnd e x))) h n K) := (rfl)
theorem opsA_neg (x t1) : opsA P C hint all (⟨dst, .unOp .neg t1 x, t, pos, af, none⟩ :: rest) e h n K = (negP (opnd e x) ∧ opsA P C hint all rest (dset e dst (negV (opnd e x))) h n K) := (rfl)
theorem opsA_conv (s d x) : opsA P C hint all (⟨dst, .convert s d x, t, pos, af, none⟩ :: rest) e h n K = (convP P s (ik P d) (opnd e x) ∧ opsA P C hint all rest (dset e dst (convV (ik P d) (opnd e x))) h n K) := (rfl)
theorem opsA_ixa (x i t1) : opsA P C hint all (⟨dst, .indexAddr t1 x i, t, pos, af, none⟩ :: rest) e h n K =
    (idxP (ed P t1) (blkOf h (opnd e x)) (opnd e x) (opnd e i) ∧ opsA P C hint all rest (dset e dst (idxV (ed P t1) (opnd e x) (opnd e i))) h n K) := (rfl)
theorem opsA_sidx (x i t1) : opsA P C hint all (⟨dst, .index t1 x i, t, pos, af, none⟩ :: rest) e h n K = (sidxP P t1 (opnd e x) (opnd e i) ∧ opsA P C hint all rest (dset e dst (sidxV (opnd e x) (opnd e i))) h n K) := (rfl)
theorem opsA_load (x t1) : opsA P C hint all (⟨dst, .load t1 x, t, pos, af, none⟩ :: rest) e h n K =
    (loadP (td P t1) (blkOf h (opnd e x)) (opnd e x) ∧ opsA P C hint all rest (dset e dst (loadV (td P t1) (blkOf h (opnd e x)) (opnd e x))) h n K) := (rfl)
theorem opsA_field (x t1 f) : opsA P C hint all (⟨dst, .fieldAddr t1 x f, t, pos, af, none⟩ :: rest) e h n K =
    (fieldP (fd P t1 f) (blkOf h (opnd e x)) (opnd e x) ∧ opsA P C hint all rest (dset e dst (fieldV (fd P t1 f) (opnd e x))) h n K) := (rfl)
theorem opsA_part (x t1 f) : opsA P C hint all (⟨dst, .field t1 x f, t, pos, af, none⟩ :: rest) e h n K = (partP (fd P t1 f) (opnd e x) ∧ opsA P C hint all rest (dset e dst (partV (fd P t1 f) (opnd e x))) h n K) := (rfl)
theorem opsA_extract (x k) : opsA P C hint all (⟨dst, .extract x k, t, pos, af, none⟩ :: rest) e h n K = (extractP k (opnd e x) ∧ opsA P C hint all rest (dset e dst (extractV k (opnd e x))) h n K) := (rfl)
theorem opsA_func (f xs) : opsA P C hint all (⟨dst, .makeFunc (.func f) ⟨[]⟩ ⟨xs⟩, t, pos, af, none⟩ :: rest) e h n K = opsA P C hint all rest (dset e dst (.fn f (xs.map (opnd e)))) h n K := by
  show (True ∧ _) = _; rw [true_and]; rfl
theorem opsA_box (t1 x) : opsA P C hint all (⟨dst, .box t1 x, t, pos, af, none⟩ :: rest) e h n K = callK (boxR (hint.own (dst.getD 0)) n (opnd e x)) fun v new c => opsA P C hint all rest (dset e dst v) (new ++ h) (n + c) K := (rfl)
theorem opsA_alloc (t1) : opsA P C hint all (⟨dst, .alloc t1, t, pos, af, none⟩ :: rest) e h n K = callK (allocR P (hint.own (dst.getD 0)) n t1) fun v new c => opsA P C hint all rest (dset e dst v) (new ++ h) (n + c) K := (rfl)
theorem opsA_len (x t1) : opsA P C hint all (⟨dst, .call ⟨.builtin .len, ⟨[x]⟩, ⟨[t1]⟩⟩, t, pos, af, none⟩ :: rest) e h n K =
    (lenP P t1 (blkOf h (opnd e x)) (opnd e x) ∧ opsA P C hint all rest (dset e dst (lenV (blkOf h (opnd e x)) (opnd e x))) h n K) := (rfl)
theorem opsA_min (x y ts) : opsA P C hint all (⟨dst, .call ⟨.builtin .min, ⟨[x, y]⟩, ts⟩, t, pos, af, none⟩ :: rest) e h n K = (minmaxP .min (opnd e x) (opnd e y) ∧ opsA P C hint all rest (dset e dst (minmaxV .min (opnd e x) (opnd e y))) h n K) := (rfl)
theorem opsA_max (x y ts) : opsA P C hint all (⟨dst, .call ⟨.builtin .max, ⟨[x, y]⟩, ts⟩, t, pos, af, none⟩ :: rest) e h n K = (minmaxP .max (opnd e x) (opnd e y) ∧ opsA P C hint all rest (dset e dst (minmaxV .max (opnd e x) (opnd e y))) h n K) := (rfl)
theorem opsA_append (s y ts tx) : opsA P C hint all (⟨dst, .call ⟨.builtin .append, ⟨[s, y]⟩, ⟨[ts, tx]⟩⟩, t, pos, af, none⟩ :: rest) e h n K = appS (opnd e s)
    (storK (appR P ts tx (opnd e s) (blkOf h (opnd e s)) (opnd e y) e h) fun e' h' => opsA P C hint all rest (dset e' dst (opnd e s)) h' n K)
    (callK (appN P (hint.own (dst.getD 0)) n ts tx (opnd e s) (opnd e y)) fun v new c => opsA P C hint all rest (dset e dst v) (new ++ h) (n + c) K) := (rfl)
theorem opsA_lit (t1 len ps) : opsA P C hint all (⟨dst, .buildSlice t1 len ⟨ps⟩, t, pos, af, none⟩ :: rest) e h n K =
    callK (pureR ((ps.map fun p => opnd e p.2).all AV.pureB) (buildR P (hint.own (dst.getD 0)) n t1 len (ps.map Prod.fst) (ps.map fun p => opnd e p.2))) fun v new c => opsA P C hint all rest (dset e dst v) (new ++ h) (n + c) K := (rfl)
theorem opsA_make (t1 l c) : opsA P C hint all (⟨dst, .makeSlice t1 l c, t, pos, af, none⟩ :: rest) e h n K =
    callK (makeR P (hint.own (dst.getD 0)) n t1 (opnd e l) (opnd e c)) fun v new c => opsA P C hint all rest (dset e dst v) (new ++ h) (n + c) K := (rfl)
theorem opsA_cut (t1 x lo hi) : opsA P C hint all (⟨dst, .slice t1 x lo hi none, t, pos, af, none⟩ :: rest) e h n K =
    (sliceP P t1 (opnd e x) (lo.map (opnd e)) (hi.map (opnd e)) ∧ opsA P C hint all rest (dset e dst (sliceV (opnd e x) (lo.map (opnd e)) (hi.map (opnd e)))) h n K) := (rfl)
theorem opsA_call (f xs ts) : opsA P C hint all (⟨dst, .call ⟨.value f, ⟨xs⟩, ts⟩, t, pos, af, none⟩ :: rest) e h n K =
    callK (frzNew (hint.own (dst.getD 0)) (callF C (opnd e f) (xs.map (opnd e)) n)) fun v new c => opsA P C hint all rest (dset e dst v) (new ++ h) (n + c) K := (rfl)
end

section
variable (P : Program) (t : TypeId) (x y i j : Int) (xs : List Int) (rs : List (List Int)) (ss : List ByteArray) (bs : List Bool) (ps : List (Int × Int)) (us : List UInt8) (s s' : ByteArray) (b b' : Bool) (n m r : Nat) (cs : List AV) (c : AV) (k : IntKind) (kb : Option Blk) (e : Env) (h : Heap)
theorem frzNew_f (p v new) : frzNew false (p, v, new) = ⟨p, v.tr (frzA (fun _ => false) new.look), [], new.length⟩ := (rfl)
theorem frzNew_t (p v new) : frzNew true (p, v, new) = ⟨p, v, new, new.length⟩ := (rfl)
theorem callF_fn (C : Table) (f caps args) : callF C (.fn f caps) args n = ((C.find f (args ++ caps) n).1 ∧ (args ++ caps).all AV.pureB = true, (C.find f (args ++ caps) n).2) := (rfl)
theorem tab_get (C : Table) (f g v) : Table.find ((f, v) :: C) g = if f = g then v else Table.find C g := (rfl)
theorem boxR_f (v) : boxR false n v = ⟨v.isUndef = false ∧ v.pureB = true, .iptr v.cells, [], 0⟩ := (rfl)
theorem boxR_t (v) : boxR true n v = ⟨v.isUndef = false ∧ v.pureB = true, .bx n 0, [(n, .box v.cells)], 1⟩ := (rfl)
theorem env_get (q v) : Env.get ((q, v) :: e) t = if q = t then v else Env.get e t := (rfl)
theorem look_cons (q v) : Heap.look ((q, v) :: h) r = if q = r then some v else Heap.look h r := (rfl)
theorem look_nil : Heap.look [] r = none := (rfl)
theorem dset_some (d v) : dset e (some d) v = (d, v) :: e := (rfl)
theorem dset_none (v) : dset e none v = e := (rfl)
theorem o_tmp : opnd e (.tmp t) = e.get t := (rfl)
theorem o_int : opnd e (.const (.int k x)) = .int k x := (rfl)
theorem o_bool : opnd e (.const (.bool b)) = .bool b := (rfl)
theorem o_str : opnd e (.const (.string s)) = .str s := (rfl)
theorem o_nils : opnd e (.const (.slice none 0 0)) = .nils := (rfl)
theorem o_nili : opnd e (.const .nilIface) = .nilI := (rfl)
theorem o_func (f) : opnd e (.func f) = .fn f [] := (rfl)
theorem o_agg (vs) : opnd e (.const (.agg ⟨vs⟩)) = .agg (vs.map cst1) := (rfl)
theorem cst1_int : cst1 (.int k x) = .int k x := (rfl)
theorem cst1_nils : cst1 (.slice none 0 0) = .nils := (rfl)
theorem cst1_bool : cst1 (.bool b) = .bool b := (rfl)
theorem gdst_0 (o l) : gdst (o :: l) 0 = o.dst := (rfl)
theorem gdst_s (o : Oper) (l) : gdst (o :: l) (n + 1) = gdst l n := (rfl)
theorem guardD_some (w d Y N) : guardD w (some d) e Y N = guardS w d e (e.get d) Y N := (rfl)
theorem guardD_none (w Y N) : guardD w none e Y N = N e := (rfl)
theorem guardS_t (d Y N) : guardS true d e (.bool b) Y N = partB b (Y ((d, .tt) :: e)) (N ((d, .ff) :: e)) := (rfl)
theorem guardS_f (d Y N) : guardS false d e (.bool b) Y N = partB b (N ((d, .tt) :: e)) (Y ((d, .ff) :: e)) := (rfl)
theorem guardS_tt (d Y N) : guardS true d e .tt Y N = Y e := (rfl)
theorem guardS_ft (d Y N) : guardS false d e .tt Y N = N e := (rfl)
theorem guardS_tf (d Y N) : guardS true d e .ff Y N = N e := (rfl)
theorem guardS_ff (d Y N) : guardS false d e .ff Y N = Y e := (rfl)
theorem guardS_skip (w d Y N) : guardS w d e .skipd Y N = N e := (rfl)
theorem pickS_b (A B) : pickS (.bool b) A B = partB b A B := (rfl)
theorem pickS_t (A B) : pickS .tt A B = A := (rfl)
theorem pickS_f (A B) : pickS .ff A B = B := (rfl)
-- numbers
theorem v_add : arithV .add (.int .i64 x) (.int .i64 y) = .int .i64 (x + y) := (rfl)
theorem v_sub : arithV .sub (.int .i64 x) (.int .i64 y) = .int .i64 (x - y) := (rfl)
theorem v_mul : arithV .mul (.int .i64 x) (.int .i64 y) = .int .i64 (x * y) := (rfl)
theorem v_quo : arithV .quo (.int k x) (.int k y) = .int k (x / y) := (rfl)
theorem v_rem : arithV .rem (.int k x) (.int k y) = .int k (x % y) := (rfl)
theorem v_and : arithV .and (.int k x) (.int k y) = .int k (bitN .and x.toNat y.toNat : Nat) := (rfl)
theorem v_or : arithV .or (.int k x) (.int k y) = .int k (bitN .or x.toNat y.toNat : Nat) := (rfl)
theorem v_andnot : arithV .andNot (.int k x) (.int k y) = .int k (bitN .andNot x.toNat y.toNat : Nat) := (rfl)
theorem v_shl (k') : arithV .shl (.int k x) (.int k' y) = .int k (x * 2 ^ y.toNat) := (rfl)
theorem v_shr (k') : arithV .shr (.int k x) (.int k' y) = .int k (x / 2 ^ y.toNat) := (rfl)
theorem v_lss : arithV .lss (.int k x) (.int k y) = .bool (decide (x < y)) := (rfl)
theorem v_leq : arithV .leq (.int k x) (.int k y) = .bool (decide (x ≤ y)) := (rfl)
theorem v_gtr : arithV .gtr (.int k x) (.int k y) = .bool (decide (y < x)) := (rfl)
theorem v_geq : arithV .geq (.int k x) (.int k y) = .bool (decide (y ≤ x)) := (rfl)
theorem v_eql : arithV .eql (.int k x) (.int k y) = .bool (decide (x = y)) := (rfl)
theorem v_neq : arithV .neq (.int k x) (.int k y) = .bool (!decide (x = y)) := (rfl)
theorem v_eqb : arithV .eql (.bool b) (.bool b') = .bool (b == b') := (rfl)
theorem v_neb : arithV .neq (.bool b) (.bool b') = .bool (!(b == b')) := (rfl)
theorem v_eqs : arithV .eql (.str s) (.str s') = .bool (s.toList == s'.toList) := (rfl)
theorem v_nes : arithV .neq (.str s) (.str s') = .bool (!(s.toList == s'.toList)) := (rfl)
theorem v_adds : arithV .add (.str s) (.str s') = .str (s ++ s') := (rfl)
theorem v_lts : arithV .lss (.str s) (.str s') = .bool (Op.bytesLess s.toList s'.toList) := (rfl)
theorem p_add : arithP P t .add (.int .i64 x) (.int .i64 y) = RK .i64 (x + y) := by show (_ ∧ _) = _; simp
theorem p_sub : arithP P t .sub (.int .i64 x) (.int .i64 y) = RK .i64 (x - y) := by show (_ ∧ _) = _; simp
theorem p_mul : arithP P t .mul (.int .i64 x) (.int .i64 y) = RK .i64 (x * y) := by show (_ ∧ _) = _; simp
theorem p_quo : arithP P t .quo (.int k x) (.int k y) = (0 ≤ x ∧ 0 < y ∧ RK k x) := by show (_ ∧ _) = _; simp
theorem p_rem : arithP P t .rem (.int k x) (.int k y) = (0 ≤ x ∧ 0 < y) := by show (_ ∧ _) = _; simp
theorem p_and : arithP P t .and (.int k x) (.int k y) = ((0 ≤ x ∧ RK k x) ∧ 0 ≤ y ∧ RK k y) := by show (_ ∧ _) = _; simp
theorem p_or : arithP P t .or (.int k x) (.int k y) = ((0 ≤ x ∧ RK k x) ∧ 0 ≤ y ∧ RK k y) := by show (_ ∧ _) = _; simp
theorem p_andnot : arithP P t .andNot (.int k x) (.int k y) = ((0 ≤ x ∧ RK k x) ∧ 0 ≤ y ∧ RK k y) := by show (_ ∧ _) = _; simp
theorem p_shl (k') : arithP P t .shl (.int k x) (.int k' y) = ((0 ≤ y ∧ y.toNat ≤ k.bits) ∧ RK k (x * 2 ^ y.toNat)) := (rfl)
theorem p_shr (k') : arithP P t .shr (.int k x) (.int k' y) = (0 ≤ y ∧ y.toNat ≤ k.bits) := (rfl)
theorem p_lss : arithP P t .lss (.int k x) (.int k y) = True := by show (k = k) = True; simp
theorem p_leq : arithP P t .leq (.int k x) (.int k y) = True := by show (k = k) = True; simp
theorem p_gtr : arithP P t .gtr (.int k x) (.int k y) = True := by show (k = k) = True; simp
theorem p_geq : arithP P t .geq (.int k x) (.int k y) = True := by show (k = k) = True; simp
theorem p_eql : arithP P t .eql (.int k x) (.int k y) = True := by show (k = k) = True; simp
theorem p_neq : arithP P t .neq (.int k x) (.int k y) = True := by show (k = k) = True; simp
theorem p_eqb : arithP P t .eql (.bool b) (.bool b') = (P.underlying t = some .bool) := (rfl)
theorem p_neb : arithP P t .neq (.bool b) (.bool b') = (P.underlying t = some .bool) := (rfl)
theorem p_eqs : arithP P t .eql (.str s) (.str s') = True := (rfl)
theorem p_nes : arithP P t .neq (.str s) (.str s') = True := (rfl)
theorem p_adds : arithP P t .add (.str s) (.str s') = (s.size + s'.size ≤ 9223372036854775807) := (rfl)
theorem p_lts : arithP P t .lss (.str s) (.str s') = True := (rfl)
theorem v_not : notV (.bool b) = .bool (!b) := (rfl)
theorem p_not : notP (.bool b) = True := (rfl)
theorem v_neg : negV (.int k x) = .int k (0 - x) := (rfl)
theorem p_neg : negP (.int k x) = RK k (0 - x) := (rfl)
theorem v_conv (k') : convV (some k') (.int k x) = .int k' x := (rfl)
theorem p_conv (k') : convP P t (some k') (.int k x) = ((P.underlying t).isSome = true ∧ RK k' x) := (rfl)
-- memory
theorem v_ixi : idxV (some (none, m)) (.ints xs) (.int k i) = .iptr [.int .i64 (ix xs i)] := (rfl)
theorem v_ixr : idxV (some (none, m)) (.rows rs) (.int k i) = .iptr [.ints (ix rs i)] := (rfl)
theorem v_ixs : idxV (some (none, m)) (.strs ss) (.int k i) = .iptr [.str (ix ss i)] := (rfl)
theorem v_ixb : idxV (some (none, m)) (.bools bs) (.int k i) = .iptr [.bool (ix bs i)] := (rfl)
theorem v_ixp : idxV (some (none, m)) (.pairs ps) (.int k i) = .iptr [.int .i64 (ix ps i).1, .int .i64 (ix ps i).2] := (rfl)
theorem v_ixu : idxV (some (none, m)) (.bytes us) (.int k i) = .iptr [.int .u8 (ix us i).toNat] := (rfl)
theorem v_ixsl : idxV (some (none, m)) (.sl r) (.int k i) = .pa r i := (rfl)
theorem v_ixmt : idxV (some (none, m)) (.mt r) (.int k i) = .po r i := (rfl)
theorem v_ixmr : idxV (some (none, m)) (.mr r j) (.int k i) = .pm r j i := (rfl)
theorem v_ixa : idxV (some (some n, m)) (.iptr cs) (.int k i) = .iptr (cs.drop (i.toNat * m)) := (rfl)
theorem p_ixi : idxP (some (none, 1)) kb (.ints xs) (.int k i) = (0 ≤ i ∧ i < xs.length) := by show (_ ∧ _ ∧ _) = _; simp [isLst, widthOf, lenOf]
theorem p_ixr : idxP (some (none, 1)) kb (.rows rs) (.int k i) = (0 ≤ i ∧ i < rs.length) := by show (_ ∧ _ ∧ _) = _; simp [isLst, widthOf, lenOf]
theorem p_ixs : idxP (some (none, 1)) kb (.strs ss) (.int k i) = (0 ≤ i ∧ i < ss.length) := by show (_ ∧ _ ∧ _) = _; simp [isLst, widthOf, lenOf]
theorem p_ixb : idxP (some (none, 1)) kb (.bools bs) (.int k i) = (0 ≤ i ∧ i < bs.length) := by show (_ ∧ _ ∧ _) = _; simp [isLst, widthOf, lenOf]
theorem p_ixp : idxP (some (none, 2)) kb (.pairs ps) (.int k i) = (0 ≤ i ∧ i < ps.length) := by show (_ ∧ _ ∧ _) = _; simp [isLst, widthOf, lenOf]
theorem p_ixu : idxP (some (none, 1)) kb (.bytes us) (.int k i) = (0 ≤ i ∧ i < us.length) := by show (_ ∧ _ ∧ _) = _; simp [isLst, widthOf, lenOf]
theorem p_ixsl (v) : idxP (some (none, m)) (some (.arr v)) (.sl r) (.int k i) = ((0 ≤ i ∧ i < lenOf v) ∧ widthOf v = m) := (rfl)
theorem p_ixmt : idxP (some (none, 1)) (some (.mat rs)) (.mt r) (.int k i) = (0 ≤ i ∧ i < rs.length) := by show (_ ∧ _) = _; simp
theorem p_ixmr : idxP (some (none, 1)) (some (.mat rs)) (.mr r j) (.int k i) = (0 ≤ i ∧ i < (ix rs j).length) := by show (_ ∧ _) = _; simp
theorem p_ixa : idxP (some (some n, m)) kb (.iptr cs) (.int k i) = ((0 ≤ i ∧ i < n) ∧ n * m ≤ cs.length) := (rfl)
theorem w_ints : widthOf (.ints xs) = 1 := (rfl)
theorem w_rows : widthOf (.rows rs) = 1 := (rfl)
theorem w_bools : widthOf (.bools bs) = 1 := (rfl)
theorem l_ints : lenOf (.ints xs) = xs.length := (rfl)
theorem l_rows : lenOf (.rows rs) = rs.length := (rfl)
theorem l_bools : lenOf (.bools bs) = bs.length := (rfl)
theorem l_strs : lenOf (.strs ss) = ss.length := (rfl)
theorem l_pairs : lenOf (.pairs ps) = ps.length := (rfl)
theorem e_ints : elemAt (.ints xs) i = .int .i64 (ix xs i) := (rfl)
theorem e_rows : elemAt (.rows rs) i = .ints (ix rs i) := (rfl)
theorem e_bools : elemAt (.bools bs) i = .bool (ix bs i) := (rfl)
theorem e_strs : elemAt (.strs ss) i = .str (ix ss i) := (rfl)
theorem a_int : isAgg1 (.int k i) = false := (rfl)
theorem a_ints : isAgg1 (.ints xs) = false := (rfl)
theorem a_bool : isAgg1 (.bool b) = false := (rfl)
theorem a_str : isAgg1 (.str s) = false := (rfl)
theorem v_ld1 : loadV .one kb (.iptr (c :: cs)) = c := (rfl)
theorem v_ldn : loadV (.agg n) kb (.iptr cs) = .agg (cs.take n) := (rfl)
theorem v_ldb1 : loadV .one (some (.box cs)) (.bx r n) = cs.getD n .undef := (rfl)
theorem v_ldbn : loadV (.agg m) (some (.box cs)) (.bx r n) = .agg ((cs.drop n).take m) := (rfl)
theorem v_lda (v) : loadV .one (some (.arr v)) (.pa r i) = elemAt v i := (rfl)
theorem v_ldm : loadV .one (some (.mat rs)) (.pm r i j) = .int .i64 (ix (ix rs i) j) := (rfl)
theorem v_ldo : loadV .one (some (.mat rs)) (.po r i) = .mr r i := (rfl)
theorem p_ld1 : loadP .one kb (.iptr (c :: cs)) = True := (rfl)
theorem p_ldn : loadP (.agg n) kb (.iptr cs) = (n ≤ cs.length) := (rfl)
theorem p_ldb1 : loadP .one (some (.box cs)) (.bx r n) = (n < cs.length) := (rfl)
theorem p_ldbn : loadP (.agg m) (some (.box cs)) (.bx r n) = (n + m ≤ cs.length) := (rfl)
theorem p_lda (v) : loadP .one (some (.arr v)) (.pa r i) = (isAgg1 (elemAt v i) = false) := (rfl)
theorem p_ldm : loadP .one (some (.mat rs)) (.pm r i j) = True := (rfl)
theorem p_ldo : loadP .one (some (.mat rs)) (.po r i) = True := (rfl)
theorem b_iptr : blkOf h (.iptr cs) = none := (rfl)
theorem b_bx : blkOf h (.bx r n) = h.look r := (rfl)
theorem b_sl : blkOf h (.sl r) = h.look r := (rfl)
theorem b_mt : blkOf h (.mt r) = h.look r := (rfl)
theorem b_mr : blkOf h (.mr r i) = h.look r := (rfl)
theorem b_pa : blkOf h (.pa r i) = h.look r := (rfl)
theorem b_pm : blkOf h (.pm r i j) = h.look r := (rfl)
theorem b_po : blkOf h (.po r i) = h.look r := (rfl)
theorem v_fld (d) : fieldV (some (n, d)) (.iptr cs) = .iptr (cs.drop n) := (rfl)
theorem p_fld (d) : fieldP (some (n, d)) kb (.iptr cs) = True := (rfl)
theorem v_fldb (d) : fieldV (some (n, d)) (.bx r m) = .bx r (m + n) := (rfl)
theorem p_fldb (d) : fieldP (some (n, d)) (some (.box cs)) (.bx r m) = (m + n ≤ cs.length) := (rfl)
theorem v_part1 : partV (some (n, .one)) (.agg cs) = cs.getD n .undef := (rfl)
theorem p_part1 : partP (some (n, .one)) (.agg cs) = (n < cs.length) := (rfl)
theorem v_partn : partV (some (n, .agg m)) (.agg cs) = .agg ((cs.drop n).take m) := (rfl)
theorem p_partn : partP (some (n, .agg m)) (.agg cs) = (n + m ≤ cs.length) := (rfl)
theorem v_ext : extractV n (.tup cs) = cs.getD n .undef := (rfl)
theorem p_ext : extractP n (.tup cs) = (n < cs.length) := (rfl)
theorem getD_0 : (c :: cs).getD 0 .undef = c := (rfl)
theorem getD_s : (c :: cs).getD (n + 1) .undef = cs.getD n .undef := (rfl)
theorem v_leni : lenV kb (.ints xs) = .int .i64 xs.length := (rfl)
theorem v_lenr : lenV kb (.rows rs) = .int .i64 rs.length := (rfl)
theorem v_lens : lenV kb (.strs ss) = .int .i64 ss.length := (rfl)
theorem v_lenb : lenV kb (.bools bs) = .int .i64 bs.length := (rfl)
theorem v_lenp : lenV kb (.pairs ps) = .int .i64 ps.length := (rfl)
theorem v_lenu : lenV kb (.bytes us) = .int .i64 us.length := (rfl)
theorem v_lenstr : lenV kb (.str s) = .int .i64 s.size := (rfl)
theorem v_lennil : lenV kb .nils = .int .i64 0 := (rfl)
theorem v_lensl (v) : lenV (some (.arr v)) (.sl r) = .int .i64 (lenOf v) := (rfl)
theorem v_lenmt : lenV (some (.mat rs)) (.mt r) = .int .i64 rs.length := (rfl)
theorem v_lenmr : lenV (some (.mat rs)) (.mr r i) = .int .i64 (ix rs i).length := (rfl)
theorem p_leni : lenP P t kb (.ints xs) = isSl P t := (rfl)
theorem p_lenr : lenP P t kb (.rows rs) = isSl P t := (rfl)
theorem p_lens : lenP P t kb (.strs ss) = isSl P t := (rfl)
theorem p_lenb : lenP P t kb (.bools bs) = isSl P t := (rfl)
theorem p_lenp : lenP P t kb (.pairs ps) = isSl P t := (rfl)
theorem p_lenu : lenP P t kb (.bytes us) = isSl P t := (rfl)
theorem p_lenstr : lenP P t kb (.str s) = (P.underlying t = some .string) := (rfl)
theorem p_lennil : lenP P t kb .nils = isSl P t := (rfl)
theorem p_lensl (v) : lenP P t (some (.arr v)) (.sl r) = isSl P t := (rfl)
theorem p_lenmt : lenP P t (some (.mat rs)) (.mt r) = isSl P t := (rfl)
theorem p_lenmr : lenP P t (some (.mat rs)) (.mr r i) = isSl P t := (rfl)
theorem v_sidx : sidxV (.str s) (.int k i) = .int .u8 (byteAt s i).toNat := (rfl)
theorem p_sidx : sidxP P t (.str s) (.int k i) = (P.underlying t = some .string ∧ 0 ≤ i ∧ i < s.size) := (rfl)
theorem v_min : minmaxV .min (.int k x) (.int k y) = .int k (min x y) := (rfl)
theorem v_max : minmaxV .max (.int k x) (.int k y) = .int k (max x y) := (rfl)
theorem p_min : minmaxP .min (.int k x) (.int k y) = True := (rfl)
theorem p_max : minmaxP .max (.int k x) (.int k y) = True := (rfl)
-- purity
theorem pu_int : AV.pureB (.int k x) = true := (rfl)
theorem pu_bool : AV.pureB (.bool b) = true := (rfl)
theorem pu_str : AV.pureB (.str s) = true := (rfl)
theorem pu_ints : AV.pureB (.ints xs) = true := (rfl)
theorem pu_rows : AV.pureB (.rows rs) = true := (rfl)
theorem pu_strs : AV.pureB (.strs ss) = true := (rfl)
theorem pu_bools : AV.pureB (.bools bs) = true := (rfl)
theorem pu_pairs : AV.pureB (.pairs ps) = true := (rfl)
theorem pu_bytes : AV.pureB (.bytes us) = true := (rfl)
theorem pu_iptr : AV.pureB (.iptr cs) = true := (rfl)
theorem pu_nils : AV.pureB .nils = true := (rfl)
theorem pu_tt : AV.pureB .tt = true := (rfl)
theorem pu_ff : AV.pureB .ff = true := (rfl)
theorem pu_agg : AV.pureB (.agg cs) = cs.all AV.pure1 := (rfl)
theorem pu_tup : AV.pureB (.tup cs) = cs.all AV.pure1 := (rfl)
theorem pu_fn (f) : AV.pureB (.fn f cs) = cs.all AV.pure1 := (rfl)
theorem p1_int : AV.pure1 (.int k x) = true := (rfl)
theorem p1_bool : AV.pure1 (.bool b) = true := (rfl)
theorem p1_str : AV.pure1 (.str s) = true := (rfl)
theorem p1_ints : AV.pure1 (.ints xs) = true := (rfl)
theorem p1_rows : AV.pure1 (.rows rs) = true := (rfl)
theorem p1_strs : AV.pure1 (.strs ss) = true := (rfl)
theorem p1_bools : AV.pure1 (.bools bs) = true := (rfl)
theorem p1_nils : AV.pure1 .nils = true := (rfl)
theorem p1_iptr : AV.pure1 (.iptr cs) = true := (rfl)
theorem c_agg : AV.cells (.agg cs) = cs := (rfl)
theorem c_int : AV.cells (.int k x) = [.int k x] := (rfl)
theorem c_ints : AV.cells (.ints xs) = [.ints xs] := (rfl)
theorem c_rows : AV.cells (.rows rs) = [.rows rs] := (rfl)
theorem c_bool : AV.cells (.bool b) = [.bool b] := (rfl)
theorem c_str : AV.cells (.str s) = [.str s] := (rfl)
theorem c_nils : AV.cells .nils = [.nils] := (rfl)
theorem u_agg : AV.isUndef (.agg cs) = false := (rfl)
theorem u_int : AV.isUndef (.int k x) = false := (rfl)
theorem u_ints : AV.isUndef (.ints xs) = false := (rfl)
theorem u_rows : AV.isUndef (.rows rs) = false := (rfl)
theorem u_bool : AV.isUndef (.bool b) = false := (rfl)
theorem u_str : AV.isUndef (.str s) = false := (rfl)
theorem u_nils : AV.isUndef .nils = false := (rfl)
-- freezing
variable (φ : AV → AV) (H : HF) (keep : Nat → Bool)
theorem tr_int : AV.tr φ (.int k x) = .int k x := (rfl)
theorem tr_bool : AV.tr φ (.bool b) = .bool b := (rfl)
theorem tr_str : AV.tr φ (.str s) = .str s := (rfl)
theorem tr_ints : AV.tr φ (.ints xs) = .ints xs := (rfl)
theorem tr_rows : AV.tr φ (.rows rs) = .rows rs := (rfl)
theorem tr_strs : AV.tr φ (.strs ss) = .strs ss := (rfl)
theorem tr_bools : AV.tr φ (.bools bs) = .bools bs := (rfl)
theorem tr_pairs : AV.tr φ (.pairs ps) = .pairs ps := (rfl)
theorem tr_bytes : AV.tr φ (.bytes us) = .bytes us := (rfl)
theorem tr_nils : AV.tr φ .nils = .nils := (rfl)
theorem tr_nilI : AV.tr φ .nilI = .nilI := (rfl)
theorem tr_undef : AV.tr φ .undef = .undef := (rfl)
theorem tr_skipd : AV.tr φ .skipd = .skipd := (rfl)
theorem tr_tt : AV.tr φ .tt = .tt := (rfl)
theorem tr_ff : AV.tr φ .ff = .ff := (rfl)
theorem tr_iptr : AV.tr φ (.iptr cs) = .iptr cs := (rfl)
theorem tr_agg : AV.tr φ (.agg cs) = .agg (AV.trL φ cs) := (rfl)
theorem tr_tup : AV.tr φ (.tup cs) = .tup (AV.trL φ cs) := (rfl)
theorem tr_fn (f) : AV.tr φ (.fn f cs) = .fn f (AV.trL φ cs) := (rfl)
theorem tr_sl : AV.tr φ (.sl r) = φ (.sl r) := (rfl)
theorem tr_mt : AV.tr φ (.mt r) = φ (.mt r) := (rfl)
theorem tr_mr : AV.tr φ (.mr r i) = φ (.mr r i) := (rfl)
theorem tr_bx : AV.tr φ (.bx r n) = φ (.bx r n) := (rfl)
theorem trL_nil : AV.trL φ [] = [] := (rfl)
theorem trL_cons : AV.trL φ (c :: cs) = AV.tr φ c :: AV.trL φ cs := (rfl)
def contSl (k : Option Blk) : AV := match k with | some (.arr v) => v | _ => .undef
def contMt (k : Option Blk) : AV := match k with | some (.mat v) => .rows v | _ => .undef
theorem frzA_sl : frzA keep H (.sl r) = bif keep r then .sl r else contSl (H r) := (rfl)
theorem frzA_mt : frzA keep H (.mt r) = bif keep r then .mt r else contMt (H r) := (rfl)
theorem frzA_bx : frzA keep H (.bx r n) = bif keep r then .bx r n else .undef := (rfl)
theorem contSl_some (v) : contSl (some (.arr v)) = v := (rfl)
theorem contMt_some : contMt (some (.mat rs)) = .rows rs := (rfl)
theorem keeps_eq : keeps h r = (h.look r).isSome := (rfl)
theorem btr_box : Blk.tr φ (.box cs) = .box (AV.trL φ cs) := (rfl)
theorem btr_arr (v) : Blk.tr φ (.arr v) = .arr v := (rfl)
theorem btr_mat : Blk.tr φ (.mat rs) = .mat rs := (rfl)
theorem coB_box (ds) : CoB (.box cs) (.box ds) = CoL cs ds := (rfl)
theorem coB_arr (v u) : CoB (.arr v) (.arr u) = (v = u) := (rfl)
theorem coB_mat (rs') : CoB (.mat rs) (.mat rs') = (rs = rs') := (rfl)
theorem coO_some (k k') : CoO (some k) φ k' = CoB (k.tr φ) k' := (rfl)
theorem wenv_nil : WEnv φ e [] = True := (rfl)
theorem wenv_cons (q v e') : WEnv φ e ((q, v) :: e') = (Co ((e.get q).tr φ) v ∧ WEnv φ e e') := (rfl)
theorem wheap_nil : WHeap φ h n [] = True := (rfl)
theorem wheap_cons (q v h') : WHeap φ h n ((q, v) :: h') = ((CoO (h.look q) φ v ∧ q < n) ∧ WHeap φ h n h') := (rfl)
theorem weak_eq (e' h') : Weak e h e' h' n = (WEnv (frzA (keeps h') h.look) e e' ∧ WHeap (frzA (keeps h') h.look) h n h') := (rfl)
theorem co_int (v) : Co (.int k x) v = (AV.int k x = v) := by simp [Co]
theorem co_bool (v) : Co (.bool b) v = (AV.bool b = v) := by simp [Co]
theorem co_str (v) : Co (.str s) v = (AV.str s = v) := by simp [Co]
theorem co_ints (v) : Co (.ints xs) v = (AV.ints xs = v) := by simp [Co]
theorem co_rows (v) : Co (.rows rs) v = (AV.rows rs = v) := by simp [Co]
theorem co_strs (v) : Co (.strs ss) v = (AV.strs ss = v) := by simp [Co]
theorem co_bools (v) : Co (.bools bs) v = (AV.bools bs = v) := by simp [Co]
theorem co_pairs (v) : Co (.pairs ps) v = (AV.pairs ps = v) := by simp [Co]
theorem co_bytes (v) : Co (.bytes us) v = (AV.bytes us = v) := by simp [Co]
theorem co_iptr (v) : Co (.iptr cs) v = (AV.iptr cs = v) := by simp [Co]
theorem co_fn (f v) : Co (.fn f cs) v = (AV.fn f cs = v) := by simp [Co]
theorem co_sl (v) : Co (.sl r) v = (AV.sl r = v) := by simp [Co]
theorem co_mt (v) : Co (.mt r) v = (AV.mt r = v) := by simp [Co]
theorem co_bx (v) : Co (.bx r n) v = (AV.bx r n = v) := by simp [Co]
theorem co_agg (ds) : Co (.agg cs) (.agg ds) = CoL cs ds := by simp [Co]
theorem co_tup (ds) : Co (.tup cs) (.tup ds) = CoL cs ds := by simp [Co]
theorem co_nili : Co .nils (.ints xs) = (xs = []) := by simp [Co]
theorem co_nilr : Co .nils (.rows rs) = (rs = []) := by simp [Co]
theorem co_nils : Co .nils (.strs ss) = (ss = []) := by simp [Co]
theorem co_nilp : Co .nils (.pairs ps) = (ps = []) := by simp [Co]
theorem co_nn : Co .nils .nils = True := by simp [Co]
theorem co_tt : Co .tt (.bool b) = (b = true) := by simp [Co]
theorem co_ff : Co .ff (.bool b) = (b = false) := by simp [Co]
theorem coL_nil : CoL [] [] = True := by simp [CoL]
theorem coL_cons (d ds) : CoL (c :: cs) (d :: ds) = (Co c d ∧ CoL cs ds) := by simp [CoL]
theorem retA_eq (rs val new) : retA P rs val new e h = (resPL P e h rs ∧ Co ((tupOf (resL P e h rs)).tr (frzA (keeps new) h.look)) val ∧ ∃ n', WHeap (frzA (keeps new) h.look) h n' new) := (rfl)
theorem resPL_nil : resPL P e h [] = True := (rfl)
theorem resPL_tmp (l) : resPL P e h (.tmp t :: l) = resPL P e h l := by show (True ∧ _) = _; simp
theorem resPL_cell (a l) : resPL P e h (.cell a t :: l) = (loadP (td P t) (blkOf h (e.get a)) (e.get a) ∧ resPL P e h l) := (rfl)
theorem resL_nil : resL P e h [] = [] := (rfl)
theorem resL_tmp (l) : resL P e h (.tmp t :: l) = e.get t :: resL P e h l := (rfl)
theorem resL_cell (a l) : resL P e h (.cell a t :: l) = loadV (td P t) (blkOf h (e.get a)) (e.get a) :: resL P e h l := (rfl)
theorem envOf_nil : envOf n [] = [] := (rfl)
theorem envOf_cons : envOf n (c :: cs) = (n, c) :: envOf (n + 1) cs := (rfl)
theorem tupOf_1 : tupOf [c] = c := (rfl)
theorem tupOf_2 (d) : tupOf (c :: d :: cs) = .tup (c :: d :: cs) := (rfl)
theorem tupOf_0 : tupOf [] = .tup [] := (rfl)
-- stores
theorem st_bx1 (d) : storeR .one (some (.box cs)) (.bx r n) d e h = ⟨n + d.cells.length ≤ cs.length ∧ d.cell1 = true, e, hset h r (.box (setCells cs n d.cells))⟩ := (rfl)
theorem st_bxn (ds) : storeR (.agg m) (some (.box cs)) (.bx r n) (.agg ds) e h = ⟨n + ds.length ≤ cs.length ∧ (isAgg1 (.agg ds) = true ∧ ds.length = m) ∧ ds.all AV.cell1 = true, e, hset h r (.box (setCells cs n ds))⟩ := (rfl)
theorem st_pai : storeR .one (some (.arr (.ints xs))) (.pa r i) (.int .i64 x) e h = ⟨True, e, hset h r (.arr (.ints (xs.set i.toNat x)))⟩ := (rfl)
theorem st_pab : storeR .one (some (.arr (.bools bs))) (.pa r i) (.bool b) e h = ⟨True, e, hset h r (.arr (.bools (bs.set i.toNat b)))⟩ := (rfl)
theorem st_par : storeR .one (some (.arr (.rows rs))) (.pa r i) (.ints xs) e h = ⟨True, e, hset h r (.arr (.rows (rs.set i.toNat xs)))⟩ := (rfl)
theorem st_pm : storeR .one (some (.mat rs)) (.pm r i j) (.int .i64 x) e h = ⟨True, e, hset h r (.mat (rs.set i.toNat ((ix rs i).set j.toNat x)))⟩ := (rfl)
theorem hset_cons (q v w) : hset ((q, v) :: h) r w = if q = r then (q, w) :: h else (q, v) :: hset h r w := (rfl)
end

theorem bndV_s (d : Int) (k n) : bndV d (some (.int k n)) = n := (rfl)
theorem bndV_n (d : Int) : bndV d none = d := (rfl)
theorem bndP_s (k n) : bndP (some (.int k n)) = True := (rfl)
theorem bndP_n : bndP none = True := (rfl)
theorem v_cuti (xs lo hi) : sliceV (.ints xs) lo hi = .ints (cutL xs (bndV 0 lo) (bndV xs.length hi)) := (rfl)
theorem v_cutr (xs lo hi) : sliceV (.rows xs) lo hi = .rows (cutL xs (bndV 0 lo) (bndV xs.length hi)) := (rfl)
theorem v_cuts (xs lo hi) : sliceV (.strs xs) lo hi = .strs (cutL xs (bndV 0 lo) (bndV xs.length hi)) := (rfl)
theorem v_cutstr (s : ByteArray) (lo hi) : sliceV (.str s) lo hi = .str (s.extract (bndV 0 lo).toNat (bndV s.size hi).toNat) := (rfl)
theorem p_cuti (P t xs lo hi) : sliceP P t (.ints xs) lo hi = (((bndP lo ∧ bndP hi) ∧ ed P t = some (none, 1)) ∧ isSl P t ∧ 0 ≤ bndV 0 lo ∧ bndV 0 lo ≤ bndV xs.length hi ∧ bndV xs.length hi ≤ xs.length) := (rfl)
theorem p_cutr (P t xs lo hi) : sliceP P t (.rows xs) lo hi = (((bndP lo ∧ bndP hi) ∧ ed P t = some (none, 1)) ∧ isSl P t ∧ 0 ≤ bndV 0 lo ∧ bndV 0 lo ≤ bndV xs.length hi ∧ bndV xs.length hi ≤ xs.length) := (rfl)
theorem p_cuts (P t xs lo hi) : sliceP P t (.strs xs) lo hi = (((bndP lo ∧ bndP hi) ∧ ed P t = some (none, 1)) ∧ isSl P t ∧ 0 ≤ bndV 0 lo ∧ bndV 0 lo ≤ bndV xs.length hi ∧ bndV xs.length hi ≤ xs.length) := (rfl)
theorem p_cutstr (P t) (s : ByteArray) (lo hi) : sliceP P t (.str s) lo hi = ((bndP lo ∧ bndP hi) ∧ P.underlying t = some .string ∧ 0 ≤ bndV 0 lo ∧ bndV 0 lo ≤ bndV s.size hi ∧ bndV s.size hi ≤ s.size) := (rfl)

/-- The ways part on a proposition. -/
def forkP (p A B : Prop) : Prop := (p → A) ∧ (¬p → B)
theorem partB_dec (p : Prop) [Decidable p] (A B) : partB (decide p) A B = forkP p A B := by
  by_cases h : p <;> simp [partB, forkP, h]
theorem partB_not (b : Bool) (A B) : partB (!b) A B = partB b B A := by cases b <;> simp [partB]
theorem fork_intro {p A B : Prop} (h1 : p → A) (h2 : ¬p → B) : forkP p A B := ⟨h1, h2⟩

/-! ### Contracts that make nothing to be written -/
def pureC (g : List AV → Prop × AV) : Contract := fun a _ => ((g a).1, (g a).2, [])
theorem pureC_eq (g a n) : pureC g a n = ((g a).1, (g a).2, []) := (rfl)
theorem TabOK.nil (P : Program) : TabOK P [] := ⟨TableOK.nil _, fun _ _ h => by cases h⟩
theorem TabOK.pure {P : Program} {C : Table} {f : FuncId} {fn : Func} {g : List AV → Prop × AV} (hf : P.funcs[f]? = some fn) (hb : (fn.body.isSome && !(fn.name == "runtime.NumGoroutine")) = true)
    (h : ∀ args, (g args).1 → SpecOK P f args (g args).2 []) (hC : TabOK P C) : TabOK P ((f, pureC g) :: C) := by
  refine ⟨TableOK.cons (fun args n hp => ⟨h args hp, fun r hr => (hr rfl).elim⟩) hC.spec, fun q c hm => ?_⟩
  cases hm with
  | head =>
    simp only [Bool.and_eq_true, Bool.not_eq_true'] at hb
    exact ⟨fn, hf, hb.1, hb.2⟩
  | tail _ hm => exact hC.call q c hm

/-! ### A law -/
theorem SpecOK.below {P : Program} {f : FuncId} {args : List AV} (h : SpecOK P f args (.bool true) []) {S : Store} {w : World} {cargs : Array Value} (hS : StoreIn S w) (hsz : cargs.size = args.length)
    (hargs : ∀ (j : Nat) x v, args[j]? = some x → cargs[j]? = some v → Sees S x v) : Calls P f cargs w fun e w' => e = .returned (.bool true) ∧ Below w.heap.size w w' := by
  refine (h S w cargs hS hsz hargs).mono ?_
  rintro e w' ⟨cv, S', ρ', rfl, _, _, _, hk, hv⟩
  exact ⟨by rw [hv.bool_inv], ⟨hk.os, hk.tape, hk.output, hk.size, fun k hb => hk.block k hb (by omega)⟩⟩
/-- All that is there. -/
def allS (w : World) : Store := fun b => match w.heap[b]? with
  | some (.cells c _ _) => some c
  | _ => none
theorem allS_in (w : World) : StoreIn (allS w) w := by
  intro b c hb
  unfold allS at hb
  split at hb
  · rename_i c' el fr he; cases hb; exact ⟨el, fr, he⟩
  · cases hb

/-! ### Loops -/
/-- At a round's end. -/
def LoopEnd {G : Type} (E : G → Env) (Hp : G → Heap) (N : Nat) (φ : G → Prop) (μ : G → Nat) (m : Nat) (e : Env) (h : Heap) (n : Nat) : Prop :=
  WeakTo (fun e h n => ∃ m', m' < m ∧ ∃ g, φ g ∧ μ g = m' ∧ e = E g ∧ h = Hp g ∧ n = N) e h n
theorem LoopEnd.intro {G : Type} {E : G → Env} {Hp : G → Heap} {N : Nat} {φ : G → Prop} {μ : G → Nat} {m : Nat} {e : Env} {h : Heap} {n : Nat} (g : G) (hφ : φ g) (hμ : μ g < m) (hw : Weak e h (E g) (Hp g) N) : LoopEnd E Hp N φ μ m e h n :=
  ⟨_, _, _, hw, _, hμ, g, hφ, rfl, rfl, rfl, rfl⟩
/-- A loop: the state at its head as a function of some ghost. -/
theorem loop_intro {P : Program} {C : Table} {hint : Hint} {b : Code} {Q : AQ} {e : Env} {h : Heap} {n : Nat} {G : Type} (E : G → Env) (Hp : G → Heap) (N : Nat) (φ : G → Prop) (μ : G → Nat) (g0 : G) (h0 : φ g0) (hw : Weak e h (E g0) (Hp g0) N)
    (hr : ∀ g, φ g → codeA P C hint b (thenA (LoopEnd E Hp N φ μ (μ g)) Q) (E g) (Hp g) N) : loopA (codeA P C hint b) Q e h n := by
  refine ⟨fun m e h n => ∃ g, φ g ∧ μ g = m ∧ e = E g ∧ h = Hp g ∧ n = N, μ g0, ⟨_, _, _, hw, g0, h0, rfl, rfl, rfl, rfl⟩, ?_⟩
  rintro m e h n ⟨g, hg, rfl, rfl, rfl, rfl⟩
  exact hr g hg
end Go.Vc
