/- An abstract run of the model's code, with proofs that it is sound: whatever order a region draws, whatever capacity an append draws. Conditions: none. Part four. -/
import Derived.Test.YteefjdbdknkcjaaGreatDoorVcC
import Derived.Carry
import Derived.ChangeSlices
import Derived.Deep.Matrix
import Derived.Lib.SmallJoins
set_option linter.unusedSimpArgs false
set_option linter.unusedVariables false
namespace Go.Vc
open Go.RowKit
def envOf : Nat -> List AV -> Env
  | _, [] => []
  | i, v :: l => (i, v) :: envOf (i + 1) l
def resV (P : Program) (e : Env) (h : Heap) : ResultVar -> AV
  | .tmp t => e.get t
  | .cell a t => loadV (td P t) (blkOf h (e.get a)) (e.get a)
def resP (P : Program) (e : Env) (h : Heap) : ResultVar -> Prop
  | .tmp _ => True
  | .cell a t => loadP (td P t) (blkOf h (e.get a)) (e.get a)
def resL (P : Program) (e : Env) (h : Heap) : List ResultVar -> List AV
  | [] => []
  | r :: l => resV P e h r :: resL P e h l
def resPL (P : Program) (e : Env) (h : Heap) : List ResultVar -> Prop
  | [] => True
  | r :: l => resP P e h r /\ resPL P e h l
def tupOf : List AV -> AV
  | [v] => v
  | vs => .tup vs
def retA (P : Program) (rs : List ResultVar) (val : AV) (new : Heap) (e : Env) (h : Heap) : Prop :=
  resPL P e h rs /\ Co ((tupOf (resL P e h rs)).tr (frzA (keeps new) h.look)) val /\ ∃ n', WHeap (frzA (keeps new) h.look) h n' new
def endA (P : Program) (rs : List ResultVar) (val : AV) (new : Heap) : AQ
  | .normal, e, h, _ => retA P rs val new e h
  | .ret, e, h, _ => retA P rs val new e h
  | _, _, _, _ => False
def funA (P : Program) (C : Table) (hint : Hint) (c : Code) (rs : List ResultVar) (args : List AV) (val : AV) (new : Heap) : Prop :=
  codeA P C hint c (endA P rs val new) (envOf 0 args) [] 0
theorem envOf_get (l : List AV) : ∀ (i t : Nat), (envOf i l).get t = if i <= t then (match l[t - i]? with | some v => v | none => .undef) else .undef := by
  induction l with
  | nil => intro i t; simp [envOf, Env.get]
  | cons v l ih =>
    intro i t
    simp only [envOf, Env.get]
    by_cases h : i = t
    · subst h; simp
    · rw [if_neg h, ih]
      by_cases h1 : i + 1 <= t
      · rw [if_pos h1, if_pos (by omega)]
        have : t - i = (t - (i + 1)) + 1 := by omega
        rw [this]; simp
      · rw [if_neg h1, if_neg (by omega)]
def resS (tmps : Array Value) : ResultVar -> Sem Value
  | .tmp t => pure (tmps.getD t Go.undef)
  | .cell q t => do loadVar t (<- asAddr (tmps.getD q Go.undef))
theorem results_eq (fn : Func) (tmps : Array Value) : results fn tmps = (do let vs <- fn.results.mapM (resS tmps); pure (if h : vs.size = 1 then vs[0] else .tuple vs)) := by
  unfold results
  congr 2
section
variable {P : Program} {C : Table} {hint : Hint}
theorem results_ok {S : Store} {ρ : Rho} {h : Heap} {own : Nat -> Prop} {e : Env} {a : Act} {w : World} (hrel : Rel own S ρ h.look w) (hE : EnvRel S ρ h.look e a) : ∀ (rs : List ResultVar), resPL P e h rs ->
    ∃ vs : List Value, (rs.mapM (resS a.tmps)).run P w = .ok vs w /\ vs.length = rs.length /\
      ∀ (j : Nat) x v, (resL P e h rs)[j]? = some x -> vs[j]? = some v -> V S ρ h.look x v
  | [], _ => ⟨[], by simp, rfl, fun j x v h => by simp [resL] at h⟩
  | r :: rs, hp => by
    obtain ⟨hp1, hp2⟩ := hp
    obtain ⟨vs, hr, hl, hv⟩ := results_ok hrel hE rs hp2
    have one : ∃ u, (resS a.tmps r).run P w = .ok u w /\ V S ρ h.look (resV P e h r) u := by
      cases r with
      | tmp t => exact ⟨_, rfl, hE t⟩
      | cell q t =>
        obtain ⟨u, hu, hv⟩ := load_ok (hF := h.look) (fun _ _ h => h) (fun _ _ h => h) hrel hp1 (hE q)
        refine ⟨u, ?_, hv⟩
        have hptr : ∃ b o, a.tmps.getD q Go.undef = .pointer (some ⟨b, o, none⟩) := by
          have hvq := hE q
          have hp1 : loadP (td P t) (blkOf h (e.get q)) (e.get q) := hp1
          unfold loadP at hp1
          split at hp1
          · rename_i c cs hc; rw [hc] at hvq; obtain ⟨b, o, _, h1, _⟩ := hvq.iptr_inv; exact ⟨b, o, h1⟩
          · rename_i m cs hc; rw [hc] at hvq; obtain ⟨b, o, _, h1, _⟩ := hvq.iptr_inv; exact ⟨b, o, h1⟩
          · rename_i r0 off cs hc _; rw [hc] at hvq; obtain ⟨_, h1, _⟩ := hvq.bx_inv; exact ⟨_, _, h1⟩
          · rename_i m r0 off cs hc _; rw [hc] at hvq; obtain ⟨_, h1, _⟩ := hvq.bx_inv; exact ⟨_, _, h1⟩
          · rename_i r0 i v hc _; rw [hc] at hvq; obtain ⟨_, _, _, h1, _⟩ := hvq.pa_inv; exact ⟨_, _, h1⟩
          · rename_i m r0 i v hc _; rw [hc] at hvq; obtain ⟨_, _, _, h1, _⟩ := hvq.pa_inv; exact ⟨_, _, h1⟩
          · rename_i r0 i j xss hc _; rw [hc] at hvq; obtain ⟨_, _, h1, _⟩ := hvq.pm_inv; exact ⟨_, _, h1⟩
          · rename_i r0 i xss hc _; rw [hc] at hvq; obtain ⟨_, h1, _⟩ := hvq.po_inv; exact ⟨_, _, h1⟩
          · exact hp1.elim
        obtain ⟨b, o, hbo⟩ := hptr
        rw [hbo] at hu
        show (do loadVar t (<- asAddr (a.tmps.getD q Go.undef)) : Sem Value).run P w = _
        rw [hbo]
        simpa [Instr.loadAt, Instr.sureAddr, asAddr] using hu
    obtain ⟨u, hu, hvu⟩ := one
    refine ⟨u :: vs, ?_, by simp [hl], fun j x v hx hv' => ?_⟩
    · rw [List.mapM_cons]
      simp only [Sem.run_bind, hu, Result.andThen_ok, hr, Sem.run_pure]
    · cases j with
      | zero => simp [resL] at hx hv'; subst hx; subst hv'; exact hvu
      | succ j => simp [resL] at hx hv'; exact hv j x v hx hv'
theorem ret_ok {fn : Func} {val : AV} {new : Heap} {x : Cx} {e : Env} {hp : Heap} {n : Nat} {a : Act} {w' : World} (hr : retA P fn.results.toList val new e hp) (hs : Sat x e hp n a w') :
    a.defers = [] /\ ∃ v, (results fn a.tmps).run P w' = .ok v w' /\ ∃ S' ρ', Rel x.own S' ρ' new.look w' /\ x.S0.le S' /\ (∀ b, x.S0 b = none -> S' b ≠ none -> x.own b) /\ Kept x.own x.W w' /\ V S' ρ' new.look val v /\ RhoFix x.n0 x.ρ0 ρ' new.look := by
  obtain ⟨r1, r2, n', r3⟩ := hr
  obtain ⟨S1, ρ, s1, s2, s3, sf, s4, s5, s6, s7, s8, s9⟩ := hs
  obtain ⟨vs, hr, hlen, hv⟩ := results_ok s3 s4 fn.results.toList r1
  refine ⟨s7, (if h : vs.toArray.size = 1 then vs.toArray[0] else .tuple vs.toArray), ?_, ?_⟩
  · rw [results_eq, Sem.run_bind, Array.mapM_eq_mapM_toList, Sem.run_map, hr]
    simp only [Result.andThen_ok, Sem.run_pure]
  · have htup : V S1 ρ hp.look (tupOf (resL P e hp fn.results.toList)) (if h : vs.toArray.size = 1 then vs.toArray[0] else .tuple vs.toArray) := by
      have hlr : (resL P e hp fn.results.toList).length = fn.results.toList.length := by
        generalize fn.results.toList = l
        induction l with
        | nil => rfl
        | cons r l ih => simp [resL, ih]
      by_cases h1 : vs.length = 1
      · obtain ⟨v0, rfl⟩ := List.length_eq_one_iff.1 h1
        obtain ⟨u0, hu0⟩ := List.length_eq_one_iff.1 (show (resL P e hp fn.results.toList).length = 1 by rw [hlr, <- hlen]; rfl)
        rw [hu0] at hv ⊢
        simp only [List.size_toArray, List.length_singleton, dif_pos]
        exact hv 0 u0 v0 rfl rfl
      · rw [dif_neg (by simpa using h1)]
        have : tupOf (resL P e hp fn.results.toList) = .tup (resL P e hp fn.results.toList) := by
          rw [<- hlen] at hlr
          generalize resL P e hp fn.results.toList = l at hlr
          match l with
          | [] => rfl
          | [u] => exact absurd (by simpa using hlr.symm) h1
          | _ :: _ :: _ => rfl
        rw [this]
        exact .tup _ _ (by simp [hlr, hlen]) (fun j y v hy hv' => hv j y v hy (by simpa using hv'))
    obtain ⟨S', f1, f2, f3, f4⟩ := freeze s3 (keeps new)
    have hh := WHeap.spec r3
    have b1 : ∀ r k, frzH (keeps new) hp.look r = some k -> ∃ k2, new.look r = some k2 /\ BW k k2 := fun r k hr => by
      obtain ⟨hk, k0, hk0, rfl⟩ := frzH_some hr
      obtain ⟨k2, hk2⟩ := Option.isSome_iff_exists.1 hk
      obtain ⟨⟨k1, hk1, hc⟩, _⟩ := hh r k2 hk2
      rw [hk0] at hk1; cases hk1
      exact ⟨k2, hk2, hc.bw⟩
    have b2 : ∀ r k2, new.look r = some k2 -> ∃ k, frzH (keeps new) hp.look r = some k /\ BW k k2 := fun r k2 hr => by
      obtain ⟨⟨k1, hk1, hc⟩, _⟩ := hh r k2 hr
      exact ⟨_, by rw [frzH_keep (by simp [keeps, hr]), hk1]; rfl, hc.bw⟩
    refine ⟨S', ρ, f3.weak b1 b2, fun b c hb => f1 b c (s1 b c hb), fun b h1 h2 => ?_, s5, Co.ent _ _ r2 _ _ _ _ ((f4 _ _ htup).weak b1), sf.look (fun r hr => ?_)⟩
    · by_cases hS1 : S1 b = none
      · exact f2 b hS1 h2
      · exact s2 b h1 hS1
    · obtain ⟨k2, hk2⟩ := Option.ne_none_iff_exists'.1 hr
      obtain ⟨⟨k1, hk1, _⟩, _⟩ := hh r k2 hk2
      rw [hk1]; simp
theorem endA_ret' {rs : List ResultVar} {val : AV} {new : Heap} {ex : Exit} {e : Env} {h : Heap} {n : Nat} (hq : endA P rs val new ex e h n) : (ex = .normal \/ ex = .ret) /\ retA P rs val new e h := by
  cases ex with
  | normal => exact ⟨.inl rfl, hq⟩
  | ret => exact ⟨.inr rfl, hq⟩
  | exit i => exact hq.elim
  | goto l => exact hq.elim
  | panic ch => exact hq.elim
  | outgrown => exact hq.elim
theorem fun_ok (hT : TabOK P C) (hm : P.follows .mixedOrders = true) {f : FuncId} {fn : Func} {c : Code} (hf : P.funcs[f]? = some fn) (hb : fn.body = some c) {args : List AV} {val : AV} {new : Heap} (hk : codeOK hint fn.ntmps c = true)
    (hl0 : Nat.ble args.length fn.ntmps = true) (h : funA P C hint c fn.results.toList args val new) : SpecOK P f args val new := by
  have hl := Nat.le_of_ble_eq_true hl0
  intro S w cargs hS hsz hargs
  refine calls_of_wp hf hb ?_
  let x : Cx := ⟨w, fun b => w.heap.size <= b, fn.ntmps, S, 0, ⟨fun _ _ => 0, fun _ => 0, fun _ _ => 0⟩, fun b hb => hb⟩
  have hsat : Sat x (envOf 0 args) [] 0 { tmps := cargs ++ Array.replicate (fn.ntmps - cargs.size) Go.undef, defers := [] } w := by
    let ρ : Rho := ⟨fun _ _ => 0, fun _ => 0, fun _ _ => 0⟩
    refine ⟨S, ρ, fun _ _ h => h, fun b h1 h2 => absurd h1 h2, ⟨hS.2, hS.1, fun r k hr => (by cases hr), fun r j hf => hf.elim, fun r j r' j' hf => hf.elim⟩, fun r h1 _ => absurd h1 (Nat.not_lt_zero _), fun t => ?_, Kept.refl _ _, (by show (cargs ++ Array.replicate (fn.ntmps - cargs.size) Go.undef).size = fn.ntmps; simp; omega), rfl, fun r hr => (hr rfl).elim, Nat.le_refl _⟩
    rw [envOf_get]
    simp only [Nat.zero_le, if_true, Nat.sub_zero]
    cases ht : args[t]? with
    | none => exact .pure _ _ (.undef _)
    | some v =>
      have hlt : t < cargs.size := by rw [hsz]; exact (List.getElem?_eq_some_iff.1 ht).1
      have e1 : (cargs ++ Array.replicate (fn.ntmps - cargs.size) Go.undef).getD t Go.undef = cargs[t] := by
        rw [Array.getD_eq_getD_getElem?, Array.getElem?_append_left hlt]; simp [hlt]
      rw [e1]
      exact .pure _ _ (hargs t v cargs[t] ht (by simp [hlt]))
  refine wp_mono (code_ok (x := x) hT (Nat.zero_le _) hm c _ _ _ _ _ w hk h hsat) ?_
  rintro ex a w' ⟨e, hp, n, hq, hs⟩
  obtain ⟨hex, hr⟩ := endA_ret' hq
  have fin : a.defers = [] /\ ∃ v, (results fn a.tmps).run P w' = .ok v w' /\ ∃ cv S' ρ', (Ending.returned v) = .returned cv /\ Rel (w.heap.size <= ·) S' ρ' new.look w' /\ S.le S' /\ (∀ b, S b = none -> S' b ≠ none -> w.heap.size <= b) /\
      Kept (w.heap.size <= ·) w w' /\ V S' ρ' new.look val cv := by
    obtain ⟨g1, v, g2, S', ρ', g3, g4, g5, g6, g7, _⟩ := ret_ok hr hs
    exact ⟨g1, v, g2, v, S', ρ', rfl, g3, g4, g5, g6, g7⟩
  rcases hex with rfl | rfl <;> exact fin
def endZ (P : Program) (rs : List ResultVar) (R : Z -> Prop × AV × Heap) : AQ
  | .normal, e, h, _ => ∃ z, (R z).1 /\ retA P rs (R z).2.1 (R z).2.2 e h
  | .ret, e, h, _ => ∃ z, (R z).1 /\ retA P rs (R z).2.1 (R z).2.2 e h
  | _, _, _, _ => False
theorem endZ_ret' {rs : List ResultVar} {R : Z -> Prop × AV × Heap} {ex : Exit} {e : Env} {h : Heap} {n : Nat} (hq : endZ P rs R ex e h n) : (ex = .normal \/ ex = .ret) /\ ∃ z, (R z).1 /\ retA P rs (R z).2.1 (R z).2.2 e h := by
  cases ex with
  | normal => exact ⟨.inl rfl, hq⟩
  | ret => exact ⟨.inr rfl, hq⟩
  | exit i => exact hq.elim
  | goto l => exact hq.elim
  | panic ch => exact hq.elim
  | outgrown => exact hq.elim
theorem fun_okZ (hT : TabOK P C) (hm : P.follows .mixedOrders = true) {f : FuncId} {fn : Func} {c : Code} (hf : P.funcs[f]? = some fn) (hb : fn.body = some c) {args : List AV} {R : Z -> Prop × AV × Heap} {pre : Heap} {n0 k0 : Nat} (hk : codeOK hint fn.ntmps c = true)
    (hl0 : Nat.ble args.length fn.ntmps = true) (hn0 : n0 <= hint.n0) (hnk : n0 <= k0) (hpre : ∀ r, pre.look r ≠ none -> r < k0)
    (h : codeA P C hint c (endZ P fn.results.toList R) (envOf 0 args) pre k0) : SpecZ P f args pre n0 R := by
  have hl := Nat.le_of_ble_eq_true hl0
  intro own S ρ w cargs hown hrel hsz hargs
  refine calls_of_wp hf hb ?_
  let x : Cx := ⟨w, own, fn.ntmps, S, n0, ρ, hown⟩
  have hsat : Sat x (envOf 0 args) pre k0 { tmps := cargs ++ Array.replicate (fn.ntmps - cargs.size) Go.undef, defers := [] } w := by
    refine ⟨S, ρ, fun _ _ h => h, fun b h1 h2 => absurd h1 h2, hrel, fun r h1 _ => ⟨fun _ => rfl, rfl, fun _ => rfl⟩, fun t => ?_, Kept.refl _ _, (by show (cargs ++ Array.replicate (fn.ntmps - cargs.size) Go.undef).size = fn.ntmps; simp; omega), rfl, hpre, hnk⟩
    rw [envOf_get]
    simp only [Nat.zero_le, if_true, Nat.sub_zero]
    cases ht : args[t]? with
    | none => exact .pure _ _ (.undef _)
    | some v =>
      have hlt : t < cargs.size := by rw [hsz]; exact (List.getElem?_eq_some_iff.1 ht).1
      have e1 : (cargs ++ Array.replicate (fn.ntmps - cargs.size) Go.undef).getD t Go.undef = cargs[t] := by
        rw [Array.getD_eq_getD_getElem?, Array.getElem?_append_left hlt]; simp [hlt]
      rw [e1]
      exact hargs t v cargs[t] ht (by simp [hlt])
  refine wp_mono (code_ok (x := x) hT hn0 hm c _ _ _ _ _ w hk h hsat) ?_
  rintro ex a w' ⟨e, hp, n, hq, hs⟩
  obtain ⟨hex, z, hG, hr⟩ := endZ_ret' hq
  have fin : a.defers = [] /\ ∃ v, (results fn a.tmps).run P w' = .ok v w' /\ ∃ z, (R z).1 /\ ∃ cv S' ρ', (Ending.returned v) = .returned cv /\ Rel own S' ρ' (R z).2.2.look w' /\ S.le S' /\ (∀ b, S b = none -> S' b ≠ none -> own b) /\
      Kept own w w' /\ V S' ρ' (R z).2.2.look (R z).2.1 cv /\ ∀ r, r < n0 -> (R z).2.2.look r ≠ none -> (∀ j, ρ'.blk r j = ρ.blk r j) /\ ρ'.cap r = ρ.cap r /\ ∀ i, ρ'.rcap r i = ρ.rcap r i := by
    obtain ⟨g1, v, g2, S', ρ', g3, g4, g5, g6, g7, g8⟩ := ret_ok hr hs
    exact ⟨g1, v, g2, z, hG, v, S', ρ', rfl, g3, g4, g5, g6, g7, g8⟩
  rcases hex with rfl | rfl <;> exact fin
end
end Go.Vc
namespace Go.Vc
open Go.RowKit
def memB : List Nat -> Nat -> Bool
  | [], _ => false
  | a :: l, d => bif a == d then true else memB l d
theorem memB_nil (d : Nat) : memB [] d = false := (rfl)
theorem memB_cons (a d : Nat) (l : List Nat) : memB (a :: l) d = bif a == d then true else memB l d := (rfl)
theorem memN_nil (d : Nat) : memN [] d = false := (rfl)
theorem memN_cons (a d : Nat) (l : List Nat) : memN (a :: l) d = bif a == d then true else memN l d := (rfl)
def fzL : List (Nat × List GOp) -> Nat -> List GOp
  | [], _ => []
  | (a, l) :: r, d => bif a == d then l else fzL r d
theorem fzL_nil (d : Nat) : fzL [] d = [] := (rfl)
theorem fzL_cons (a d : Nat) (l r) : fzL ((a, l) :: r) d = bif a == d then l else fzL r d := (rfl)
def ordL : List (Nat × List Nat) -> Nat -> List Nat
  | [], _ => []
  | (a, l) :: r, d => bif a == d then l else ordL r d
theorem ordL_nil (d : Nat) : ordL [] d = [] := (rfl)
theorem ordL_cons (a d : Nat) (l r) : ordL ((a, l) :: r) d = bif a == d then l else ordL r d := (rfl)
def hintX (own : List Nat) (fz : List (Nat × List GOp)) (n0 : Nat) (ms mt : List Nat) (od : List (Nat × List Nat) := []) (lt : List (Nat × List Nat) := []) : Hint := ⟨memB own, fzL fz, n0, memB ms, memB mt, ordL od, ordL lt⟩
def hintL (l : List Nat) : Hint := hintX l [] 0 [] []
theorem hintX_own (l r n ms mt od lt d) : (hintX l r n ms mt od lt).own d = memB l d := (rfl)
theorem hintX_fz (l r n ms mt od lt d) : (hintX l r n ms mt od lt).fz d = fzL r d := (rfl)
theorem hintX_n0 (l r n ms mt od lt) : (hintX l r n ms mt od lt).n0 = n := (rfl)
theorem hintX_ms (l r n ms mt od lt d) : (hintX l r n ms mt od lt).ms d = memB ms d := (rfl)
theorem hintX_mat (l r n ms mt od lt d) : (hintX l r n ms mt od lt).mat d = memB mt d := (rfl)
theorem hintX_lt (l r n ms mt od lt d) : (hintX l r n ms mt od lt).lt d = ordL lt d := (rfl)
theorem hintX_ord (l r n ms mt od lt d) : (hintX l r n ms mt od lt).ord d = ordL od d := (rfl)
def permS (f : Nat -> Nat) (o : Option Oper) (r : List Oper) : List Oper := match o with | some o => renO f o :: r | none => r
def renA (f : Nat -> Nat) (af : Array Edge) : Array Edge := af.map (fun e => { e with on := f e.on })
theorem permO_nil (l) : permO [] l = l := (rfl)
theorem permO_cons (a r l) : permO (a :: r) l = permL (a :: r) l (a :: r) := (rfl)
theorem permL_nil (q l) : permL q l [] = [] := (rfl)
theorem permL_cons (q l i r) : permL q l (i :: r) = permS (posOf q) (l[i]?) (permL q l r) := by rw [permL]; rfl
theorem permS_some (f o r) : permS f (some o) r = renO f o :: r := (rfl)
theorem renO_n (f dst op t pos af) : renO f ⟨dst, op, t, pos, af, none⟩ = ⟨dst, op, t, pos, renA f af, none⟩ := (rfl)
theorem mkey_f (f) : mkey (.func f) = f := (rfl)
theorem mkey_t (t) : mkey (.tmp t) = 100000 + t := (rfl)
theorem buildS_some (z is vs) : buildS (some z) is vs = ⟨belowN z.length is /\ vs.all AV.cell1 = true, .agg (setAll (z.map cst1) is vs), [], 0⟩ := (rfl)
theorem setAll_nil (cs) : setAll cs [] [] = cs := (rfl)
theorem setAll_cons (cs i is v vs) : setAll cs (i :: is) (v :: vs) = setAll (cs.set i v) is vs := (rfl)
theorem belowN_nil (n) : belowN n [] = True := (rfl)
theorem belowN_cons (n i is) : belowN n (i :: is) = (i < n /\ belowN n is) := (rfl)
theorem regA_nil (n0 : Nat) (A e h n) : regA n0 [] A e h n = A e h n := (rfl)
theorem regA_fz (n0 : Nat) (l r A e h n) : regA n0 (.fz l :: r) A e h n = regA n0 r A (frzE (frzA (keepR (frzR l e)) h.look) e) (frzP (keepR (frzR l e)) (frzA (keepR (frzR l e)) h.look) h) n := (rfl)
theorem regA_up (n0 : Nat) (d k r A e h n) : regA n0 (.up d k :: r) A e h n = (emptyB k = true /\ upS (e.get d) (regA n0 r A ((d, k.ref n) :: e) ((n, k) :: h) (n + 1))) := (rfl)
theorem regA_upf (n0 : Nat) (d off k r A e h n) : regA n0 (.upf d off k :: r) A e h n = (emptyB k = true /\ upfS (e.get d) (blkOf h (e.get d)) off (fun q cs j => regA n0 r A e ((n, k) :: hset h q (.box (cs.set j (k.ref n)))) (n + 1))) := (rfl)
theorem regA_cut (n0 : Nat) (l r A e h n) : regA n0 (.cut l :: r) A e h n = stopA (regA n0 r A) (cutE l e) h n := (rfl)
theorem regA_frb (n0 : Nat) (d r A e h n) : regA n0 (.frb d :: r) A e h n = renBS (e.get d) (blkOf h (e.get d)) (fun q o cs => cs.all AV.pure1 = true /\ regA n0 r A ((d, .iptr (cs.drop o)) :: frzE (frzA (keepR [q]) h.look) e) (frzP (keepR [q]) (frzA (keepR [q]) h.look) h) n) := (rfl)
theorem preG_frb (d r) : preG (.frb d :: r) = .frb d :: preG r := (rfl)
theorem postG_frb (d r) : postG (.frb d :: r) = postG r := (rfl)
theorem renBS_bx (q o cs A) : renBS (.bx q o) (some (.box cs)) A = A q o cs := (rfl)
theorem regA_skip (n0 : Nat) (r A e h n) : regA n0 (.skip :: r) A e h n = regA n0 r A e h (n + 1) := (rfl)
theorem preG_skip (r) : preG (.skip :: r) = .skip :: preG r := (rfl)
theorem postG_skip (r) : postG (.skip :: r) = postG r := (rfl)
theorem regA_drop (n0 : Nat) (l k r A e h n) : regA n0 (.drop l k :: r) A e h n = ((n0 <= k /\ belowP k (frzP (keepR l) (frzA (keepR l) h.look) h)) /\ regA n0 r A (frzE (frzA (keepR l) h.look) e) (frzP (keepR l) (frzA (keepR l) h.look) h) k) := (rfl)
theorem belowP_nil (k) : belowP k [] = True := (rfl)
theorem belowP_cons (k q b h) : belowP k ((q, b) :: h) = (q < k /\ belowP k h) := (rfl)
theorem preG_drop (l k r) : preG (.drop l k :: r) = .drop l k :: preG r := (rfl)
theorem postG_drop (l k r) : postG (.drop l k :: r) = postG r := (rfl)
theorem cutE_nil (e) : cutE [] e = [] := (rfl)
theorem cutE_cons (t l e) : cutE (t :: l) e = (t, e.get t) :: cutE l e := (rfl)
theorem stop_intro {A : Env -> Heap -> Nat -> Prop} {e h n} (H : A e h n) : stopA A e h n := H
@[congr] theorem stopA_congr (A : Env -> Heap -> Nat -> Prop) {e e' : Env} {h h' : Heap} {n n' : Nat} (h2 : e = e') (h3 : h = h') (h4 : n = n') : stopA A e h n = stopA A e' h' n' := by rw [h2, h3, h4]
theorem preG_cut (l r) : preG (.cut l :: r) = .cut l :: preG r := (rfl)
theorem postG_cut (l r) : postG (.cut l :: r) = postG r := (rfl)
theorem preG_nil : preG [] = [] := (rfl)
theorem isU_nil : isU [] = false := (rfl)
theorem isU_post (r) : isU (.post :: r) = false := (rfl)
theorem isU_fz (l r) : isU (.fz l :: r) = false := (rfl)
theorem isU_upf (d o k r) : isU (.upf d o k :: r) = false := (rfl)
theorem isU_cut (l r) : isU (.cut l :: r) = false := (rfl)
theorem isU_skip (r) : isU (.skip :: r) = false := (rfl)
theorem isU_drop (l k r) : isU (.drop l k :: r) = false := (rfl)
theorem isU_frb (d r) : isU (.frb d :: r) = false := (rfl)
theorem isU_mv (q k r) : isU (.mv q k :: r) = (q == 0 && k == 0) := by cases q <;> cases k <;> rfl
attribute [go_sem] Bool.false_eq_true isU_nil isU_post isU_fz isU_upf isU_cut isU_skip isU_drop isU_frb isU_mv
theorem preG_post (r) : preG (.post :: r) = [] := (rfl)
theorem preG_fz (l r) : preG (.fz l :: r) = .fz l :: preG r := (rfl)
theorem preG_upf (d o k r) : preG (.upf d o k :: r) = .upf d o k :: preG r := (rfl)
theorem postG_nil : postG [] = [] := (rfl)
theorem postG_post (r) : postG (.post :: r) = r := (rfl)
theorem postG_fz (l r) : postG (.fz l :: r) = postG r := (rfl)
theorem postG_upf (d o k r) : postG (.upf d o k :: r) = postG r := (rfl)
theorem emptyB_i : (emptyB (.arr (.ints [])) = true) = True := by simp [emptyB]
theorem emptyB_m : (emptyB (.mat []) = true) = True := by simp [emptyB]
theorem ref_arr (n v) : Blk.ref n (.arr v) = .sl n := (rfl)
theorem ref_mat (n v) : Blk.ref n (.mat v) = .mt n := (rfl)
theorem upS_nils (A) : upS .nils A = A := (rfl)
theorem upfS_bx (q o cs off) (A : Nat -> List AV -> Nat -> Prop) : upfS (.bx q o) (some (.box cs)) off A = upS (cs.getD (o + off) .undef) (A q cs (o + off)) := (rfl)
theorem trE_nil (φ) : trE φ [] = [] := (rfl)
theorem trE_cons (φ t v e) : trE φ ((t, v) :: e) = (t, v.tr φ) :: trE φ e := (rfl)
theorem trH_nil (φ ns) : trH φ ns [] = [] := (rfl)
theorem trH_cons (φ ns q k h) : trH φ ns ((q, k) :: h) = bif memN ns q then trH φ ns h else (q, k.tr φ) :: trH φ ns h := (rfl)
theorem purN_sl (ns ws q) : purN ns ws (.sl q) = bif memN ns q then .undef else .sl q := (rfl)
theorem purN_mt (ns ws q) : purN ns ws (.mt q) = bif memN ns q then .undef else .mt q := (rfl)
theorem purN_mr (ns ws q i) : purN ns ws (.mr q i) = bif memN ns q || memN ws q then .undef else .mr q i := (rfl)
theorem purN_bx (ns ws q o) : purN ns ws (.bx q o) = bif memN ns q then .undef else .bx q o := (rfl)
theorem purN_po (ns ws q i) : purN ns ws (.po q i) = bif memN ns q then .undef else .po q i := (rfl)
def frzR1 (v : AV) (k : List Nat) : List Nat := match v with | .sl r => r :: k | .mt r => r :: k | .agg cs => frzL cs k | _ => k
theorem frzR_nil (e) : frzR [] e = [] := (rfl)
theorem frzR_cons (d l e) : frzR (d :: l) e = frzR1 (e.get d) (frzR l e) := by rw [frzR]; cases e.get d <;> rfl
theorem frzR1_sl (r k) : frzR1 (.sl r) k = r :: k := (rfl)
theorem frzR1_mt (r k) : frzR1 (.mt r) k = r :: k := (rfl)
theorem frzR1_agg (cs k) : frzR1 (.agg cs) k = frzL cs k := (rfl)
theorem frzL_nil (k) : frzL [] k = k := (rfl)
theorem frzL_sl (r l k) : frzL (.sl r :: l) k = r :: frzL l k := (rfl)
theorem frzL_mt (r l k) : frzL (.mt r :: l) k = r :: frzL l k := (rfl)
theorem keepR_nil (r) : keepR [] r = true := (rfl)
theorem keepR_cons (q l r) : keepR (q :: l) r = bif q == r then false else keepR l r := (rfl)
theorem frzE_nil (φ) : frzE φ [] = [] := (rfl)
theorem frzE_cons (φ t v e) : frzE φ ((t, v) :: e) = (t, v.tr φ) :: frzE φ e := (rfl)
theorem frzP_nil (keep φ) : frzP keep φ [] = [] := (rfl)
theorem frzP_cons (keep φ q k h) : frzP keep φ ((q, k) :: h) = bif keep q then (q, k.tr φ) :: frzP keep φ h else frzP keep φ h := (rfl)
theorem purE_nil (r) : purE r [] = [] := (rfl)
theorem purE_cons (r t v e) : purE r ((t, v) :: e) = (t, v.tr (purA r)) :: purE r e := (rfl)
theorem purH_nil (r) : purH r [] = [] := (rfl)
theorem purH_cons (r q k h) : purH r ((q, k) :: h) = (q, k.tr (purA r)) :: purH r h := (rfl)
theorem purA_sl (r q) : purA r (.sl q) = bif q == r then .undef else .sl q := (rfl)
theorem purA_mt (r q) : purA r (.mt q) = bif q == r then .undef else .mt q := (rfl)
theorem purA_bx (r q o) : purA r (.bx q o) = bif q == r then .undef else .bx q o := (rfl)
theorem appS_sl (r A M B) : appS (.sl r) A M B = A := (rfl)
theorem appS_mt (r A M B) : appS (.mt r) A M B = M := (rfl)
theorem appR_i (P ts tx r xs ys e h) (hint : Hint) : appR hint P ts tx (.sl r) (some (.arr (.ints xs))) (.ints ys) e h = ⟨hint.n0 <= r /\ apP (ap P ts) 1 (xs ++ ys).length /\ isSl P tx, purE r e, hset (purH r h) r (.arr (.ints (xs ++ ys)))⟩ := (rfl)
theorem appR_r (P ts tx r xs ys e h) (hint : Hint) : appR hint P ts tx (.sl r) (some (.arr (.rows xs))) (.rows ys) e h = ⟨hint.n0 <= r /\ apP (ap P ts) 1 (xs ++ ys).length /\ isSl P tx, purE r e, hset (purH r h) r (.arr (.rows (xs ++ ys)))⟩ := (rfl)
theorem appR_s (P ts tx r xs ys e h) (hint : Hint) : appR hint P ts tx (.sl r) (some (.arr (.strs xs))) (.strs ys) e h = ⟨hint.n0 <= r /\ apP (ap P ts) 1 (xs ++ ys).length /\ isSl P tx, purE r e, hset (purH r h) r (.arr (.strs (xs ++ ys)))⟩ := (rfl)
def appV (hint : Hint) (P : Program) (ts tx : TypeId) (r : Nat) (xss : List (List Int)) (n : Nat) (k : Option Blk) (e : Env) (h : Heap) : ResM :=
  match k with
  | some (.arr (.ints ys)) => ⟨(hint.n0 <= r /\ (n == r) = false) /\ apP (ap P ts) 1 (xss.length + 1) /\ isSl P tx, trE (purN [r, n] []) e, (r, .mat (xss ++ [ys])) :: trH (purN [r, n] []) [n, r] h⟩
  | _ => noM
def appW (hint : Hint) (P : Program) (ts tx : TypeId) (r : Nat) (xss : List (List Int)) (n : Nat) (k : Option Blk) (e : Env) (h : Heap) : ResM :=
  match k with
  | some (.mat yss) => ⟨(hint.n0 <= r /\ (n == r) = false) /\ apP (ap P ts) 1 (xss.length + yss.length) /\ isSl P tx, trE (purN [r, n] []) e, (r, .mat (xss ++ yss)) :: trH (purN [r, n] []) [n, r] h⟩
  | _ => noM
theorem appM_v (P ts tx r xss n e h) (hint : Hint) : appM hint P ts tx (.mt r) (some (.mat xss)) (.vec [.sl n]) e h = appV hint P ts tx r xss n (h.look n) e h := by
  show (match h.look n with | some (.arr (.ints ys)) => _ | _ => noM) = _
  rfl
theorem appV_some (P ts tx r xss n e h ys) (hint : Hint) : appV hint P ts tx r xss n (some (.arr (.ints ys))) e h = ⟨(hint.n0 <= r /\ (n == r) = false) /\ apP (ap P ts) 1 (xss.length + 1) /\ isSl P tx, trE (purN [r, n] []) e, (r, .mat (xss ++ [ys])) :: trH (purN [r, n] []) [n, r] h⟩ := (rfl)
theorem appM_m (P ts tx r xss n e h) (hint : Hint) : appM hint P ts tx (.mt r) (some (.mat xss)) (.mt n) e h = appW hint P ts tx r xss n (h.look n) e h := by
  show (match h.look n with | some (.mat yss) => _ | _ => noM) = _
  rfl
theorem appW_some (P ts tx r xss n e h yss) (hint : Hint) : appW hint P ts tx r xss n (some (.mat yss)) e h = ⟨(hint.n0 <= r /\ (n == r) = false) /\ apP (ap P ts) 1 (xss.length + yss.length) /\ isSl P tx, trE (purN [r, n] []) e, (r, .mat (xss ++ yss)) :: trH (purN [r, n] []) [n, r] h⟩ := (rfl)
theorem apP_some (k b m l) : apP (some (k, b)) m l = (k = m /\ l * (b + 1) <= 140737488355328) := (rfl)
theorem newL_t (n p v) : newL true n p (some v) = ⟨p, .sl n, [(n, .arr v)], 1⟩ := (rfl)
theorem newL_f (n p v) : newL false n p (some v) = ⟨p, v, [], 0⟩ := (rfl)
theorem selR_t (a b) : selR true a b = a := (rfl)
theorem selR_f (a b) : selR false a b = b := (rfl)
theorem vecR_eq (P t len is vs) : vecR P t len is vs = ⟨(inOrder 0 is = true /\ is.length = len /\ len <= 1000000) /\ apP (ap P t) 1 len /\ vs.all AV.cell1 = true, .vec vs, [], 0⟩ := (rfl)
theorem buildMR_eq (P n t len is) : buildMR P n t len is = ⟨(len = 0 /\ is = []) /\ apP (ap P t) 1 0, .mt n, [(n, .mat [])], 1⟩ := (rfl)
theorem buildR_eq (P ow n t len is vs) : buildR P ow n t len is vs = newL ow n ((inOrder 0 is = true /\ is.length = len) /\ (ap P t).isSome = true /\ len <= 1000000) (mkL (seedL (sd P t) 0) vs) := (rfl)
theorem inOrder_nil (k) : inOrder k [] = true := (rfl)
theorem inOrder_cons (k i l) : inOrder k (i :: l) = bif k == i then inOrder (k + 1) l else false := (rfl)
theorem mkL_nil (s) : mkL s [] = s := (rfl)
theorem mkL_cons (s v l) : mkL s (v :: l) = consV v (mkL s l) := (rfl)
theorem consV_i (n xs) : consV (.int .i64 n) (some (.ints xs)) = some (.ints (n :: xs)) := (rfl)
theorem consV_s (b xs) : consV (.str b) (some (.strs xs)) = some (.strs (b :: xs)) := (rfl)
theorem consV_r (r xs) : consV (.ints r) (some (.rows xs)) = some (.rows (r :: xs)) := (rfl)
theorem seed_i (k n) : seedL (some (.int .i64 k)) n = some (.ints (List.replicate n k)) := (rfl)
theorem seed_s (k n) : seedL (some (.string k)) n = some (.strs (List.replicate n k)) := (rfl)
theorem seed_r (n) : seedL (some (.slice none 0 0)) n = some (.rows (List.replicate n [])) := (rfl)
theorem rep0 {α : Type} (x : α) : List.replicate 0 x = [] := (rfl)
def mkW (z : Option (Nat × Nat)) (l : Nat) : Prop := match z with | some (_, b) => l * (b + 1) <= 140737488355328 | none => False
section
variable (P : Program) (C : Table) (hint : Hint) (Q : AQ) (e : Env) (h : Heap) (n : Nat)
theorem codeA_skip : codeA P C hint .skip Q e h n = Q .normal e h n := (rfl)
def opsK (P : Program) (C : Table) (hint : Hint) (lt : List Nat) (l : List Oper) (K : Env -> Heap -> Nat -> Prop) (e : Env) (h : Heap) (n : Nat) : Prop := opsR P C hint lt l e h n K
def lateK (P : Program) (C : Table) (hint : Hint) (ls all tl : List Oper) (K : Env -> Heap -> Nat -> Prop) (e : Env) (h : Heap) (n : Nat) : Prop := lateP P C hint e ls /\ opsA P C hint all tl e h n K
def postK (hint : Hint) (i : Nat) (Q : AQ) (e : Env) (h : Heap) (n : Nat) : Prop := regA hint.n0 (postG (hint.fz i)) (Q .normal) e h n
theorem opsK_eq (l) (K : Env -> Heap -> Nat -> Prop) : opsK P C hint [] l K e h n = opsA P C hint l l e h n K := (rfl)
theorem opsK_fuse (c l) (K : Env -> Heap -> Nat -> Prop) : opsK P C hint [c] l K e h n = opsA P C hint l (l.take c) e h n (fuseP P hint (l.drop c) K) := (rfl)
theorem postK_eq (i) : postK hint i Q e h n = regA hint.n0 (postG (hint.fz i)) (Q .normal) e h n := (rfl)
theorem codeA_region (i ops d) : codeA P C hint (.region i ⟨ops⟩ d) Q e h n = if isU (hint.fz i) = true then UserP P hint (.region i ⟨ops⟩ d) ops Q e h n else regA hint.n0 (preG (hint.fz i)) (opsK P C hint (hint.lt i) (permO (hint.ord i) ops) (postK hint i Q)) e h n := (rfl)
theorem codeA_seq (x y) : codeA P C hint (.seq x y) Q e h n = codeA P C hint x (thenA (codeA P C hint y Q) Q) e h n := (rfl)
theorem codeA_cond (c x y) : codeA P C hint (.cond c x y) Q e h n = condA (opnd e c) (codeA P C hint x Q e h n) (codeA P C hint y Q e h n) := (rfl)
theorem codeA_block (id b) : codeA P C hint (.block id b) Q e h n = codeA P C hint b (blockA id Q) e h n := (rfl)
theorem codeA_exit (id) : codeA P C hint (.exit id) Q e h n = Q (.exit id) e h n := (rfl)
theorem codeA_ret : codeA P C hint .ret Q e h n = Q .ret e h n := (rfl)
theorem codeA_loop (b) : codeA P C hint (.loop b) Q e h n = loopA hint.n0 (codeA P C hint b) Q e h n := (rfl)
theorem thenA_normal (K) : thenA K Q .normal e h n = K e h n := (rfl)
theorem thenA_exit (K i) : thenA K Q (.exit i) e h n = Q (.exit i) e h n := (rfl)
theorem thenA_ret (K) : thenA K Q .ret e h n = Q .ret e h n := (rfl)
theorem blockA_normal (i) : blockA i Q .normal e h n = Q .normal e h n := (rfl)
theorem blockA_ret (i) : blockA i Q .ret e h n = Q .ret e h n := (rfl)
theorem blockA_exit (i j) : blockA i Q (.exit j) e h n = if j = i then Q .normal e h n else Q (.exit j) e h n := (rfl)
theorem endA_ret (rs val new) : endA P rs val new .ret e h n = retA P rs val new e h := (rfl)
theorem condA_bool (b A B) : condA (.bool b) A B = partB b A B := (rfl)
end
def selP (b : Bool) (A B : Prop) : Prop := bif b then A else B
theorem selP_t (A B) : selP true A B = A := (rfl)
theorem selP_f (A B) : selP false A B = B := (rfl)
theorem nc_add (y) : isNilc .add y = false := (rfl)
theorem nc_sub (y) : isNilc .sub y = false := (rfl)
theorem nc_mul (y) : isNilc .mul y = false := (rfl)
theorem nc_quo (y) : isNilc .quo y = false := (rfl)
theorem nc_rem (y) : isNilc .rem y = false := (rfl)
theorem nc_and (y) : isNilc .and y = false := (rfl)
theorem nc_shl (y) : isNilc .shl y = false := (rfl)
theorem nc_shr (y) : isNilc .shr y = false := (rfl)
theorem nc_lss (y) : isNilc .lss y = false := (rfl)
theorem nc_leq (y) : isNilc .leq y = false := (rfl)
theorem nc_gtr (y) : isNilc .gtr y = false := (rfl)
theorem nc_geq (y) : isNilc .geq y = false := (rfl)
theorem nc_eql_t (t) : isNilc .eql (.tmp t) = false := (rfl)
theorem nc_eql_i (k n) : isNilc .eql (.const (.int k n)) = false := (rfl)
theorem nc_eql_s (b) : isNilc .eql (.const (.string b)) = false := (rfl)
theorem nc_eql_z : isNilc .eql (.const (.slice none 0 0)) = true := (rfl)
theorem nc_neq_t (t) : isNilc .neq (.tmp t) = false := (rfl)
theorem negB_e (b) : negB .eql b = b := (rfl)
theorem nilS_i (P t xs) (K : Bool -> Prop) : nilS P t (.ints xs) (.const (.slice none 0 0)) K = (isSl P t /\ ∀ b, (b = true -> xs = []) -> K b) := (rfl)
def callK (r : Res) (K : AV -> Heap -> Nat -> Prop) : Prop := r.pre /\ K r.val r.new r.cnt
theorem callK_mk (p v new c) (K : AV -> Heap -> Nat -> Prop) : callK ⟨p, v, new, c⟩ K = (p /\ K v new c) := (rfl)
def storK (r : ResM) (K : Env -> Heap -> Prop) : Prop := r.pre /\ K r.env r.heap
theorem storK_mk (p e h) (K : Env -> Heap -> Prop) : storK ⟨p, e, h⟩ K = (p /\ K e h) := (rfl)
section
variable (P : Program) (C : Table) (hint : Hint) (all rest : List Oper) (e : Env) (h : Heap) (n : Nat) (K : Env -> Heap -> Nat -> Prop) (dst : Option Tmp) (t : TypeId) (pos : String) (af : Array Edge)
theorem opsA_nil : opsA P C hint all [] e h n K = K e h n := (rfl)
theorem opsA_g (op : Op) (j w) : opsA P C hint all (⟨dst, op, t, pos, af, some (j, w)⟩ :: rest) e h n K =
    guardD w (gdst all j) e (fun e => opsA P C hint all (⟨dst, op, t, pos, af, none⟩ :: rest) e h n K) (fun e => opsA P C hint all rest (dset e dst .skipd) h n K) := (rfl)
theorem opsA_move (x) : opsA P C hint all (⟨dst, .move x, t, pos, af, none⟩ :: rest) e h n K = opsA P C hint all rest (dset e dst (opnd e x)) h n K := by
  show (True /\ _) = _; rw [true_and]; rfl
theorem opsA_assign (x) : opsA P C hint all (⟨dst, .assign x, t, pos, af, none⟩ :: rest) e h n K = opsA P C hint all rest (dset e dst (opnd e x)) h n K := by
  show (True /\ _) = _; rw [true_and]; rfl
theorem opsA_pick (c a b) : opsA P C hint all (⟨dst, .pick c a b, t, pos, af, none⟩ :: rest) e h n K =
    pickS (opnd e c) (opsA P C hint all rest (dset e dst (opnd e a)) h n K) (opsA P C hint all rest (dset e dst (opnd e b)) h n K) := (rfl)
theorem opsA_store (t1 p x) : opsA P C hint all (⟨dst, .store t1 p x, t, pos, af, none⟩ :: rest) e h n K =
    storK (storeR hint (td P t1) (blkOf h (opnd e p)) (opnd e p) (opnd e x) e h) fun e h => opsA P C hint all rest (dset e dst .skipd) h n K := (rfl)
theorem opsA_bin (op x y t1 t2) : opsA P C hint all (⟨dst, .binOp op t1 x y t2, t, pos, af, none⟩ :: rest) e h n K = selP (isNilc op y)
    (nilS P t1 (opnd e x) y fun b => opsA P C hint all rest (dset e dst (.bool (negB op b))) h n K)
    (arithP P t1 op (opnd e x) (opnd e y) /\ opsA P C hint all rest (dset e dst (arithV op (opnd e x) (opnd e y))) h n K) := by
  show (bif _ then _ else _) = _
  cases isNilc op y <;> rfl
theorem opsA_not (x t1) : opsA P C hint all (⟨dst, .unOp .not t1 x, t, pos, af, none⟩ :: rest) e h n K = (notP (opnd e x) /\ opsA P C hint all rest (dset e dst (notV (opnd e x))) h n K) := (rfl)
theorem opsA_neg (x t1) : opsA P C hint all (⟨dst, .unOp .neg t1 x, t, pos, af, none⟩ :: rest) e h n K = (negP (opnd e x) /\ opsA P C hint all rest (dset e dst (negV (opnd e x))) h n K) := (rfl)
theorem opsA_conv (s d x) : opsA P C hint all (⟨dst, .convert s d x, t, pos, af, none⟩ :: rest) e h n K = (convP P s d (ik P d) (opnd e x) /\ opsA P C hint all rest (dset e dst (convV (ik P d) (opnd e x))) h n K) := (rfl)
theorem opsA_ixa (x i t1) : opsA P C hint all (⟨dst, .indexAddr t1 x i, t, pos, af, none⟩ :: rest) e h n K =
    (idxP (ed P t1) (blkOf h (opnd e x)) (opnd e x) (opnd e i) /\ opsA P C hint all rest (dset e dst (idxV (ed P t1) (opnd e x) (opnd e i))) h n K) := (rfl)
theorem opsA_sidx (x i t1) : opsA P C hint all (⟨dst, .index t1 x i, t, pos, af, none⟩ :: rest) e h n K = (sidxP P t1 (opnd e x) (opnd e i) /\ opsA P C hint all rest (dset e dst (sidxV (opnd e x) (opnd e i))) h n K) := (rfl)
theorem opsA_load (x t1) : opsA P C hint all (⟨dst, .load t1 x, t, pos, af, none⟩ :: rest) e h n K =
    (loadP (td P t1) (blkOf h (opnd e x)) (opnd e x) /\ opsA P C hint all rest (dset e dst (loadV (td P t1) (blkOf h (opnd e x)) (opnd e x))) h n K) := (rfl)
theorem opsA_field (x t1 f) : opsA P C hint all (⟨dst, .fieldAddr t1 x f, t, pos, af, none⟩ :: rest) e h n K =
    (fieldP (fd P t1 f) (blkOf h (opnd e x)) (opnd e x) /\ opsA P C hint all rest (dset e dst (fieldV (fd P t1 f) (opnd e x))) h n K) := (rfl)
theorem opsA_nilCheck (x) : opsA P C hint all (⟨dst, .nilCheck x, t, pos, af, none⟩ :: rest) e h n K = (ptrB (opnd e x) = true /\ opsA P C hint all rest (dset e dst (opnd e x)) h n K) := (rfl)
theorem opsA_extract (x k) : opsA P C hint all (⟨dst, .extract x k, t, pos, af, none⟩ :: rest) e h n K = (extractP k (opnd e x) /\ opsA P C hint all rest (dset e dst (extractV k (opnd e x))) h n K) := (rfl)
theorem opsA_func (f xs) : opsA P C hint all (⟨dst, .makeFunc (.func f) ⟨[]⟩ ⟨xs⟩, t, pos, af, none⟩ :: rest) e h n K = opsA P C hint all rest (dset e dst (.fn f (xs.map (opnd e)))) h n K := by
  show (True /\ _) = _; rw [true_and]; rfl
theorem opsA_bnd (f x xs) : opsA P C hint all (⟨dst, .makeFunc (.func f) ⟨x :: xs⟩ ⟨[]⟩, t, pos, af, none⟩ :: rest) e h n K = ((((x :: xs).map (opnd e)).all AV.pureB = true) /\ opsA P C hint all rest (dset e dst (.bnd f ((x :: xs).map (opnd e)))) h n K) := (rfl)
theorem opsA_box (t1 x) : opsA P C hint all (⟨dst, .box t1 x, t, pos, af, none⟩ :: rest) e h n K = callK (boxR (hint.own (dst.getD 0)) n (opnd e x)) fun v new c => opsA P C hint all rest (dset e dst v) (new ++ h) (n + c) K := (rfl)
theorem opsA_alloc (t1) : opsA P C hint all (⟨dst, .alloc t1, t, pos, af, none⟩ :: rest) e h n K = callK (allocR P (hint.own (dst.getD 0)) n t1) fun v new c => opsA P C hint all rest (dset e dst v) (new ++ h) (n + c) K := (rfl)
theorem opsA_len (x t1) : opsA P C hint all (⟨dst, .call ⟨.builtin .len, ⟨[x]⟩, ⟨[t1]⟩⟩, t, pos, af, none⟩ :: rest) e h n K =
    (lenP P t1 (blkOf h (opnd e x)) (opnd e x) /\ opsA P C hint all rest (dset e dst (lenV (blkOf h (opnd e x)) (opnd e x))) h n K) := (rfl)
theorem opsA_min (x y ts) : opsA P C hint all (⟨dst, .call ⟨.builtin .min, ⟨[x, y]⟩, ts⟩, t, pos, af, none⟩ :: rest) e h n K = (minmaxP .min (opnd e x) (opnd e y) /\ opsA P C hint all rest (dset e dst (minmaxV .min (opnd e x) (opnd e y))) h n K) := (rfl)
theorem opsA_append (s y ts tx) : opsA P C hint all (⟨dst, .call ⟨.builtin .append, ⟨[s, y]⟩, ⟨[ts, tx]⟩⟩, t, pos, af, none⟩ :: rest) e h n K = appS (opnd e s)
    (storK (appR hint P ts tx (opnd e s) (blkOf h (opnd e s)) (opnd e y) e h) fun e' h' => opsA P C hint all rest (dset e' dst (opnd e s)) h' n K)
    (storK (appM hint P ts tx (opnd e s) (blkOf h (opnd e s)) (opnd e y) e h) fun e' h' => opsA P C hint all rest (dset e' dst (opnd e s)) h' n K)
    (callK (appN P (hint.own (dst.getD 0)) n ts tx (opnd e s) (opnd e y)) fun v new c => opsA P C hint all rest (dset e dst v) (new ++ h) (n + c) K) := (rfl)
theorem opsA_lit (t1 len ps) : opsA P C hint all (⟨dst, .buildSlice t1 len ⟨ps⟩, t, pos, af, none⟩ :: rest) e h n K =
    callK (selR (hint.mat (dst.getD 0)) (buildMR P n t1 len (ps.map Prod.fst)) (selR ((ps.map fun p => opnd e p.2).all AV.pureB) (buildR P (hint.own (dst.getD 0)) n t1 len (ps.map Prod.fst) (ps.map fun p => opnd e p.2)) (vecR P t1 len (ps.map Prod.fst) (ps.map fun p => opnd e p.2)))) fun v new c => opsA P C hint all rest (dset e dst v) (new ++ h) (n + c) K := (rfl)
theorem opsA_build (t1 ps) : opsA P C hint all (⟨dst, .build t1 ⟨ps⟩, t, pos, af, none⟩ :: rest) e h n K =
    callK (buildS (flatZ P t1) (ps.map Prod.fst) (ps.map fun p => opnd e p.2)) fun v new c => opsA P C hint all rest (dset e dst v) (new ++ h) (n + c) K := (rfl)
theorem opsA_cut (t1 x lo hi) : opsA P C hint all (⟨dst, .slice t1 x lo hi none, t, pos, af, none⟩ :: rest) e h n K =
    (sliceP P t1 (opnd e x) (lo.map (opnd e)) (hi.map (opnd e)) /\ opsA P C hint all rest (dset e dst (sliceV (opnd e x) (lo.map (opnd e)) (hi.map (opnd e)))) h n K) := (rfl)
def memK (r : ResC) (K : AV -> Env -> Heap -> Nat -> Prop) : Prop := r.pre /\ K r.val r.env r.heap r.cnt
theorem memK_mk (p v e h c) (K : AV -> Env -> Heap -> Nat -> Prop) : memK ⟨p, v, e, h, c⟩ K = (p /\ K v e h c) := (rfl)
theorem opsA_call (f xs ts) : opsA P C hint all (⟨dst, .call ⟨.value f, ⟨xs⟩, ts⟩, t, pos, af, none⟩ :: rest) e h n K = selP (hint.ms (mkey f))
    (selP (hint.ms (1000000 + mkey f)) (callZ C (opnd e f) (xs.map (opnd e)) e h n fun v e' h' c => opsA P C hint all rest (dset e' dst v) h' (n + c) K)
      (memK (callM C (opnd e f) (xs.map (opnd e)) e h n) fun v e' h' c => opsA P C hint all rest (dset e' dst v) h' (n + c) K))
    (callK (frzNew (hint.own (dst.getD 0)) n (callF C h (opnd e f) (xs.map (opnd e)) n)) fun v new c => opsA P C hint all rest (dset e dst v) (new ++ h) (n + c) K) := by
  show (bif _ then (bif _ then _ else _) else _) = _
  cases hint.ms (mkey f) <;> cases hint.ms (1000000 + mkey f) <;> rfl
end
section
variable (P : Program) (t : TypeId) (x y i j : Int) (xs : List Int) (rs : List (List Int)) (ss : List ByteArray) (bs : List Bool) (ps : List (Int × Int)) (us : List UInt8) (s s' : ByteArray) (b b' : Bool) (n m r : Nat) (cs : List AV) (c : AV) (k : IntKind) (kb : Option Blk) (e : Env) (h : Heap) (hint : Hint)
theorem topH_nil : topH [] = 0 := (rfl)
theorem topH_cons (k) : topH ((r, k) :: h) = if topH h <= r then r + 1 else topH h := (rfl)
theorem frzNew_f (p v new) : frzNew false n (p, v, new) = ⟨p, v.tr (frzA (fun _ => false) new.look), [], topH new - n⟩ := (rfl)
theorem frzNew_t (p v new) : frzNew true n (p, v, new) = ⟨p, v, new, topH new - n⟩ := (rfl)
def lendK (r : Prop × AV × Heap) (b1 b2 : Bool) : Prop × AV × Heap := (r.1 /\ b1 = true /\ (b2 || (r.2.1.noL && Heap.noL r.2.2)) = true, r.2)
theorem lendK_mk (p v new b1 b2) : lendK (p, v, new) b1 b2 = (p /\ b1 = true /\ (b2 || (v.noL && Heap.noL new)) = true, v, new) := (rfl)
theorem callF_fn (C : Table) (f caps args) : callF C h (.fn f caps) args n = lendK (C.find f ((args ++ caps).map (bview h)) n) (((args ++ caps).map (bview h)).all AV.pureB) ((args ++ caps).all AV.pureB) := (rfl)
theorem callF_bnd (C : Table) (f caps args) : callF C h (.bnd f caps) args n = lendK (C.find f ((caps ++ args).map (bview h)) n) (((caps ++ args).map (bview h)).all AV.pureB) ((caps ++ args).all AV.pureB) := (rfl)
theorem bview_eq (v) : bview h v = v.tr (frzA (fun _ => false) h.look) := (rfl)
def callG (refs : List ARef) (m : Nat) (p : Prop) (v : AV) (post : Heap) (g : List Nat) (e : Env) (h : Heap) (n : Nat) : ResC :=
  ⟨p /\ (distB (refs.map ARef.base) && refs.all (fun a => plainO (subB h a)) && Heap.plain post && rowsOK post 0 refs) = true, v.tr (backA refs m n), trE (purN g []) e, newM m n post ++ updH (purN g []) (mkUpd h post 0 refs) h, topH post - m⟩
def callD (refs : List ARef) (m : Nat) (r : Prop × AV × Heap) (e : Env) (h : Heap) (n : Nat) : ResC := callG refs m r.1 r.2.1 r.2.2 (gone r.2.2 0 refs) e h n
def callE (ra : List AV × List ARef) (F : List AV -> Heap -> Nat -> Prop × AV × Heap) (e : Env) (h : Heap) (n : Nat) : ResC := callD ra.2 ra.2.length (F ra.1 (subH h 0 ra.2) ra.2.length) e h n
theorem callM_fn (C : Table) (f caps args) : callM C (.fn f caps) args e h n = callE (renL 0 (args ++ caps)) (C.findM f) e h n := (rfl)
theorem callE_mk (as refs F) : callE (as, refs) F e h n = callD refs refs.length (F as (subH h 0 refs) refs.length) e h n := (rfl)
theorem callD_mk (refs p v post) : callD refs m (p, v, post) e h n = callG refs m p v post (gone post 0 refs) e h n := (rfl)
theorem callG_eq (refs p v post g) : callG refs m p v post g e h n = ⟨p /\ (distB (refs.map ARef.base) && refs.all (fun a => plainO (subB h a)) && Heap.plain post && rowsOK post 0 refs) = true, v.tr (backA refs m n), trE (purN g []) e, newM m n post ++ updH (purN g []) (mkUpd h post 0 refs) h, topH post - m⟩ := (rfl)
def aggR (r : List AV × List ARef) : AV × List ARef := (.agg r.1, r.2)
def fnR (f : FuncId) (r : List AV × List ARef) : AV × List ARef := (.fn f r.1, r.2)
theorem aggR_mk (l r) : aggR (l, r) = (.agg l, r) := (rfl)
theorem fnR_mk (f l r) : fnR f (l, r) = (.fn f l, r) := (rfl)
theorem renD_mk (a r l r') : renD (a, r) (l, r') = (a :: l, r ++ r') := (rfl)
theorem renL_nil : renL n [] = ([], []) := (rfl)
theorem renL_cons : renL n (c :: cs) = renD (ren1 n c) (renL (n + (ren1 n c).2.length) cs) := (rfl)
theorem renL0_nil : renL0 n [] = ([], []) := (rfl)
theorem renL0_cons : renL0 n (c :: cs) = renD (ren0 n c) (renL0 (n + (ren0 n c).2.length) cs) := (rfl)
theorem ren1_agg : ren1 n (.agg cs) = aggR (renL0 n cs) := (rfl)
theorem ren1_fn (f) : ren1 n (.fn f cs) = fnR f (renL0 n cs) := (rfl)
theorem base_w : ARef.base (.whole r) = r := (rfl)
theorem subB_w : subB h (.whole r) = h.look r := (rfl)
def subM (k : Option Blk) (i : Int) : Option Blk := match k with | some (.mat xss) => some (.arr (.ints (ix xss i))) | _ => none
theorem subH_nil : subH h n [] = [] := (rfl)
theorem subH_cons (a l) : subH h n (a :: l) = subC n (subB h a) (subH h (n + 1) l) := (rfl)
theorem subC_some (k) : subC n (some k) h = (n, k) :: h := (rfl)
theorem plainO_some (k : Blk) : plainO (some k) = k.plain := (rfl)
theorem plain_box : Blk.plain (.box cs) = cs.all AV.pure1 := (rfl)
theorem plain_arr : Blk.plain (.arr c) = true := (rfl)
theorem plain_mat : Blk.plain (.mat rs) = true := (rfl)
theorem plainH_nil : Heap.plain [] = true := (rfl)
theorem plainH_cons (k) : Heap.plain ((r, k) :: h) = (k.plain && Heap.plain h) := (rfl)
theorem distB_nil : distB [] = true := (rfl)
theorem distB_cons (l) : distB (n :: l) = (!memN l n && distB l) := (rfl)
theorem rowO_w (k) : rowO (.whole r) k = true := by cases k <;> rfl
theorem rowsOK_nil : rowsOK h n [] = true := (rfl)
theorem rowsOK_cons (a l) : rowsOK h n (a :: l) = (rowO a (h.look n) && rowsOK h (n + 1) l) := (rfl)
theorem updB_w (h') : updB h h' n (.whole r) = h'.look n := (rfl)
def updM (k k' : Option Blk) (j : Int) : Option Blk := match k, k' with | some (.mat xss), some (.arr (.ints ys)) => some (.mat (xss.set j.toNat ys)) | _, _ => none
theorem mkUpd_nil (h') : mkUpd h h' n [] = [] := (rfl)
theorem mkUpd_cons (h' a l) : mkUpd h h' n (a :: l) = (a.base, updB h h' n a) :: mkUpd h h' (n + 1) l := (rfl)
theorem assoc_nil : assoc [] n = none := (rfl)
theorem assoc_cons (k l) : assoc ((m, k) :: l) n = bif m == n then some k else assoc l n := (rfl)
theorem gone_nil : gone h n [] = [] := (rfl)
theorem gone_cons (a l) : gone h n (a :: l) = goneC (h.look n) a.base (gone h (n + 1) l) := (rfl)
theorem goneC_some (k l) : goneC (some k) r l = l := (rfl)
theorem goneC_none (l) : goneC none r l = r :: l := (rfl)
theorem updC_ss (φ k k') : updC φ r k (some (some k')) h = (r, k') :: h := (rfl)
theorem updC_sn (φ k) : updC φ r k (some none) h = h := (rfl)
theorem updC_n (φ k) : updC φ r k none h = (r, k.tr φ) :: h := (rfl)
theorem updH_nil (φ l) : updH φ l [] = [] := (rfl)
theorem updH_cons (φ l k) : updH φ l ((r, k) :: h) = updC φ r k (assoc l r) (updH φ l h) := (rfl)
theorem newM_nil : newM m n [] = [] := (rfl)
theorem newM_cons (k l) : newM m n ((r, k) :: l) = if m <= r then (n + (r - m), k) :: newM m n l else newM m n l := by
  show (bif Nat.ble m r then _ else _) = _
  by_cases h : m <= r
  · rw [if_pos h, Nat.ble_eq_true_of_le h]; rfl
  · rw [if_neg h]; cases hb : Nat.ble m r with
    | true => exact absurd (Nat.le_of_ble_eq_true hb) h
    | false => rfl
def backS (a : Option ARef) (v : AV) (w : Nat -> AV) (f : Nat -> Int -> AV) : AV := match a with | some (.whole q) => w q | some (.row q j) => f q j | none => v
theorem backR_eq (l r w f) : backR l m n r w f = backS (l[r]?) (w (n + (r - m))) w f := (rfl)
theorem backS_n (v w f) : backS none v w f = v := (rfl)
theorem backA_sl (l) : backA l m n (.sl r) = backR l m n r .sl .mr := (rfl)
theorem backA_mt (l) : backA l m n (.mt r) = backR l m n r .mt fun _ _ => .undef := (rfl)
def pureC (g : List AV -> Prop × AV) : Contract := .p fun a _ => ((g a).1, (g a).2, [])
theorem tab_pure (C : Table) (f g v) : Table.find ((f, pureC v) :: C) g = if f = g then (fun a _ => ((v a).1, (v a).2, [])) else Table.find C g := (rfl)
theorem boxR_f (v) : boxR false n v = ⟨v.isUndef = false /\ v.pureB = true, .iptr v.cells, [], 0⟩ := (rfl)
theorem boxR_t (v) : boxR true n v = ⟨boxOK v = true, .bx n 0, [(n, .box v.cells)], 1⟩ := (rfl)
theorem boxOK_agg : boxOK (.agg cs) = cs.all AV.cell1 := (rfl)
theorem env_get (q v) : Env.get ((q, v) :: e) t = if q = t then v else Env.get e t := (rfl)
theorem look_cons (q v) : Heap.look ((q, v) :: h) r = if q = r then some v else Heap.look h r := (rfl)
theorem look_nil : Heap.look [] r = none := (rfl)
theorem dset_some (d v) : dset e (some d) v = (d, v) :: e := (rfl)
theorem dset_none (v) : dset e none v = e := (rfl)
theorem o_tmp : opnd e (.tmp t) = e.get t := (rfl)
theorem o_int : opnd e (.const (.int k x)) = .int k x := (rfl)
theorem o_bool : opnd e (.const (.bool b)) = .bool b := (rfl)
theorem o_str : opnd e (.const (.string s)) = .str s := (rfl)
theorem o_nils : opnd e (.const (.slice none 0 0)) = .nils := (rfl)
theorem o_func (f) : opnd e (.func f) = .fn f [] := (rfl)
theorem cst1_int : cst1 (.int k x) = .int k x := (rfl)
theorem cst1_nils : cst1 (.slice none 0 0) = .nils := (rfl)
theorem gdst_0 (o l) : gdst (o :: l) 0 = o.dst := (rfl)
theorem gdst_s (o : Oper) (l) : gdst (o :: l) (n + 1) = gdst l n := (rfl)
theorem guardD_some (w d Y N) : guardD w (some d) e Y N = guardS w d e (e.get d) Y N := (rfl)
theorem guardS_t (d Y N) : guardS true d e (.bool b) Y N = partB b (Y ((d, .tt) :: e)) (N ((d, .ff) :: e)) := (rfl)
theorem guardS_f (d Y N) : guardS false d e (.bool b) Y N = partB b (N ((d, .tt) :: e)) (Y ((d, .ff) :: e)) := (rfl)
theorem guardS_tt (d Y N) : guardS true d e .tt Y N = Y e := (rfl)
theorem guardS_ft (d Y N) : guardS false d e .tt Y N = N e := (rfl)
theorem guardS_tf (d Y N) : guardS true d e .ff Y N = N e := (rfl)
theorem guardS_ff (d Y N) : guardS false d e .ff Y N = Y e := (rfl)
theorem guardS_skip (w d Y N) : guardS w d e .skipd Y N = N e := (rfl)
theorem pickS_t (A B) : pickS .tt A B = A := (rfl)
theorem pickS_f (A B) : pickS .ff A B = B := (rfl)
-- numbers
theorem v_add : arithV .add (.int .i64 x) (.int .i64 y) = .int .i64 (x + y) := (rfl)
theorem v_sub : arithV .sub (.int .i64 x) (.int .i64 y) = .int .i64 (x - y) := (rfl)
theorem v_mul : arithV .mul (.int .i64 x) (.int .i64 y) = .int .i64 (x * y) := (rfl)
theorem v_quo : arithV .quo (.int k x) (.int k y) = .int k (x / y) := (rfl)
theorem v_rem : arithV .rem (.int k x) (.int k y) = .int k (x % y) := (rfl)
theorem v_and : arithV .and (.int k x) (.int k y) = .int k (bitN .and x.toNat y.toNat : Nat) := (rfl)
theorem v_shl (k') : arithV .shl (.int k x) (.int k' y) = .int k (x * 2 ^ y.toNat) := (rfl)
theorem v_shr (k') : arithV .shr (.int k x) (.int k' y) = .int k (x / 2 ^ y.toNat) := (rfl)
theorem v_lss : arithV .lss (.int k x) (.int k y) = .bool (decide (x < y)) := (rfl)
theorem v_leq : arithV .leq (.int k x) (.int k y) = .bool (decide (x <= y)) := (rfl)
theorem v_gtr : arithV .gtr (.int k x) (.int k y) = .bool (decide (y < x)) := (rfl)
theorem v_geq : arithV .geq (.int k x) (.int k y) = .bool (decide (y <= x)) := (rfl)
theorem v_eql : arithV .eql (.int k x) (.int k y) = .bool (decide (x = y)) := (rfl)
theorem v_neq : arithV .neq (.int k x) (.int k y) = .bool (!decide (x = y)) := (rfl)
theorem v_eqb : arithV .eql (.bool b) (.bool b') = .bool (b == b') := (rfl)
theorem v_neb : arithV .neq (.bool b) (.bool b') = .bool (!(b == b')) := (rfl)
theorem v_eqs : arithV .eql (.str s) (.str s') = .bool (s.toList == s'.toList) := (rfl)
theorem v_nes : arithV .neq (.str s) (.str s') = .bool (!(s.toList == s'.toList)) := (rfl)
theorem v_adds : arithV .add (.str s) (.str s') = .str (s ++ s') := (rfl)
theorem p_add : arithP P t .add (.int .i64 x) (.int .i64 y) = RK .i64 (x + y) := by show (_ /\ _) = _; simp
theorem p_sub : arithP P t .sub (.int .i64 x) (.int .i64 y) = RK .i64 (x - y) := by show (_ /\ _) = _; simp
theorem p_mul : arithP P t .mul (.int .i64 x) (.int .i64 y) = RK .i64 (x * y) := by show (_ /\ _) = _; simp
theorem p_quo : arithP P t .quo (.int k x) (.int k y) = (0 <= x /\ 0 < y /\ RK k x) := by show (_ /\ _) = _; simp
theorem p_rem : arithP P t .rem (.int k x) (.int k y) = (0 <= x /\ 0 < y) := by show (_ /\ _) = _; simp
theorem p_and : arithP P t .and (.int k x) (.int k y) = ((0 <= x /\ RK k x) /\ 0 <= y /\ RK k y) := by show (_ /\ _) = _; simp
theorem p_shl (k') : arithP P t .shl (.int k x) (.int k' y) = ((0 <= y /\ y.toNat <= k.bits) /\ RK k (x * 2 ^ y.toNat)) := (rfl)
theorem p_shr (k') : arithP P t .shr (.int k x) (.int k' y) = (0 <= y /\ y.toNat <= k.bits) := (rfl)
theorem p_lss : arithP P t .lss (.int k x) (.int k y) = True := by show (k = k) = True; simp
theorem p_leq : arithP P t .leq (.int k x) (.int k y) = True := by show (k = k) = True; simp
theorem p_gtr : arithP P t .gtr (.int k x) (.int k y) = True := by show (k = k) = True; simp
theorem p_geq : arithP P t .geq (.int k x) (.int k y) = True := by show (k = k) = True; simp
theorem p_eql : arithP P t .eql (.int k x) (.int k y) = True := by show (k = k) = True; simp
theorem p_neq : arithP P t .neq (.int k x) (.int k y) = True := by show (k = k) = True; simp
theorem p_eqb : arithP P t .eql (.bool b) (.bool b') = (P.underlying t = some .bool) := (rfl)
theorem p_neb : arithP P t .neq (.bool b) (.bool b') = (P.underlying t = some .bool) := (rfl)
theorem p_eqs : arithP P t .eql (.str s) (.str s') = True := (rfl)
theorem p_nes : arithP P t .neq (.str s) (.str s') = True := (rfl)
theorem p_adds : arithP P t .add (.str s) (.str s') = (s.size + s'.size <= 9223372036854775807) := (rfl)
theorem v_not : notV (.bool b) = .bool (!b) := (rfl)
theorem p_not : notP (.bool b) = True := (rfl)
theorem v_neg : negV (.int k x) = .int k (0 - x) := (rfl)
theorem p_neg : negP (.int k x) = RK k (0 - x) := (rfl)
theorem v_conv (k') : convV (some k') (.int k x) = .int k' x := (rfl)
theorem p_conv (t2) (k') : convP P t t2 (some k') (.int k x) = ((P.underlying t).isSome = true /\ RK k' x) := (rfl)
-- memory
theorem v_ixi : idxV (some (none, m)) (.ints xs) (.int k i) = .iptr [.int .i64 (ix xs i)] := (rfl)
theorem v_ixr : idxV (some (none, m)) (.rows rs) (.int k i) = .iptr [.ints (ix rs i)] := (rfl)
theorem v_ixs : idxV (some (none, m)) (.strs ss) (.int k i) = .iptr [.str (ix ss i)] := (rfl)
theorem v_ixu : idxV (some (none, m)) (.bytes us) (.int k i) = .iptr [.int .u8 (ix us i).toNat] := (rfl)
theorem v_ixsl : idxV (some (none, m)) (.sl r) (.int k i) = .pa r i := (rfl)
theorem v_ixmt : idxV (some (none, m)) (.mt r) (.int k i) = .po r i := (rfl)
theorem v_ixmr : idxV (some (none, m)) (.mr r j) (.int k i) = .pm r j i := (rfl)
theorem p_ixi : idxP (some (none, 1)) kb (.ints xs) (.int k i) = (0 <= i /\ i < xs.length) := by show (_ /\ _ /\ _) = _; simp [isLst, widthOf, lenOf]
theorem p_ixr : idxP (some (none, 1)) kb (.rows rs) (.int k i) = (0 <= i /\ i < rs.length) := by show (_ /\ _ /\ _) = _; simp [isLst, widthOf, lenOf]
theorem p_ixs : idxP (some (none, 1)) kb (.strs ss) (.int k i) = (0 <= i /\ i < ss.length) := by show (_ /\ _ /\ _) = _; simp [isLst, widthOf, lenOf]
theorem p_ixu : idxP (some (none, 1)) kb (.bytes us) (.int k i) = (0 <= i /\ i < us.length) := by show (_ /\ _ /\ _) = _; simp [isLst, widthOf, lenOf]
theorem p_ixsl (v) : idxP (some (none, m)) (some (.arr v)) (.sl r) (.int k i) = ((0 <= i /\ i < lenOf v) /\ widthOf v = m) := (rfl)
theorem p_ixmt : idxP (some (none, 1)) (some (.mat rs)) (.mt r) (.int k i) = (0 <= i /\ i < rs.length) := by show (_ /\ _) = _; simp
theorem p_ixmr : idxP (some (none, 1)) (some (.mat rs)) (.mr r j) (.int k i) = (0 <= i /\ i < (ix rs j).length) := by show (_ /\ _) = _; simp
theorem w_ints : widthOf (.ints xs) = 1 := (rfl)
theorem l_ints : lenOf (.ints xs) = xs.length := (rfl)
theorem e_ints : elemAt (.ints xs) i = .int .i64 (ix xs i) := (rfl)
theorem a_int : isAgg1 (.int k i) = false := (rfl)
theorem v_ld1 : loadV .one kb (.iptr (c :: cs)) = c := (rfl)
theorem v_ldn : loadV (.agg n) kb (.iptr cs) = .agg (cs.take n) := (rfl)
theorem v_ldb1 : loadV .one (some (.box cs)) (.bx r n) = cs.getD n .undef := (rfl)
theorem v_ldbn : loadV (.agg m) (some (.box cs)) (.bx r n) = .agg ((cs.drop n).take m) := (rfl)
theorem v_lda (v) : loadV .one (some (.arr v)) (.pa r i) = elemAt v i := (rfl)
theorem v_ldm : loadV .one (some (.mat rs)) (.pm r i j) = .int .i64 (ix (ix rs i) j) := (rfl)
theorem v_ldo : loadV .one (some (.mat rs)) (.po r i) = .mr r i := (rfl)
theorem p_ld1 : loadP .one kb (.iptr (c :: cs)) = True := (rfl)
theorem p_ldn : loadP (.agg n) kb (.iptr cs) = (n <= cs.length) := (rfl)
theorem p_ldb1 : loadP .one (some (.box cs)) (.bx r n) = (n < cs.length) := (rfl)
theorem p_ldbn : loadP (.agg m) (some (.box cs)) (.bx r n) = (n + m <= cs.length) := (rfl)
theorem p_lda (v) : loadP .one (some (.arr v)) (.pa r i) = (isAgg1 (elemAt v i) = false) := (rfl)
theorem p_ldm : loadP .one (some (.mat rs)) (.pm r i j) = True := (rfl)
theorem p_ldo : loadP .one (some (.mat rs)) (.po r i) = True := (rfl)
theorem b_iptr : blkOf h (.iptr cs) = none := (rfl)
theorem nk_bx : (ptrB (.bx r n) = true) = True := by simp [ptrB]
theorem b_bx : blkOf h (.bx r n) = h.look r := (rfl)
theorem b_sl : blkOf h (.sl r) = h.look r := (rfl)
theorem b_mt : blkOf h (.mt r) = h.look r := (rfl)
theorem b_mr : blkOf h (.mr r i) = h.look r := (rfl)
theorem b_pa : blkOf h (.pa r i) = h.look r := (rfl)
theorem b_pm : blkOf h (.pm r i j) = h.look r := (rfl)
theorem b_po : blkOf h (.po r i) = h.look r := (rfl)
theorem v_fld (d) : fieldV (some (n, d)) (.iptr cs) = .iptr (cs.drop n) := (rfl)
theorem p_fld (d) : fieldP (some (n, d)) kb (.iptr cs) = True := (rfl)
theorem v_fldb (d) : fieldV (some (n, d)) (.bx r m) = .bx r (m + n) := (rfl)
theorem p_fldb (d) : fieldP (some (n, d)) (some (.box cs)) (.bx r m) = (m + n <= cs.length) := (rfl)
theorem v_ext : extractV n (.tup cs) = cs.getD n .undef := (rfl)
theorem p_ext : extractP n (.tup cs) = (n < cs.length) := (rfl)
theorem v_leni : lenV kb (.ints xs) = .int .i64 xs.length := (rfl)
theorem v_lenr : lenV kb (.rows rs) = .int .i64 rs.length := (rfl)
theorem v_lens : lenV kb (.strs ss) = .int .i64 ss.length := (rfl)
theorem v_lenu : lenV kb (.bytes us) = .int .i64 us.length := (rfl)
theorem v_lenstr : lenV kb (.str s) = .int .i64 s.size := (rfl)
theorem v_lensl (v) : lenV (some (.arr v)) (.sl r) = .int .i64 (lenOf v) := (rfl)
theorem v_lenmt : lenV (some (.mat rs)) (.mt r) = .int .i64 rs.length := (rfl)
theorem v_lenmr : lenV (some (.mat rs)) (.mr r i) = .int .i64 (ix rs i).length := (rfl)
theorem p_leni : lenP P t kb (.ints xs) = isSl P t := (rfl)
theorem p_lenr : lenP P t kb (.rows rs) = isSl P t := (rfl)
theorem p_lens : lenP P t kb (.strs ss) = isSl P t := (rfl)
theorem p_lenu : lenP P t kb (.bytes us) = isSl P t := (rfl)
theorem p_lenstr : lenP P t kb (.str s) = (P.underlying t = some .string) := (rfl)
theorem p_lensl (v) : lenP P t (some (.arr v)) (.sl r) = isSl P t := (rfl)
theorem p_lenmt : lenP P t (some (.mat rs)) (.mt r) = isSl P t := (rfl)
theorem p_lenmr : lenP P t (some (.mat rs)) (.mr r i) = isSl P t := (rfl)
theorem v_sidx : sidxV (.str s) (.int k i) = .int .u8 (byteAt s i).toNat := (rfl)
theorem p_sidx : sidxP P t (.str s) (.int k i) = (P.underlying t = some .string /\ 0 <= i /\ i < s.size) := (rfl)
theorem v_min : minmaxV .min (.int k x) (.int k y) = .int k (min x y) := (rfl)
theorem p_min : minmaxP .min (.int k x) (.int k y) = True := (rfl)
-- purity
theorem pu_int : AV.pureB (.int k x) = true := (rfl)
theorem pu_str : AV.pureB (.str s) = true := (rfl)
theorem pu_ints : AV.pureB (.ints xs) = true := (rfl)
theorem pu_rows : AV.pureB (.rows rs) = true := (rfl)
theorem pu_strs : AV.pureB (.strs ss) = true := (rfl)
theorem pu_bytes : AV.pureB (.bytes us) = true := (rfl)
theorem pu_iptr : AV.pureB (.iptr cs) = true := (rfl)
theorem pu_bnd (f : FuncId) : AV.pureB (.bnd f cs) = true := (rfl)
theorem pu_agg : AV.pureB (.agg cs) = cs.all AV.pure2 := (rfl)
theorem pu_fn (f) : AV.pureB (.fn f cs) = cs.all AV.pure2 := (rfl)
theorem p1_int : AV.pure1 (.int k x) = true := (rfl)
theorem p1_ints : AV.pure1 (.ints xs) = true := (rfl)
theorem p1_rows : AV.pure1 (.rows rs) = true := (rfl)
theorem c_agg : AV.cells (.agg cs) = cs := (rfl)
theorem c_int : AV.cells (.int k x) = [.int k x] := (rfl)
theorem c_sl : AV.cells (.sl r) = [.sl r] := (rfl)
theorem c_mt : AV.cells (.mt r) = [.mt r] := (rfl)
theorem u_agg : AV.isUndef (.agg cs) = false := (rfl)
theorem u_int : AV.isUndef (.int k x) = false := (rfl)
-- freezing
variable (φ : AV -> AV) (H : HF) (keep : Nat -> Bool)
theorem tr_int : AV.tr φ (.int k x) = .int k x := (rfl)
theorem tr_bool : AV.tr φ (.bool b) = .bool b := (rfl)
theorem tr_str : AV.tr φ (.str s) = .str s := (rfl)
theorem tr_ints : AV.tr φ (.ints xs) = .ints xs := (rfl)
theorem tr_rows : AV.tr φ (.rows rs) = .rows rs := (rfl)
theorem tr_strs : AV.tr φ (.strs ss) = .strs ss := (rfl)
theorem tr_bytes : AV.tr φ (.bytes us) = .bytes us := (rfl)
theorem tr_nils : AV.tr φ .nils = .nils := (rfl)
theorem tr_undef : AV.tr φ .undef = .undef := (rfl)
theorem tr_skipd : AV.tr φ .skipd = .skipd := (rfl)
theorem tr_tt : AV.tr φ .tt = .tt := (rfl)
theorem tr_ff : AV.tr φ .ff = .ff := (rfl)
theorem tr_iptr : AV.tr φ (.iptr cs) = .iptr cs := (rfl)
theorem tr_bnd (f : FuncId) : AV.tr φ (.bnd f cs) = .bnd f cs := (rfl)
theorem tr_agg : AV.tr φ (.agg cs) = .agg (AV.trL φ cs) := (rfl)
theorem tr_tup : AV.tr φ (.tup cs) = .tup (AV.trL φ cs) := (rfl)
theorem tr_fn (f) : AV.tr φ (.fn f cs) = .fn f (AV.trL φ cs) := (rfl)
theorem tr_sl : AV.tr φ (.sl r) = φ (.sl r) := (rfl)
theorem tr_mt : AV.tr φ (.mt r) = φ (.mt r) := (rfl)
theorem tr_mr : AV.tr φ (.mr r i) = φ (.mr r i) := (rfl)
theorem tr_bx : AV.tr φ (.bx r n) = φ (.bx r n) := (rfl)
theorem tr_pa : AV.tr φ (.pa r i) = φ (.pa r i) := (rfl)
theorem tr_pm : AV.tr φ (.pm r i j) = φ (.pm r i j) := (rfl)
theorem tr_po : AV.tr φ (.po r i) = φ (.po r i) := (rfl)
theorem tr_vec : AV.tr φ (.vec cs) = .vec (AV.trL φ cs) := (rfl)
theorem trL_nil : AV.trL φ [] = [] := (rfl)
theorem trL_cons : AV.trL φ (c :: cs) = AV.tr φ c :: AV.trL φ cs := (rfl)
def WHeap0 (φ : AV -> AV) (h : Heap) : Heap -> Prop
  | [] => True
  | (r, k') :: h' => CoO (h.look r) φ k' /\ WHeap0 φ h h'
theorem wheap_up {φ : AV -> AV} {h : Heap} {n m : Nat} (hm : n <= m) : ∀ {h' : Heap}, WHeap φ h n h' -> WHeap φ h m h'
  | [], _ => trivial
  | (r, k) :: h', hw => ⟨⟨hw.1.1, Nat.lt_of_lt_of_le hw.1.2 hm⟩, wheap_up hm hw.2⟩
theorem wheap_ex (φ : AV -> AV) (h : Heap) : ∀ h' : Heap, (∃ n', WHeap φ h n' h') = WHeap0 φ h h'
  | [] => by simp [WHeap, WHeap0]
  | (r, k) :: h' => by
    have ih := wheap_ex φ h h'
    refine propext ⟨fun ⟨n', hw⟩ => ⟨hw.1.1, by rw [<- ih]; exact ⟨n', hw.2⟩⟩, fun ⟨h1, h2⟩ => ?_⟩
    rw [<- ih] at h2
    obtain ⟨n', h3⟩ := h2
    exact ⟨max (r + 1) n', ⟨h1, by omega⟩, wheap_up (by omega) h3⟩
def contSl (k : Option Blk) : AV := match k with | some (.arr v) => v | _ => .undef
def contMt (k : Option Blk) : AV := match k with | some (.mat v) => .rows v | _ => .undef
theorem frzA_sl : frzA keep H (.sl r) = bif keep r then .sl r else contSl (H r) := (rfl)
theorem frzA_mt : frzA keep H (.mt r) = bif keep r then .mt r else contMt (H r) := (rfl)
def contMr (k : Option Blk) (i : Int) : AV := match k with | some (.mat v) => .ints (ix v i) | _ => .undef
theorem frzA_mr : frzA keep H (.mr r i) = bif keep r then .mr r i else contMr (H r) i := (rfl)
theorem contMr_some : contMr (some (.mat rs)) i = .ints (ix rs i) := (rfl)
theorem frzA_bx : frzA keep H (.bx r n) = bif keep r then .bx r n else .undef := (rfl)
theorem contSl_some (v) : contSl (some (.arr v)) = v := (rfl)
theorem contMt_some : contMt (some (.mat rs)) = .rows rs := (rfl)
theorem keeps_eq : keeps h r = (h.look r).isSome := (rfl)
theorem btr_box : Blk.tr φ (.box cs) = .box (AV.trL φ cs) := (rfl)
theorem btr_arr (v) : Blk.tr φ (.arr v) = .arr v := (rfl)
theorem btr_mat : Blk.tr φ (.mat rs) = .mat rs := (rfl)
theorem coB_box (ds) : CoB (.box cs) (.box ds) = CoL cs ds := (rfl)
theorem coB_arr (v u) : CoB (.arr v) (.arr u) = (v = u) := (rfl)
theorem coB_mat (rs') : CoB (.mat rs) (.mat rs') = (rs = rs') := (rfl)
theorem coO_some (k k') : CoO (some k) φ k' = CoB (k.tr φ) k' := (rfl)
theorem wenv_nil : WEnv φ e [] = True := (rfl)
theorem wenv_cons (q v e') : WEnv φ e ((q, v) :: e') = (Co ((e.get q).tr φ) v /\ WEnv φ e e') := (rfl)
theorem wheap_nil : WHeap φ h n [] = True := (rfl)
theorem wheap_cons (q v h') : WHeap φ h n ((q, v) :: h') = ((CoO (h.look q) φ v /\ q < n) /\ WHeap φ h n h') := (rfl)
theorem weak_eq (e' h') : Weak e h e' h' n = (WEnv (frzA (keeps h') h.look) e e' /\ WHeap (frzA (keeps h') h.look) h n h') := (rfl)
theorem co_int (v) : Co (.int k x) v = (AV.int k x = v) := by simp [Co]
theorem co_bool (v) : Co (.bool b) v = (AV.bool b = v) := by simp [Co]
theorem co_str (v) : Co (.str s) v = (AV.str s = v) := by simp [Co]
theorem co_ints (v) : Co (.ints xs) v = (AV.ints xs = v) := by simp [Co]
theorem co_rows (v) : Co (.rows rs) v = (AV.rows rs = v) := by simp [Co]
theorem co_strs (v) : Co (.strs ss) v = (AV.strs ss = v) := by simp [Co]
theorem co_bytes (v) : Co (.bytes us) v = (AV.bytes us = v) := by simp [Co]
theorem co_iptr (v) : Co (.iptr cs) v = (AV.iptr cs = v) := by simp [Co]
theorem co_fn (f v) : Co (.fn f cs) v = (AV.fn f cs = v) := by simp [Co]
theorem co_bnd (f v) : Co (.bnd f cs) v = (AV.bnd f cs = v) := by simp [Co]
theorem co_sl (v) : Co (.sl r) v = (AV.sl r = v) := by simp [Co]
theorem co_mt (v) : Co (.mt r) v = (AV.mt r = v) := by simp [Co]
theorem co_mr (v) : Co (.mr r i) v = (AV.mr r i = v) := by simp [Co]
theorem co_bx (v) : Co (.bx r n) v = (AV.bx r n = v) := by simp [Co]
theorem co_agg (ds) : Co (.agg cs) (.agg ds) = CoL cs ds := by simp [Co]
theorem co_tup (ds) : Co (.tup cs) (.tup ds) = CoL cs ds := by simp [Co]
theorem co_nili : Co .nils (.ints xs) = (xs = []) := by simp [Co]
theorem co_nilr : Co .nils (.rows rs) = (rs = []) := by simp [Co]
theorem co_nn : Co .nils .nils = True := by simp [Co]
theorem coL_nil : CoL [] [] = True := by simp [CoL]
theorem coL_cons (d ds) : CoL (c :: cs) (d :: ds) = (Co c d /\ CoL cs ds) := by simp [CoL]
theorem retA_eq (rs val new) : retA P rs val new e h = (resPL P e h rs /\ Co ((tupOf (resL P e h rs)).tr (frzA (keeps new) h.look)) val /\ WHeap0 (frzA (keeps new) h.look) h new) := by
  show (_ /\ _ /\ _) = _
  rw [wheap_ex]
theorem wheap0_nil : WHeap0 φ h [] = True := (rfl)
theorem wheap0_cons (q v h') : WHeap0 φ h ((q, v) :: h') = (CoO (h.look q) φ v /\ WHeap0 φ h h') := (rfl)
theorem resPL_nil : resPL P e h [] = True := (rfl)
theorem resPL_tmp (l) : resPL P e h (.tmp t :: l) = resPL P e h l := by show (True /\ _) = _; simp
theorem resPL_cell (a l) : resPL P e h (.cell a t :: l) = (loadP (td P t) (blkOf h (e.get a)) (e.get a) /\ resPL P e h l) := (rfl)
theorem resL_nil : resL P e h [] = [] := (rfl)
theorem resL_tmp (l) : resL P e h (.tmp t :: l) = e.get t :: resL P e h l := (rfl)
theorem resL_cell (a l) : resL P e h (.cell a t :: l) = loadV (td P t) (blkOf h (e.get a)) (e.get a) :: resL P e h l := (rfl)
theorem envOf_nil : envOf n [] = [] := (rfl)
theorem envOf_cons : envOf n (c :: cs) = (n, c) :: envOf (n + 1) cs := (rfl)
theorem tupOf_1 : tupOf [c] = c := (rfl)
theorem tupOf_2 (d) : tupOf (c :: d :: cs) = .tup (c :: d :: cs) := (rfl)
-- stores
theorem st_bx1 (d) : storeR hint .one (some (.box cs)) (.bx r n) d e h = ⟨n + d.cells.length <= cs.length /\ d.cell1 = true, e, hset h r (.box (setCells cs n d.cells))⟩ := (rfl)
theorem st_bxn (ds) : storeR hint (.agg m) (some (.box cs)) (.bx r n) (.agg ds) e h = ⟨n + ds.length <= cs.length /\ (isAgg1 (.agg ds) = true /\ ds.length = m) /\ ds.all AV.cell1 = true, e, hset h r (.box (setCells cs n ds))⟩ := (rfl)
theorem st_pai : storeR hint .one (some (.arr (.ints xs))) (.pa r i) (.int .i64 x) e h = ⟨True, e, hset h r (.arr (.ints (xs.set i.toNat x)))⟩ := (rfl)
theorem st_pm : storeR hint .one (some (.mat rs)) (.pm r i j) (.int .i64 x) e h = ⟨True, e, hset h r (.mat (rs.set i.toNat ((ix rs i).set j.toNat x)))⟩ := (rfl)
def rowQ (hint : Hint) (r : Nat) (i : Int) (xss : List (List Int)) (n : Nat) (k : Option Blk) (e : Env) (h : Heap) : ResM := rowR hint .one r i xss n k e h
theorem hset_cons (q v w) : hset ((q, v) :: h) r w = if q = r then (q, w) :: h else (q, v) :: hset h r w := (rfl)
end
theorem bndV_s (d : Int) (k n) : bndV d (some (.int k n)) = n := (rfl)
theorem bndV_n (d : Int) : bndV d none = d := (rfl)
theorem bndP_s (k n) : bndP (some (.int k n)) = True := (rfl)
theorem bndP_n : bndP none = True := (rfl)
theorem v_cutr (xs lo hi) : sliceV (.rows xs) lo hi = .rows (cutL xs (bndV 0 lo) (bndV xs.length hi)) := (rfl)
theorem v_cuts (xs lo hi) : sliceV (.strs xs) lo hi = .strs (cutL xs (bndV 0 lo) (bndV xs.length hi)) := (rfl)
theorem v_cutstr (s : ByteArray) (lo hi) : sliceV (.str s) lo hi = .str (s.extract (bndV 0 lo).toNat (bndV s.size hi).toNat) := (rfl)
theorem p_cutr (P t xs lo hi) : sliceP P t (.rows xs) lo hi = (((bndP lo /\ bndP hi) /\ ed P t = some (none, 1)) /\ isSl P t /\ 0 <= bndV 0 lo /\ bndV 0 lo <= bndV xs.length hi /\ bndV xs.length hi <= xs.length) := (rfl)
theorem p_cuts (P t xs lo hi) : sliceP P t (.strs xs) lo hi = (((bndP lo /\ bndP hi) /\ ed P t = some (none, 1)) /\ isSl P t /\ 0 <= bndV 0 lo /\ bndV 0 lo <= bndV xs.length hi /\ bndV xs.length hi <= xs.length) := (rfl)
theorem p_cutstr (P t) (s : ByteArray) (lo hi) : sliceP P t (.str s) lo hi = ((bndP lo /\ bndP hi) /\ P.underlying t = some .string /\ 0 <= bndV 0 lo /\ bndV 0 lo <= bndV s.size hi /\ bndV s.size hi <= s.size) := (rfl)
def forkP (p A B : Prop) : Prop := (p -> A) /\ (¬p -> B)
theorem partB_dec (p : Prop) [Decidable p] (A B) : partB (decide p) A B = forkP p A B := by
  by_cases h : p <;> simp [partB, forkP, h]
theorem partB_not (b : Bool) (A B) : partB (!b) A B = partB b B A := by cases b <;> simp [partB]
theorem fork_intro {p A B : Prop} (h1 : p -> A) (h2 : ¬p -> B) : forkP p A B := ⟨h1, h2⟩
def allocZ (own : Bool) (n : Nat) (z : Option Value) : Res := match z with | some z => boxR own n (cst z) | none => ⟨False, .undef, [], 0⟩
theorem allocR_eq (P own n t) : allocR P own n t = allocZ own n (zv P t) := (rfl)
theorem allocZ_some (own n z) : allocZ own n (some z) = boxR own n (cst z) := (rfl)
theorem cst_agg (vs) : cst (.agg ⟨vs⟩) = .agg (vs.map cst1) := (rfl)
theorem setCells_eq (cs off xs) : setCells cs off xs = cs.take off ++ xs ++ cs.drop (off + xs.length) := (rfl)
theorem k1_int (k : IntKind) (x : Int) : AV.cell1 (.int k x) = true := (rfl)
theorem k1_ints (xs : List Int) : AV.cell1 (.ints xs) = true := (rfl)
theorem k1_rows (xs : List (List Int)) : AV.cell1 (.rows xs) = true := (rfl)
theorem k1_nils  : AV.cell1 .nils = true := (rfl)
theorem k1_sl (r : Nat) : AV.cell1 (.sl r) = true := (rfl)
theorem ag_agg (cs) : isAgg1 (.agg cs) = true := (rfl)
theorem nB_int (k : IntKind) (x : Int) : AV.noL (.int k x) = true := (rfl)
theorem n2_int (k : IntKind) (x : Int) : AV.noL2 (.int k x) = true := (rfl)
theorem r1_int (n : Nat) (k : IntKind) (x : Int) : ren1 n (.int k x) = (.int k x, []) := (rfl)
theorem nB_bool (b : Bool) : AV.noL (.bool b) = true := (rfl)
theorem n2_bool (b : Bool) : AV.noL2 (.bool b) = true := (rfl)
theorem nB_str (s : ByteArray) : AV.noL (.str s) = true := (rfl)
theorem n2_str (s : ByteArray) : AV.noL2 (.str s) = true := (rfl)
theorem r1_str (n : Nat) (s : ByteArray) : ren1 n (.str s) = (.str s, []) := (rfl)
theorem p2_ints (xs : List Int) : AV.pure2 (.ints xs) = true := (rfl)
theorem nB_ints (xs : List Int) : AV.noL (.ints xs) = false := (rfl)
theorem n2_ints (xs : List Int) : AV.noL2 (.ints xs) = false := (rfl)
theorem n1_ints (xs : List Int) : AV.noL1 (.ints xs) = false := (rfl)
theorem r1_ints (n : Nat) (xs : List Int) : ren1 n (.ints xs) = (.ints xs, []) := (rfl)
theorem p2_rows (xs : List (List Int)) : AV.pure2 (.rows xs) = true := (rfl)
theorem nB_rows (xs : List (List Int)) : AV.noL (.rows xs) = false := (rfl)
theorem n1_rows (xs : List (List Int)) : AV.noL1 (.rows xs) = false := (rfl)
theorem nB_strs (xs : List ByteArray) : AV.noL (.strs xs) = false := (rfl)
theorem q1_bytes (xs : List UInt8) : AV.pure1 (.bytes xs) = true := (rfl)
theorem kk_bytes (xs : List UInt8) : AV.cell1 (.bytes xs) = true := (rfl)
theorem r1_bytes (n : Nat) (xs : List UInt8) : ren1 n (.bytes xs) = (.bytes xs, []) := (rfl)
theorem p2_iptr (cs : List AV) : AV.pure2 (.iptr cs) = true := (rfl)
theorem pB_sl (r : Nat) : AV.pureB (.sl r) = false := (rfl)
theorem p2_sl (r : Nat) : AV.pure2 (.sl r) = false := (rfl)
theorem nB_sl (r : Nat) : AV.noL (.sl r) = true := (rfl)
theorem n2_sl (r : Nat) : AV.noL2 (.sl r) = true := (rfl)
theorem n1_sl (r : Nat) : AV.noL1 (.sl r) = true := (rfl)
theorem p2_mt (r : Nat) : AV.pure2 (.mt r) = false := (rfl)
theorem nB_mt (r : Nat) : AV.noL (.mt r) = true := (rfl)
theorem n2_mt (r : Nat) : AV.noL2 (.mt r) = true := (rfl)
theorem n1_mt (r : Nat) : AV.noL1 (.mt r) = true := (rfl)
theorem kk_mt (r : Nat) : AV.cell1 (.mt r) = true := (rfl)
theorem nB_agg (cs : List AV) : AV.noL (.agg cs) = cs.all AV.noL2 := (rfl)
theorem n2_agg (cs : List AV) : AV.noL2 (.agg cs) = cs.all AV.noL1 := (rfl)
theorem nB_tup (cs : List AV) : AV.noL (.tup cs) = cs.all AV.noL2 := (rfl)
theorem r0_sl (n r : Nat) : ren0 n (.sl r) = (.sl n, [.whole r]) := (rfl)
theorem r0_mt (n r : Nat) : ren0 n (.mt r) = (.mt n, [.whole r]) := (rfl)
theorem r1_sl (n r : Nat) : ren1 n (.sl r) = (.sl n, [.whole r]) := (rfl)
theorem r1_bx (n r o : Nat) : ren1 n (.bx r o) = (.bx n o, [.whole r]) := (rfl)
theorem nb_ints (xs : List Int) : Blk.noL (.arr (.ints xs)) = true := (rfl)
theorem nb_strs (xs : List ByteArray) : Blk.noL (.arr (.strs xs)) = true := (rfl)
theorem nb_mat (xs : List (List Int)) : Blk.noL (.mat xs) = true := (rfl)
theorem nH_nil  : Heap.noL [] = true := (rfl)
theorem nH_cons (r : Nat) (k : Blk) (h : Heap) : Heap.noL ((r, k) :: h) = (k.noL && Heap.noL h) := (rfl)
theorem TabOK.nil (P : Program) : TabOK P [] := ⟨TableOK.nil _, fun _ _ h => by cases h⟩
theorem TabOK.cons {P : Program} {C : Table} {f : FuncId} {fn : Func} {c : Contract} (hf : P.funcs[f]? = some fn) (hb : (fn.body.isSome && !(fn.name == "runtime.NumGoroutine")) = true)
    (h : CtrOK P f c) (hC : TabOK P C) : TabOK P ((f, c) :: C) := by
  refine ⟨TableOK.cons h hC.spec, fun q c hm => ?_⟩
  cases hm with
  | head =>
    simp only [Bool.and_eq_true, Bool.not_eq_true'] at hb
    exact ⟨fn, hf, hb.1, hb.2⟩
  | tail _ hm => exact hC.call q c hm
theorem TabOK.append {P : Program} {C D : Table} (h : TabOK P C) (k : TabOK P D) : TabOK P (C ++ D) :=
  ⟨fun f c hm => (List.mem_append.1 hm).elim (h.spec f c) (k.spec f c), fun f c hm => (List.mem_append.1 hm).elim (h.call f c) (k.call f c)⟩
theorem CtrOK.pure {P : Program} {f : FuncId} {g : List AV -> Prop × AV} (h : ∀ args, (g args).1 -> SpecOK P f args (g args).2 []) : CtrOK P f (pureC g) :=
  fun args n hp => ⟨h args hp, fun r hr => (hr rfl).elim⟩
theorem TabOK.pure {P : Program} {C : Table} {f : FuncId} {fn : Func} {g : List AV -> Prop × AV} (hf : P.funcs[f]? = some fn) (hb : (fn.body.isSome && !(fn.name == "runtime.NumGoroutine")) = true)
    (h : ∀ args, (g args).1 -> SpecOK P f args (g args).2 []) (hC : TabOK P C) : TabOK P ((f, pureC g) :: C) := .cons hf hb (.pure h) hC
theorem SpecOK.below {P : Program} {f : FuncId} {args : List AV} (h : SpecOK P f args (.bool true) []) {S : Store} {w : World} {cargs : Array Value} (hS : StoreIn S w) (hsz : cargs.size = args.length)
    (hargs : ∀ (j : Nat) x v, args[j]? = some x -> cargs[j]? = some v -> Sees S x v) : Calls P f cargs w fun e w' => e = .returned (.bool true) /\ Below w.heap.size w w' := by
  refine (h S w cargs hS hsz hargs).mono ?_
  rintro e w' ⟨cv, S', ρ', rfl, _, _, _, hk, hv⟩
  exact ⟨by rw [hv.bool_inv], ⟨hk.os, hk.tape, hk.output, hk.size, fun k hb => hk.block k hb (by omega)⟩⟩
def allS (w : World) : Store := fun b => match w.heap[b]? with
  | some (.cells c _ _) => some c
  | _ => none
theorem allS_in (w : World) (ha : Amb (allS w) := by first | exact trivial | assumption) : StoreIn (allS w) w := by
  refine ⟨ha, ?_⟩
  intro b c hb
  unfold allS at hb
  split at hb
  · rename_i c' el fr he; cases hb; exact ⟨el, fr, he⟩
  · cases hb
def LoopEnd {G : Type} (n0 : Nat) (E : G -> Env) (Hp : G -> Heap) (N : Nat) (φ : G -> Prop) (μ : G -> Nat) (m : Nat) (e : Env) (h : Heap) (n : Nat) : Prop :=
  WeakTo n0 (fun e h n => ∃ m', m' < m /\ ∃ g, φ g /\ μ g = m' /\ e = E g /\ h = Hp g /\ n = N) e h n
theorem LoopEnd.intro {G : Type} {n0 : Nat} {E : G -> Env} {Hp : G -> Heap} {N : Nat} {φ : G -> Prop} {μ : G -> Nat} {m : Nat} {e : Env} {h : Heap} {n : Nat} (g : G) (hφ : φ g) (hμ : μ g < m) (hn : n0 <= N) (hw : Weak e h (E g) (Hp g) N) : LoopEnd n0 E Hp N φ μ m e h n :=
  ⟨_, _, _, ⟨hn, hw⟩, _, hμ, g, hφ, rfl, rfl, rfl, rfl⟩
theorem loop_intro {n0 : Nat} {P : Program} {C : Table} {hint : Hint} {b : Code} {Q : AQ} {e : Env} {h : Heap} {n : Nat} {G : Type} (E : G -> Env) (Hp : G -> Heap) (N : Nat) (φ : G -> Prop) (μ : G -> Nat) (g0 : G) (h0 : φ g0) (hn : n0 <= N) (hw : Weak e h (E g0) (Hp g0) N)
    (hr : ∀ g, φ g -> codeA P C hint b (thenA (LoopEnd n0 E Hp N φ μ (μ g)) Q) (E g) (Hp g) N) : loopA n0 (codeA P C hint b) Q e h n := by
  refine ⟨fun m e h n => ∃ g, φ g /\ μ g = m /\ e = E g /\ h = Hp g /\ n = N, μ g0, ⟨_, _, _, ⟨hn, hw⟩, g0, h0, rfl, rfl, rfl, rfl⟩, ?_⟩
  rintro m e h n ⟨g, hg, rfl, rfl, rfl, rfl⟩
  exact hr g hg
@[congr] theorem storK_congr {r r' : ResM} (K : Env -> Heap -> Prop) (h : r = r') : storK r K = storK r' K := by rw [h]
@[congr] theorem callK_congr {r r' : Res} (K : AV -> Heap -> Nat -> Prop) (h : r = r') : callK r K = callK r' K := by rw [h]
@[congr] theorem memK_congr {r r' : ResC} (K : AV -> Env -> Heap -> Nat -> Prop) (h : r = r') : memK r K = memK r' K := by rw [h]
@[congr] theorem condA_congr {v v' : AV} (A B : Prop) (h : v = v') : condA v A B = condA v' A B := by rw [h]
@[congr] theorem pickS_congr {v v' : AV} (A B : Prop) (h : v = v') : pickS v A B = pickS v' A B := by rw [h]
@[congr] theorem appS_congr {v v' : AV} (A M B : Prop) (h : v = v') : appS v A M B = appS v' A M B := by rw [h]
@[congr] theorem selP_congr {b b' : Bool} (A B : Prop) (h : b = b') : selP b A B = selP b' A B := by rw [h]
@[congr] theorem nilS_congr {P : Program} {t : TypeId} {v v' : AV} {y : Operand} (K : Bool -> Prop) (h : v = v') : nilS P t v y K = nilS P t v' y K := by rw [h]
@[congr] theorem upS_congr {v v' : AV} (A : Prop) (h : v = v') : upS v A = upS v' A := by rw [h]
@[congr] theorem upfS_congr {v v' : AV} {k k' : Option Blk} (off : Nat) (A : Nat -> List AV -> Nat -> Prop) (h : v = v') (h2 : k = k') : upfS v k off A = upfS v' k' off A := by rw [h, h2]
@[congr] theorem renS_congr {v v' : AV} {k k' : Option Blk} (A : Nat -> AV -> Prop) (h : v = v') (h2 : k = k') : renS v k A = renS v' k' A := by rw [h, h2]
@[congr] theorem fuseS_congr {v v' y y' p p' i i' : AV} {k k' : Option Blk} (A : Nat -> Int -> List (List Int) -> List Int -> Prop) (h : v = v') (h2 : k = k') (h3 : y = y') (h4 : p = p') (h5 : i = i') : fuseS v k y p i A = fuseS v' k' y' p' i' A := by rw [h, h2, h3, h4, h5]
@[congr] theorem rowS_congr {v v' : AV} {k k' : Option Blk} (A : Nat -> List Int -> Prop) (h : v = v') (h2 : k = k') : rowS v k A = rowS v' k' A := by rw [h, h2]
@[congr] theorem guardD_congr {d d' : Option Tmp} (w : Bool) (e : Env) (Y N : Env -> Prop) (h : d = d') : guardD w d e Y N = guardD w d' e Y N := by rw [h]
@[congr] theorem guardS_congr {v v' : AV} (w : Bool) (d : Tmp) (e : Env) (Y N : Env -> Prop) (h : v = v') : guardS w d e v Y N = guardS w d e v' Y N := by rw [h]
@[congr] theorem selR_congr {b b' : Bool} (A B : Res) (h : b = b') : selR b A B = selR b' A B := by rw [h]
@[congr] theorem regA_congr {n0 n0' : Nat} {l l' : List GOp} {e e' : Env} {h h' : Heap} {n n' : Nat} (A : Env -> Heap -> Nat -> Prop) (h0 : n0 = n0') (h1 : l = l') (h2 : e = e') (h3 : h = h') (h4 : n = n') : regA n0 l A e h n = regA n0' l' A e' h' n' := by rw [h0, h1, h2, h3, h4]
@[congr] theorem opsA_congr {P : Program} {C : Table} {hint : Hint} {all l : List Oper} {e e' : Env} {h h' : Heap} {n n' : Nat} (K : Env -> Heap -> Nat -> Prop) (h2 : e = e') (h3 : h = h') (h4 : n = n') : opsA P C hint all l e h n K = opsA P C hint all l e' h' n' K := by rw [h2, h3, h4]
@[congr] theorem loopA_congr {n0 : Nat} (B : AQ -> Env -> Heap -> Nat -> Prop) (Q : AQ) {e e' : Env} {h h' : Heap} {n n' : Nat} (h2 : e = e') (h3 : h = h') (h4 : n = n') : loopA n0 B Q e h n = loopA n0 B Q e' h' n' := by rw [h2, h3, h4]
attribute [go_sem ↓] codeA_skip codeA_region codeA_seq codeA_cond codeA_block codeA_exit codeA_ret codeA_loop thenA_normal thenA_exit thenA_ret blockA_normal blockA_ret blockA_exit endA_ret
def lateV (u v : AV) : Prop := u = v /\ u.pureB = true
theorem fuseP_eq (P : Program) (hint : Hint) (d1 ts : Tmp) (y t1 tx g1 g2 g3) (d2 : Tmp) (t2 p k g4 g5 g6 t3 a b g7 g8 g9) (K : Env -> Heap -> Nat -> Prop) (e h n) :
    fuseP P hint [⟨some d1, .call ⟨.builtin .append, ⟨[.tmp ts, y]⟩, ⟨[t1, tx]⟩⟩, g1, g2, g3, none⟩, ⟨some d2, .indexAddr t2 p k, g4, g5, g6, none⟩, ⟨none, .store t3 a b, g7, g8, g9, none⟩] K e h n =
    fuseS (e.get ts) (blkOf h (e.get ts)) (opnd e y) (opnd e p) (opnd e k) (fun r i xss ys =>
      (hint.n0 <= r /\ apP (ap P t1) 1 ((ix xss i).length + ys.length) /\ isSl P tx /\ ed P t2 = some (none, 1) /\ td P t3 = .one) /\
        K ((d2, .undef) :: (d1, .undef) :: trE (purN [] [r]) e) ((r, .mat (xss.set i.toNat (ix xss i ++ ys))) :: trH (purN [] [r]) [r] h) n) := (rfl)
theorem fuseS_eq (r i xss ys r' kk i' A) : fuseS (.mr r i) (some (.mat xss)) (.ints ys) (.mt r') (.int kk i') A = ((r' = r /\ i' = i) /\ A r i xss ys) := (rfl)
def pureO (e : Env) (y : Operand) : Prop := match y with | .tmp t => (e.get t).pureB = true | _ => True
def pureOo (e : Env) (y : Option Operand) : Prop := match y with | some y => pureO e y | none => True
def pureOl (e : Env) : List (Nat × Operand) -> Prop | [] => True | p :: r => pureO e p.2 /\ pureOl e r
section
variable (P : Program) (C : Table) (hint : Hint) (e : Env) (d : Tmp) (t : TypeId) (pos : String) (af : Array Edge)
end
attribute [go_sem_proc ↓] reduceIte
attribute [go_sem_proc] Nat.reduceEqDiff Nat.reduceBEq Nat.reduceAdd Nat.reduceSub Nat.reduceLeDiff Nat.reduceMul Nat.reduceLT
attribute [go_sem] opsA_nilCheck nk_bx regA_frb preG_frb postG_frb renBS_bx pu_bnd tr_bnd co_bnd opsA_bnd callF_bnd opsK_fuse fuseP_eq fuseS_eq opsK_eq hintX_lt postK_eq ordL_nil ordL_cons hintX_ord permO_nil permO_cons permL_nil permL_cons permS_some renO_n opsA_build buildS_some setAll_nil setAll_cons belowN_nil belowN_cons nc_add nc_sub nc_mul nc_quo nc_rem nc_and nc_shl nc_shr nc_lss nc_leq nc_gtr nc_geq nc_eql_t nc_eql_i nc_eql_s nc_eql_z nc_neq_t negB_e nilS_i boxOK_agg topH_nil topH_cons c_sl c_mt wheap0_nil wheap0_cons condA_bool callK_mk storK_mk frzNew_f frzNew_t callF_fn boxR_f boxR_t env_get look_cons look_nil dset_some dset_none o_tmp o_int o_bool o_str o_nils o_func cst1_int cst1_nils gdst_0 gdst_s guardD_some guardS_t guardS_f guardS_tt guardS_ft guardS_tf guardS_ff guardS_skip pickS_t pickS_f v_add v_sub v_mul v_quo v_rem v_and v_shl v_shr v_lss v_leq v_gtr v_geq v_eql v_neq v_eqb v_neb v_eqs v_nes v_adds p_add p_sub p_mul p_quo p_rem p_and p_shl p_shr p_lss p_leq p_gtr p_geq p_eql p_neq p_eqb p_neb p_eqs p_nes p_adds v_not p_not v_neg p_neg v_conv p_conv v_ixi v_ixr v_ixs v_ixu v_ixsl v_ixmt v_ixmr p_ixi p_ixr p_ixs p_ixu p_ixsl p_ixmt p_ixmr w_ints l_ints e_ints a_int v_ld1 v_ldn v_ldb1 v_ldbn v_lda v_ldm v_ldo p_ld1 p_ldn p_ldb1 p_ldbn p_lda p_ldm p_ldo b_iptr b_bx b_sl b_mt b_mr b_pa b_pm b_po v_fld p_fld v_fldb p_fldb v_ext p_ext v_leni v_lenr v_lens v_lenu v_lenstr v_lensl v_lenmt v_lenmr p_leni p_lenr p_lens p_lenu p_lenstr p_lensl p_lenmt p_lenmr v_sidx p_sidx v_min p_min pu_int pu_str pu_ints pu_rows pu_strs pu_bytes pu_iptr pu_agg pu_fn p1_int p1_ints p1_rows c_agg c_int u_agg u_int tr_int tr_bool tr_str tr_ints tr_rows tr_strs tr_bytes tr_nils tr_undef tr_skipd tr_tt tr_ff tr_iptr tr_agg tr_tup tr_fn tr_sl tr_mt tr_mr tr_bx trL_nil trL_cons frzA_sl frzA_mt frzA_bx contSl_some contMt_some keeps_eq btr_box btr_arr btr_mat coB_box coB_arr coB_mat coO_some wenv_nil wenv_cons wheap_nil wheap_cons co_int co_bool co_str co_ints co_rows co_strs co_bytes co_iptr co_fn co_sl co_mt co_bx co_agg co_tup co_nili co_nilr co_nn coL_nil coL_cons resPL_nil resPL_tmp resPL_cell resL_nil resL_tmp resL_cell tupOf_1 tupOf_2 st_bx1 st_bxn st_pai st_pm hset_cons envOf_nil envOf_cons retA_eq memB_nil memB_cons fzL_nil fzL_cons frzR_nil frzR_cons frzR1_sl frzR1_mt frzR1_agg frzL_nil frzL_sl frzL_mt keepR_nil keepR_cons frzE_nil frzE_cons frzP_nil frzP_cons purE_nil purE_cons purH_nil purH_cons purA_sl purA_mt purA_bx appS_sl appR_i appR_r appR_s apP_some newL_t newL_f buildR_eq inOrder_nil inOrder_cons mkL_nil mkL_cons consV_i consV_s consV_r seed_i seed_s seed_r rep0 bndV_s bndV_n bndP_s bndP_n v_cutr v_cuts v_cutstr p_cutr p_cuts p_cutstr weak_eq partB_dec partB_not allocR_eq allocZ_some cst_agg setCells_eq k1_int k1_ints k1_rows k1_nils k1_sl ag_agg opsA_nil opsA_g opsA_move opsA_assign opsA_pick opsA_store opsA_bin opsA_not opsA_neg opsA_conv opsA_ixa opsA_sidx opsA_load opsA_field opsA_extract opsA_func opsA_box opsA_alloc opsA_len opsA_min opsA_call regA_nil opsA_append opsA_lit opsA_cut memN_nil memN_cons hintX_own hintX_fz hintX_n0 hintX_ms hintX_mat mkey_f mkey_t regA_fz regA_up regA_upf regA_cut regA_drop belowP_nil belowP_cons preG_drop postG_drop regA_skip preG_skip postG_skip cutE_nil cutE_cons preG_cut postG_cut preG_nil preG_post preG_fz preG_upf postG_nil postG_post postG_fz postG_upf emptyB_i emptyB_m ref_arr ref_mat upS_nils upfS_bx trE_nil trE_cons trH_nil trH_cons purN_sl purN_mt purN_mr purN_bx purN_po appS_mt appM_v appV_some appM_m appW_some selR_t selR_f vecR_eq buildMR_eq selP_t selP_f memK_mk lendK_mk bview_eq callM_fn callE_mk callD_mk callG_eq aggR_mk fnR_mk renD_mk renL_nil renL_cons renL0_nil renL0_cons ren1_agg ren1_fn base_w subB_w subH_nil subH_cons subC_some plainO_some plain_box plain_arr plain_mat plainH_nil plainH_cons distB_nil distB_cons rowO_w rowsOK_nil rowsOK_cons updB_w mkUpd_nil mkUpd_cons assoc_nil assoc_cons gone_nil gone_cons goneC_some goneC_none updC_ss updC_sn updC_n updH_nil updH_cons newM_nil newM_cons backR_eq backS_n backA_sl backA_mt tab_pure tr_pa tr_pm tr_po tr_vec frzA_mr contMr_some co_mr nB_int n2_int r1_int nB_bool n2_bool nB_str n2_str r1_str p2_ints nB_ints n2_ints n1_ints r1_ints p2_rows nB_rows n1_rows nB_strs q1_bytes kk_bytes r1_bytes p2_iptr pB_sl p2_sl nB_sl n2_sl n1_sl p2_mt nB_mt n2_mt n1_mt kk_mt nB_agg n2_agg nB_tup r0_sl r0_mt r1_sl r1_bx nb_ints nb_strs nb_mat nH_nil nH_cons
end Go.Vc
namespace Go.Vc
open Go.RowKit
section
variable {P : Program}
theorem spec_shift {f : FuncId} {args : List AV} {val : AV} {new : Heap} (n : Nat) (h : SpecOK P f args val new) (hp : Heap.plain new = true) : SpecOK P f args (val.tr (backA [] 0 n)) (newM 0 n new) := by
  intro S w cargs hS hsz hargs
  refine (h S w cargs hS hsz hargs).mono ?_
  rintro e w' ⟨cv, S', ρ', rfl, h1, h2, h3, h4, h5⟩
  let ρ2 : Rho := ⟨fun q j => ρ'.blk (q - n) j, fun q => ρ'.cap (q - n), fun q j => ρ'.rcap (q - n) j⟩
  have look : ∀ q, (newM 0 n new).look q = if n <= q then new.look (q - n) else none := fun q => by rw [newM_look]; rfl
  have lookn : ∀ q, n <= q -> (newM 0 n new).look q = new.look (q - n) := fun q hq => by rw [look, if_pos hq]
  have ge : ∀ q j, foot ρ2 (newM 0 n new).look q j -> n <= q /\ foot ρ' new.look (q - n) j := fun q j hf => by
    by_cases hq : n <= q
    · exact ⟨hq, foot_ren (lookn q hq) rfl (fun _ => rfl) hf⟩
    · unfold foot at hf; rw [look, if_neg hq] at hf; exact hf.elim
  refine ⟨cv, S', ρ2, rfl, ⟨h1.stab, h1.amb, fun q k hq => ?_, fun q j hf => ?_, fun q j q' j' g1 g2 e1 => ?_⟩, h2, h3, h4, ?_⟩
  · by_cases hn : n <= q
    · rw [lookn q hn] at hq
      exact (h1.blk _ k hq).at (Heap.plain_look hp hq) (fun _ => rfl) rfl (fun _ => rfl)
    · rw [look, if_neg hn] at hq; cases hq
  · exact h1.owned _ _ (ge q j hf).2
  · obtain ⟨a1, a2⟩ := ge q j g1
    obtain ⟨b1, b2⟩ := ge q' j' g2
    obtain ⟨c1, c2⟩ := h1.sep _ _ _ _ a2 b2 e1
    exact ⟨by omega, c2⟩
  · refine h5.tr (fun _ _ h => h) (fun a1 cv1 hra hv => hv.back (m := 0) rfl (fun i r k hi => by simp at hi) (fun i r j ys hi => by simp at hi) (fun i r j k hi => by simp at hi) (fun i k _ hk => ?_) hra)
    have e1 : n + (i - 0) - n = i := by omega
    exact ⟨by rw [lookn _ (by omega), e1]; exact hk, fun j => by show ρ'.blk _ j = _; rw [e1], by show ρ'.cap _ = _; rw [e1], fun j => by show ρ'.rcap _ j = _; rw [e1]⟩
def shK (n : Nat) (r : Prop × AV × Heap) : Prop × AV × Heap := (r.1, r.2.1.tr (backA [] 0 n), newM 0 n r.2.2)
def ownC (g : List AV -> Prop × AV × Heap) : Contract := .p fun a n => shK n (g a)
theorem CtrOK.own {f : FuncId} {g : List AV -> Prop × AV × Heap} (h : ∀ args, (g args).1 -> SpecOK P f args (g args).2.1 (g args).2.2 /\ Heap.plain (g args).2.2 = true) : CtrOK P f (ownC g) := by
  intro args n hp
  obtain ⟨h1, h2⟩ := h args hp
  refine ⟨spec_shift n h1 h2, fun r hr => ?_⟩
  have e : (shK n (g args)).2.2 = newM 0 n (g args).2.2 := rfl
  rw [e, newM_look] at hr
  split at hr
  · assumption
  · exact (hr rfl).elim
def mutC (k : Nat) (g : List AV -> Heap -> Prop × AV × Heap) : Contract := .m fun a h n => (n = k /\ (g a h).1, (g a h).2)
theorem CtrOK.mut {f : FuncId} {k : Nat} {g : List AV -> Heap -> Prop × AV × Heap} (h : ∀ args pre, (∀ r, pre.look r ≠ none -> r < k) -> (g args pre).1 -> SpecM P f args pre k (g args pre).2.1 (g args pre).2.2) : CtrOK P f (mutC k g) := by
  rintro args pre n hpre ⟨rfl, hp⟩
  exact h args pre hpre hp
end
def upTo : Nat -> Heap -> Bool
  | _, [] => true
  | k, (r, _) :: h => Nat.ble (r + 1) k && upTo k h
theorem upTo_look {k : Nat} : ∀ {h : Heap}, upTo k h = true -> ∀ r, h.look r ≠ none -> r < k
  | [], _, r, hr => (hr rfl).elim
  | (q, b) :: h, hu, r, hr => by
    simp only [upTo, Bool.and_eq_true] at hu
    simp only [Heap.look] at hr
    split at hr
    · rename_i e; subst e; exact Nat.le_of_ble_eq_true hu.1
    · exact upTo_look hu.2 r hr
def ShapeL : Heap -> Heap -> Prop
  | [], _ => True
  | (r, k) :: h, post => (∀ k', post.look r = some k' -> SameShape k k') /\ ShapeL h post
theorem ss_box {cs ds : List AV} (h : cs.length = ds.length) : SameShape (.box cs) (.box ds) := .box _ _ h
theorem tab_own (C : Table) (f g v) : Table.find ((f, ownC v) :: C) g = if f = g then (fun a n => shK n (v a)) else Table.find C g := (rfl)
theorem tabM_own (C : Table) (f g v) : Table.findM ((f, ownC v) :: C) g = Table.findM C g := (rfl)
theorem tabM_mut (C : Table) (f g k v) : Table.findM ((f, mutC k v) :: C) g = if f = g then (fun a h n => (n = k /\ (v a h).1, (v a h).2)) else Table.findM C g := (rfl)
theorem shK_mk (n p v new) : shK n (p, v, new) = (p, v.tr (backA [] 0 n), newM 0 n new) := (rfl)
attribute [go_sem] tab_own tabM_own tabM_mut shK_mk
def wh : Nat -> List ARef
  | 0 => []
  | j + 1 => wh j ++ [.whole j]
theorem wh_get : ∀ (j i : Nat), (wh j)[i]? = if i < j then some (.whole i) else none
  | 0, i => by simp [wh]
  | j + 1, i => by
    have hl : ∀ j, (wh j).length = j := fun j => by
      induction j with
      | zero => rfl
      | succ j ih => simp [wh, ih]
    unfold wh
    by_cases h : i < j
    · rw [List.getElem?_append_left (by rw [hl]; exact h), wh_get j i, if_pos h, if_pos (by omega)]
    · rw [List.getElem?_append_right (by rw [hl]; omega), hl]
      by_cases e : i = j
      · subst e; rw [if_pos (by omega), Nat.sub_self]; rfl
      · rw [if_neg (by omega), List.getElem?_eq_none (by simp; omega)]
theorem wh_len : ∀ j, (wh j).length = j
  | 0 => rfl
  | j + 1 => by simp [wh, wh_len j]
def lowH (j : Nat) : Heap -> Heap
  | [] => []
  | (i, k) :: l => bif Nat.ble j i then lowH j l else (i, k) :: lowH j l
theorem lowH_look (j : Nat) : ∀ (h : Heap) (q : Nat), (lowH j h).look q = if q < j then h.look q else none
  | [], q => by simp [lowH, Heap.look]
  | (i, k) :: l, q => by
    unfold lowH
    cases hb : Nat.ble j i with
    | true =>
      have := Nat.le_of_ble_eq_true hb
      simp only [cond_true]
      rw [lowH_look j l q]
      by_cases h : q < j
      · rw [if_pos h, if_pos h]; simp only [Heap.look]; rw [if_neg (by omega)]
      · rw [if_neg h, if_neg h]
    | false =>
      have : ¬ j <= i := fun h => by rw [Nat.ble_eq_true_of_le h] at hb; cases hb
      simp only [cond_false, Heap.look]
      rw [lowH_look j l q]
      by_cases e : i = q
      · subst e; rw [if_pos rfl, if_pos (by omega), if_pos rfl]
      · rw [if_neg e, if_neg e]
def shZ (j k : Nat) (r : Prop × AV × Heap) : Prop × AV × Heap := (r.1, r.2.1.tr (backA (wh j) j k), lowH j r.2.2 ++ newM j k r.2.2)
def zC (k j : Nat) (g : List AV -> Heap -> Prop × (Z -> Prop × AV × Heap)) : Contract := .z fun a h n => ((n = k /\ (g a h).1), fun z => shZ j k ((g a h).2 z))
section
variable {P : Program}
theorem shZ_look (j k : Nat) (post : Heap) (q : Nat) (hjk : j <= k) : (lowH j post ++ newM j k post).look q = if q < j then post.look q else if k <= q then post.look (q - k + j) else none := by
  rw [<- addH_look]
  unfold addH
  rw [lowH_look]
  by_cases h : q < j
  · rw [if_pos h, if_pos h]
    cases hq : post.look q with
    | some b => rfl
    | none =>
      simp only
      rw [newM_look, if_neg (by omega)]
  · rw [if_neg h, if_neg h]
    simp only
    rw [newM_look]
theorem specZ_shift {f : FuncId} {args : List AV} {pre : Heap} {R : Z -> Prop × AV × Heap} (j k : Nat) (hjk : j <= k) (h : SpecZ P f args pre j R) (hp : ∀ z, (R z).1 -> Heap.plain (R z).2.2 = true) : SpecZ P f args pre k (fun z => shZ j k (R z)) := by
  intro own S ρ w cargs hown hrel hsz hargs
  refine (h own S ρ w cargs hown hrel hsz hargs).mono ?_
  rintro e w' ⟨z, hG, cv, S', ρ', rfl, h1, h2, h3, h4, h5, h6⟩
  have hpl := hp z hG
  let ρ2 : Rho := ⟨fun q i => if q < j then ρ'.blk q i else ρ'.blk (q - k + j) i, fun q => if q < j then ρ'.cap q else ρ'.cap (q - k + j), fun q i => if q < j then ρ'.rcap q i else ρ'.rcap (q - k + j) i⟩
  have look : ∀ q, (shZ j k (R z)).2.2.look q = if q < j then (R z).2.2.look q else if k <= q then (R z).2.2.look (q - k + j) else none := fun q => shZ_look j k _ q hjk
  have src : ∀ q b, (shZ j k (R z)).2.2.look q = some b -> ∃ i, (R z).2.2.look i = some b /\ (∀ x, ρ2.blk q x = ρ'.blk i x) /\ ρ2.cap q = ρ'.cap i /\ (∀ x, ρ2.rcap q x = ρ'.rcap i x) /\ (q < j /\ i = q \/ k <= q /\ i = q - k + j) := fun q b hq => by
    rw [look] at hq
    by_cases hj : q < j
    · rw [if_pos hj] at hq
      exact ⟨q, hq, fun x => by simp [ρ2, hj], by simp [ρ2, hj], fun x => by simp [ρ2, hj], .inl ⟨hj, rfl⟩⟩
    · rw [if_neg hj] at hq
      by_cases hk : k <= q
      · rw [if_pos hk] at hq
        exact ⟨_, hq, fun x => by simp [ρ2, hj], by simp [ρ2, hj], fun x => by simp [ρ2, hj], .inr ⟨hk, rfl⟩⟩
      · rw [if_neg hk] at hq; cases hq
  have ft : ∀ q x, foot ρ2 (shZ j k (R z)).2.2.look q x -> ∃ i, foot ρ' (R z).2.2.look i x /\ ρ2.blk q x = ρ'.blk i x /\ (q < j /\ i = q \/ k <= q /\ i = q - k + j) := fun q x hf => by
    cases hq : (shZ j k (R z)).2.2.look q with
    | none => unfold foot at hf; rw [hq] at hf; exact hf.elim
    | some b =>
      obtain ⟨i, g1, g2, g3, g4, g5⟩ := src q b hq
      exact ⟨i, foot_ren (hq.trans g1.symm) g3 g4 hf, g2 x, g5⟩
  refine ⟨z, hG, cv, S', ρ2, rfl, ⟨h1.stab, h1.amb, fun q b hq => ?_, fun q x hf => ?_, fun q x q' x' g1 g2 e1 => ?_⟩, h2, h3, h4, ?_, fun r hr hne => ?_⟩
  · obtain ⟨i, g1, g2, g3, g4, _⟩ := src q b hq
    exact (h1.blk i b g1).at (Heap.plain_look hpl g1) g2 g3 g4
  · obtain ⟨i, g1, g2, _⟩ := ft q x hf
    rw [g2]; exact h1.owned _ _ g1
  · obtain ⟨i, a1, a2, a3⟩ := ft q x g1
    obtain ⟨i', b1, b2, b3⟩ := ft q' x' g2
    obtain ⟨c1, c2⟩ := h1.sep _ _ _ _ a1 b1 (by rw [<- a2, <- b2]; exact e1)
    exact ⟨by omega, c2⟩
  · refine h5.tr (fun _ _ h => h) (fun a1 cv1 hra hv => hv.back (m := j) (wh_len j) (fun i r b hi hb => ?_) (fun i r q ys hi => ?_) (fun i r q b hi => ?_) (fun i b hi hb => ?_) hra)
    · rw [wh_get] at hi
      split at hi
      · rename_i hlt
        cases hi
        exact ⟨by rw [look, if_pos hlt]; exact hb, fun x => by simp [ρ2, hlt], by simp [ρ2, hlt], fun x => by simp [ρ2, hlt]⟩
      · cases hi
    · rw [wh_get] at hi; split at hi <;> cases hi
    · rw [wh_get] at hi; split at hi <;> cases hi
    · have e1 : k + (i - j) - k + j = i := by omega
      have e2 : ¬ k + (i - j) < j := by omega
      exact ⟨by rw [look, if_neg e2, if_pos (by omega), e1]; exact hb, fun x => by simp only [ρ2]; rw [if_neg e2, e1], by simp only [ρ2]; rw [if_neg e2, e1], fun x => by simp only [ρ2]; rw [if_neg e2, e1]⟩
  · rw [look] at hne
    by_cases hj : r < j
    · rw [if_pos hj] at hne
      obtain ⟨f1, f2, f3⟩ := h6 r hj hne
      exact ⟨fun x => by simp [ρ2, hj, f1], by simp [ρ2, hj, f2], fun x => by simp [ρ2, hj, f3]⟩
    · rw [if_neg hj, if_neg (by omega)] at hne; exact (hne rfl).elim
theorem CtrOK.z {f : FuncId} {k j : Nat} {g : List AV -> Heap -> Prop × (Z -> Prop × AV × Heap)} (hjk : j <= k) (h : ∀ args pre, (∀ r, pre.look r ≠ none -> r < k) -> (g args pre).1 ->
    (∀ z, ((g args pre).2 z).1 -> Heap.plain ((g args pre).2 z).2.2 = true /\ ∀ r, r < j -> ∀ b b', pre.look r = some b -> ((g args pre).2 z).2.2.look r = some b' -> SameShape b b') /\ SpecZ P f args pre j (g args pre).2) : CtrOK P f (zC k j g) := by
  rintro args pre n hpre ⟨rfl, hp⟩
  obtain ⟨h1, h2⟩ := h args pre hpre hp
  refine ⟨fun z hz r b b' hb hb' => ?_, specZ_shift j n hjk h2 (fun z hz => (h1 z hz).1)⟩
  have hr := hpre r (by rw [hb]; simp)
  have e : (shZ j n ((g args pre).2 z)).2.2.look r = if r < j then ((g args pre).2 z).2.2.look r else if n <= r then ((g args pre).2 z).2.2.look (r - n + j) else none := shZ_look j n _ r hjk
  rw [e] at hb'
  by_cases hj : r < j
  · rw [if_pos hj] at hb'; exact (h1 z hz).2 r hj b b' hb hb'
  · rw [if_neg hj, if_neg (by omega)] at hb'; cases hb'
end
theorem shape_box {pre post : Heap} (cs ds : List AV) (h1 : pre.look 0 = some (.box cs)) (h2 : post.look 0 = some (.box ds)) (hl : cs.length = ds.length) : ∀ r, r < 1 -> ∀ b b', pre.look r = some b -> post.look r = some b' -> SameShape b b' := by
  intro r hr b b' hb hb'
  obtain rfl : r = 0 := by omega
  rw [h1] at hb; rw [h2] at hb'
  cases hb; cases hb'
  exact ss_box hl
theorem tab_z (C : Table) (f g k j v) : Table.find ((f, zC k j v) :: C) g = Table.find C g := (rfl)
theorem tabZ_z (C : Table) (f g k j v) : Table.findZ ((f, zC k j v) :: C) g = if f = g then (fun a h n => ((n = k /\ (v a h).1), fun z => shZ j k ((v a h).2 z))) else Table.findZ C g := (rfl)
theorem tabZ_own (C : Table) (f g v) : Table.findZ ((f, ownC v) :: C) g = Table.findZ C g := (rfl)
theorem tabZ_pure (C : Table) (f g v) : Table.findZ ((f, pureC v) :: C) g = Table.findZ C g := (rfl)
theorem shZ_mk (j k p v post) : shZ j k (p, v, post) = (p, v.tr (backA (wh j) j k), lowH j post ++ newM j k post) := (rfl)
theorem wh_0 : wh 0 = [] := (rfl)
theorem wh_1 : wh 1 = [.whole 0] := (rfl)
theorem lowH_nil (j) : lowH j [] = [] := (rfl)
theorem lowH_cons (j i k l) : lowH j ((i, k) :: l) = if j <= i then lowH j l else (i, k) :: lowH j l := by
  show (bif Nat.ble j i then _ else _) = _
  by_cases h : j <= i
  · rw [if_pos h, Nat.ble_eq_true_of_le h]; rfl
  · rw [if_neg h]
    cases hb : Nat.ble j i with
    | true => exact (h (Nat.le_of_ble_eq_true hb)).elim
    | false => rfl
def zG (refs : List ARef) (m : Nat) (r : Prop × AV × Heap) (e : Env) (h : Heap) (n : Nat) (K : AV -> Env -> Heap -> Nat -> Prop) : Prop := r.1 -> memK (callD refs m (True, r.2) e h n) K
theorem zG_mk (refs m p v post e h n) (K : AV -> Env -> Heap -> Nat -> Prop) : zG refs m (p, v, post) e h n K = (p -> memK (callD refs m (True, v, post) e h n) K) := (rfl)
def zD (refs : List ARef) (m : Nat) (r : Prop × (Z -> Prop × AV × Heap)) (e : Env) (h : Heap) (n : Nat) (K : AV -> Env -> Heap -> Nat -> Prop) : Prop := (r.1 /\ (distB (refs.map ARef.base) && refs.all (fun a => plainO (subB h a))) = true) /\ ∀ z, zG refs m (r.2 z) e h n K
theorem zD_mk (refs m p R e h n) (K : AV -> Env -> Heap -> Nat -> Prop) : zD refs m (p, R) e h n K = ((p /\ (distB (refs.map ARef.base) && refs.all (fun a => plainO (subB h a))) = true) /\ ∀ z, zG refs m (R z) e h n K) := (rfl)
def zE (ra : List AV × List ARef) (F : List AV -> Heap -> Nat -> Prop × (Z -> Prop × AV × Heap)) (e : Env) (h : Heap) (n : Nat) (K : AV -> Env -> Heap -> Nat -> Prop) : Prop := zD ra.2 ra.2.length (F ra.1 (subH h 0 ra.2) ra.2.length) e h n K
theorem zE_mk (as refs F e h n) (K : AV -> Env -> Heap -> Nat -> Prop) : zE (as, refs) F e h n K = zD refs refs.length (F as (subH h 0 refs) refs.length) e h n K := (rfl)
theorem callZ_fn (C : Table) (f caps args e h n) (K : AV -> Env -> Heap -> Nat -> Prop) : callZ C (.fn f caps) args e h n K = zE (renL 0 (args ++ caps)) (C.findZ f) e h n K := (rfl)
def retZ (P : Program) (rs : List ResultVar) (r : Prop × AV × Heap) (e : Env) (h : Heap) : Prop := r.1 /\ retA P rs r.2.1 r.2.2 e h
theorem retZ_mk (P rs p v new e h) : retZ P rs (p, v, new) e h = (p /\ retA P rs v new e h) := (rfl)
theorem endZ_ret (P rs R e h n) : endZ P rs R .ret e h n = ∃ z, retZ P rs (R z) e h := (rfl)
attribute [go_sem ↓] endZ_ret
attribute [go_sem] tab_z tabZ_z tabZ_own tabZ_pure shZ_mk wh_0 wh_1 lowH_nil lowH_cons zG_mk zD_mk zE_mk callZ_fn retZ_mk
section
variable (P : Program) (C : Table) (hint : Hint) (e : Env) (h : Heap) (d : Tmp) (t : TypeId) (pos : String) (af : Array Edge)
theorem opsK_late2 (c q k l) (K : Env -> Heap -> Nat -> Prop) (n) : opsK P C hint [c, q, k] l K e h n = opsA P C hint l (l.take q) e h n (opsL P C hint l ((l.take q).drop c) k (l.drop q) K) := (rfl)
theorem opsL_0 (all L l) (K : Env -> Heap -> Nat -> Prop) (n) : opsL P C hint all L 0 l K e h n = (lateP2 P C hint e h L /\ opsA P C hint all l e h n K) := (rfl)
theorem opsL_1 (all L l) (K : Env -> Heap -> Nat -> Prop) (n) : opsL P C hint all L 1 l K e h n = (lateP2 P C hint e h L /\ opsA P C hint all (l.take 1) e h n (opsL P C hint all L 0 (l.drop 1) K)) := (rfl)
theorem opsL_2 (all L l) (K : Env -> Heap -> Nat -> Prop) (n) : opsL P C hint all L 2 l K e h n = (lateP2 P C hint e h L /\ opsA P C hint all (l.take 1) e h n (opsL P C hint all L 1 (l.drop 1) K)) := (rfl)
theorem lateP2_nil : lateP2 P C hint e h [] = True := (rfl)
theorem lateP2_cons (o l) : lateP2 P C hint e h (o :: l) = (LateAt2 P C hint e h o /\ lateP2 P C hint e h l) := (rfl)
theorem la2_eq {o : Oper} {p : Prop} {v : AV} {nw : Heap} {k : Nat} (hd : o.dst = some d) (hv : evalH P C hint o e h 0 = ⟨p, v, nw, k⟩) : LateAt2 P C hint e h o = (p /\ e.get d = v) := by
  unfold LateAt2
  rw [hv, hd]
  apply propext
  constructor
  · rintro ⟨h1, h2⟩; exact ⟨h1, h2 d rfl⟩
  · rintro ⟨h1, h2⟩; exact ⟨h1, fun q hq => by cases hq; exact h2⟩
theorem la2_move (x) : LateAt2 P C hint e h ⟨some d, .move x, t, pos, af, none⟩ = (True /\ e.get d = opnd e x) := la2_eq P C hint e h d rfl rfl
theorem la2_ixa (t1 x i) : LateAt2 P C hint e h ⟨some d, .indexAddr t1 x i, t, pos, af, none⟩ = (idxP (ed P t1) (blkOf h (opnd e x)) (opnd e x) (opnd e i) /\ e.get d = idxV (ed P t1) (opnd e x) (opnd e i)) := la2_eq P C hint e h d rfl rfl
theorem la2_load (t1 x) : LateAt2 P C hint e h ⟨some d, .load t1 x, t, pos, af, none⟩ = (loadP (td P t1) (blkOf h (opnd e x)) (opnd e x) /\ e.get d = loadV (td P t1) (blkOf h (opnd e x)) (opnd e x)) := la2_eq P C hint e h d rfl rfl
theorem la2_field (t1 x f) : LateAt2 P C hint e h ⟨some d, .fieldAddr t1 x f, t, pos, af, none⟩ = (fieldP (fd P t1 f) (blkOf h (opnd e x)) (opnd e x) /\ e.get d = fieldV (fd P t1 f) (opnd e x)) := la2_eq P C hint e h d rfl rfl
end
section
variable (P : Program) (C : Table) (hint : Hint) (e : Env) (h : Heap)
end
attribute [go_sem] List.cons_append List.nil_append
attribute [go_sem] opsK_late2 opsL_0 opsL_1 opsL_2 lateP2_nil lateP2_cons la2_move la2_ixa la2_load la2_field
theorem regA_mv (n0 q k : Nat) (r A e h n) : regA n0 (.mv q k :: r) A e h n = (((n0 <= q /\ n0 <= k /\ k < n /\ (k == q) = false) /\ (h.look q).isSome = true /\ (h.look k).isNone = true) /\ regA n0 r A (trE (mvA q k) e) (mvH q k h) n) := (rfl)
theorem preG_mv (q k r) : preG (.mv q k :: r) = .mv q k :: preG r := (rfl)
theorem postG_mv (q k r) : postG (.mv q k :: r) = postG r := (rfl)
theorem mvA_sl (q k r) : mvA q k (.sl r) = .sl (bif r == q then k else r) := (rfl)
theorem mvA_mt (q k r) : mvA q k (.mt r) = .mt (bif r == q then k else r) := (rfl)
theorem mvA_mr (q k r i) : mvA q k (.mr r i) = .mr (bif r == q then k else r) i := (rfl)
theorem mvA_bx (q k r i) : mvA q k (.bx r i) = .bx (bif r == q then k else r) i := (rfl)
theorem mvA_pa (q k r i) : mvA q k (.pa r i) = .pa (bif r == q then k else r) i := (rfl)
theorem mvA_pm (q k r i j) : mvA q k (.pm r i j) = .pm (bif r == q then k else r) i j := (rfl)
theorem mvA_po (q k r i) : mvA q k (.po r i) = .po (bif r == q then k else r) i := (rfl)
theorem mvH_nil (q k) : mvH q k [] = [] := (rfl)
theorem mvH_cons (q k r b h) : mvH q k ((r, b) :: h) = (bif r == q then k else r, b.tr (mvA q k)) :: mvH q k h := (rfl)
attribute [go_sem] regA_mv preG_mv postG_mv mvA_sl mvA_mt mvA_mr mvA_bx mvA_pa mvA_pm mvA_po mvH_nil mvH_cons
end Go.Vc
namespace Go.Vc
open Go.RowKit Go.ChangeShapes Go.WideShapes Go.Deep Go.Joins
section
variable {H : Type} {enc : TypeId × Value -> H} {P : Program} {w : World} {base : Nat} {held : Bool}
theorem cell_at {b o : Nat} {i : Nat} {v : Value} (h : w.cell? (Addr.add ⟨b, o, none⟩ i) = some v) : ∃ c, allS w b = some c /\ c[o + i]? = some v := by
  rw [add_none] at h
  unfold World.cell? at h
  simp only at h
  split at h
  · rename_i c el fr hb
    simp at h
    exact ⟨c, by simp [allS, hb], h⟩
  · cases h
theorem cell_here {a : Addr} {v : Value} (h : w.cell? (a.add 0) = some v) : ∃ b o c, a = ⟨b, o, none⟩ /\ allS w b = some c /\ c[o]? = some v := by
  obtain ⟨b, o, s⟩ := a
  cases s with
  | none =>
    obtain ⟨c, h1, h2⟩ := cell_at h
    exact ⟨b, o, c, rfl, h1, h2⟩
  | some s =>
    exfalso
    have hs : Addr.add ⟨b, o, some s⟩ 0 = ⟨b, o, some s⟩ := by unfold Addr.add; simp
    rw [hs] at h
    unfold World.cell? at h
    simp only at h
    split at h
    · simp at h
    · cases h
end
attribute [go_sem] cond_true cond_false List.map_cons List.map_nil List.append_nil List.cons_append List.nil_append true_and and_true Nat.zero_add Nat.add_zero List.drop_zero List.drop_succ_cons List.take_succ_cons List.take_zero List.all_cons List.all_nil Bool.and_true Bool.true_and Bool.and_false Bool.false_and Bool.or_true Bool.true_or Bool.or_false Bool.false_or Bool.not_false Bool.not_true Option.getD_some List.length_cons List.length_nil Option.isSome_none Option.isSome_some eq_self exists_const List.toList_toArray partB_true partB_false RK_i64 RK_u64 RK_u8 LoopEnd List.getElem?_cons_zero List.getElem?_cons_succ List.getElem?_nil Nat.sub_zero Nat.le_refl Int.toNat_natCast List.set_cons_zero List.set_cons_succ List.getD_cons_zero List.getD_cons_succ Nat.sub_self Option.map_some Option.map_none List.length_append
end Go.Vc
