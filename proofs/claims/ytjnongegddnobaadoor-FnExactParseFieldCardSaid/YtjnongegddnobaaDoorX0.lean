/- What the library's functions on texts make of their arguments: the kit's contracts, in the words of the abstract run. -/
import Derived.Test.YtjnongegddnobaaDoorTy
import Derived.Test.YtjnongegddnobaaDoorPlJ
import Derived.Test.YtjnongegddnobaaDoorShelf
import Derived.Below
import Derived.Sort.Grow
namespace Go.Proofs.YtjnongegddnobaaDoor
open Go.Vc Go.RowKit
set_option maxRecDepth 100000
set_option linter.unusedSimpArgs false
set_option linter.unusedVariables false

theorem ext_ok {f : FuncId} {args : List AV} {val : AV}
    (h : ∀ (S : Store) (w : World) (cargs : Array Value), StoreIn S w -> cargs.size = args.length -> (∀ (j : Nat) x v, args[j]? = some x -> cargs[j]? = some v -> Sees S x v) ->
      Calls Tryd.prog f cargs w fun e w' => ∃ cv, e = .returned cv /\ Kept (w.heap.size <= ·) w w' /\ Sees S val cv) : SpecOK Tryd.prog f args val [] := by
  intro S w cargs hS hsz hargs
  refine (h S w cargs hS hsz hargs).mono ?_
  rintro e w' ⟨cv, rfl, hk, hs⟩
  refine ⟨cv, S, ⟨fun _ _ => 0, fun _ => 0, fun _ _ => 0⟩, rfl, ⟨fun b c hb => ?_, hS.1, fun r k hr => (by cases hr), fun r j hf => hf.elim, fun r j r' j' hf => hf.elim⟩, fun _ _ h => h, fun b h1 h2 => absurd h1 h2, hk, .pure _ _ hs⟩
  obtain ⟨el, fr, he⟩ := hS.2 b c hb
  have hlt : b < w.heap.size := (Array.getElem?_eq_some_iff.1 he).1
  exact ⟨el, fr, by rw [hk.block b hlt (by omega)]; exact he⟩
theorem kept_grow (w : World) (k : Nat) (os : Array Obj) : Kept (w.heap.size <= ·) w (Sort.grow (w.drewN k) os) :=
  ⟨rfl, rfl, rfl, by simp [Sort.grow, World.drewN], fun b hb _ => by simp [Sort.grow, World.drewN, Array.getElem?_append_left hb], fun _ => Nat.le_add_right _ _⟩
theorem kept_drew (w : World) (k : Nat) : Kept (w.heap.size <= ·) w (w.drewN k) := ⟨rfl, rfl, rfl, Nat.le_refl _, fun _ _ _ => rfl, fun _ => Nat.le_add_right _ _⟩
theorem args1 {S : Store} {x : AV} {cargs : Array Value} (hsz : cargs.size = [x].length) (h : ∀ (j : Nat) y v, [x][j]? = some y -> cargs[j]? = some v -> Sees S y v) : ∃ v, cargs = #[v] /\ Sees S x v := by
  obtain ⟨l⟩ := cargs
  match l, hsz with
  | [v], _ => exact ⟨v, rfl, h 0 x v rfl rfl⟩
theorem args2 {S : Store} {x y : AV} {cargs : Array Value} (hsz : cargs.size = [x, y].length) (h : ∀ (j : Nat) z v, [x, y][j]? = some z -> cargs[j]? = some v -> Sees S z v) : ∃ v u, cargs = #[v, u] /\ Sees S x v /\ Sees S y u := by
  obtain ⟨l⟩ := cargs
  match l, hsz with
  | [v, u], _ => exact ⟨v, u, rfl, h 0 x v rfl rfl, h 1 y u rfl rfl⟩
theorem sees_int {S : Store} {k : IntKind} {n : Int} {v : Value} (h : Sees S (.int k n) v) : v = .int k n := by
  cases h with
  | int => rfl
  | lst _ _ _ _ _ he => simp [AV.elems] at he
theorem sees_strv {S : Store} {s : ByteArray} {v : Value} (h : Sees S (.str s) v) : v = .string s := by
  cases h with
  | str => rfl
  | lst _ _ _ _ _ he => simp [AV.elems] at he
def g_hasC : List AV -> Prop × AV
  | [.str s, .str t] => (t.size = 1, .bool (hasB s (byteAt t 0)))
  | _ => (False, .undef)
theorem g_hasC_eq (s t : ByteArray) : g_hasC [.str s, .str t] = (t.size = 1, .bool (hasB s (byteAt t 0))) := (rfl)
theorem hasC_ok (s t : ByteArray) (hp : t.size = 1) : SpecOK Tryd.prog 39 [.str s, .str t] (.bool (hasB s (byteAt t 0))) [] := by
  refine ext_ok (fun S w cargs hS hsz hargs => ?_)
  obtain ⟨v, u, rfl, h1, h2⟩ := args2 hsz hargs
  obtain rfl := sees_strv h1
  obtain rfl := sees_strv h2
  obtain ⟨c, rfl⟩ : ∃ c, t = ⟨#[c]⟩ := by
    obtain ⟨⟨l⟩⟩ := t
    match l, hp with
    | [c], _ => exact ⟨c, rfl⟩
  refine (Tryd.strings_Contains_one s c w).mono ?_
  rintro e w' ⟨rfl, rfl⟩
  exact ⟨_, rfl, .refl _ _, .bool _⟩
def t_hasC : Table := [(39, pureC g_hasC)]
theorem t_hasC_ok : TabOK Tryd.prog t_hasC := .cons Tryd.func39 (by kernel_rfl) (.pure (by intro args hp; unfold g_hasC at hp ⊢; split at hp <;> first | exact hp.elim | exact hasC_ok _ _ hp)) (.nil _)
attribute [go_sem] g_hasC_eq t_hasC
def g_joinC : List AV -> Prop × AV
  | [.strs xs, .str t] => (xs.length <= 1048576000 /\ (joinB xs t).size <= 1048576000, .str (joinB xs t))
  | _ => (False, .undef)
theorem g_joinC_eq (xs : List ByteArray) (t : ByteArray) : g_joinC [.strs xs, .str t] = (xs.length <= 1048576000 /\ (joinB xs t).size <= 1048576000, .str (joinB xs t)) := (rfl)
theorem joinC_ok (xs : List ByteArray) (t : ByteArray) (hp : xs.length <= 1048576000 /\ (joinB xs t).size <= 1048576000) : SpecOK Tryd.prog 53 [.strs xs, .str t] (.str (joinB xs t)) [] := by
  refine ext_ok (fun S w cargs hS hsz hargs => ?_)
  obtain ⟨v, u, rfl, h1, h2⟩ := args2 hsz hargs
  obtain rfl := sees_strv h2
  have hl : (Lib.join (xs.map (·.data.toList)) t.data.toList).length <= 140737488355328 := by
    have : (joinB xs t).size = (Lib.join (xs.map (·.data.toList)) t.data.toList).length := by show (List.toArray _).size = _; simp
    omega
  have kb : ∀ {w' : World}, Below w.heap.size w w' -> Kept (w.heap.size <= ·) w w' := fun hb => ⟨hb.os, hb.tape, hb.output, hb.size, fun b hlt _ => hb.block b hlt, fun d => False.elim d⟩
  cases h1 with
  | lst _ ys m a cap he hcap b off c vals hrow hm hc hs =>
    simp only [AV.elems, Option.some.injEq, Prod.mk.injEq] at he
    obtain ⟨rfl, rfl⟩ := he
    rw [List.length_map]
    by_cases hne : xs = []
    · subst hne
      refine (Tryd.strings_Join_none a cap t w).mono ?_
      rintro e w' ⟨rfl, rfl⟩
      exact ⟨_, rfl, .refl _ _, .str _⟩
    · obtain ⟨rfl, hb⟩ := hrow (by simpa using hne)
      have hin := hS.2 _ _ hb
      refine (Tryd.strings_Join b off cap xs t w (fun j x hx => ?_) hin.lt (by omega) (by rw [List.length_map] at hcap; exact hcap) hl).mono ?_
      · have e1 : (xs.map AV.str)[j]? = some (.str x) := by rw [List.getElem?_map, hx]; rfl
        have e2 : (AV.str x).cells[0]? = some (.str x) := rfl
        have h3 := hc j _ 0 _ e1 e2
        have h4 := sees_strv (hs j _ 0 _ e1 e2)
        rw [hin.cell, show off + j = off + j * 1 + 0 by omega, h3, h4]
      · rintro e w' ⟨rfl, hb⟩
        exact ⟨_, rfl, kb hb, .str _⟩
def t_joinC : Table := [(53, pureC g_joinC)]
theorem t_joinC_ok : TabOK Tryd.prog t_joinC := .cons Tryd.func53 (by kernel_rfl) (.pure (by intro args hp; unfold g_joinC at hp ⊢; split at hp <;> first | exact hp.elim | exact joinC_ok _ _ hp)) (.nil _)
attribute [go_sem] g_joinC_eq t_joinC
end Go.Proofs.YtjnongegddnobaaDoor
