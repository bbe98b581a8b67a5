/- Draws of fields and sets. -/
import Derived.Test.YteefjdbdknkcjaaDC
namespace Go.Proofs.Yteefjdbdknkcjaa
open Go.Vc
set_option maxRecDepth 100000
set_option maxHeartbeats 1600000
set_option linter.unusedSimpArgs false
set_option linter.unusedVariables false

def g_drawServed : List AV → Heap → Prop × (Z → Prop × AV × Heap)
  | [.bytes code], [] => (code.length ≤ 1000000000, fun z => (Bdd z.xs z.xss ∧ z.ys.length ≤ 1000, .tup [.agg [.ints z.xs, .rows z.xss], .ints z.ys], []))
  | _, _ => (False, fun _ => (False, .undef, []))
theorem g_drawServed_eq (code : List UInt8) : g_drawServed [.bytes code] [] = (code.length ≤ 1000000000, fun z => (Bdd z.xs z.xss ∧ z.ys.length ≤ 1000, .tup [.agg [.ints z.xs, .rows z.xss], .ints z.ys], [])) := (rfl)
theorem drawServed_ok (code : List UInt8) (hp : code.length ≤ 1000000000) : SpecZ Try.prog 6 [.bytes code] [] 0 (fun z => (Bdd z.xs z.xss ∧ z.ys.length ≤ 1000, .tup [.agg [.ints z.xs, .rows z.xss], .ints z.ys], [])) := by
  refine fun_okZ (C := t_fieldD ++ t_sitesD) (hint := hintX [2, 5, 8] [(3, [.fz [10], .frb 5])] 0 [41, 1000041, 42, 1000042] [] [(3, [1, 2, 0, 3, 4, 5])] [(3, [2, 3, 1])]) ((t_fieldD_ok).append t_sitesD_ok) mixed Try.func6 rfl (by kernel_rfl) rfl (Nat.le_refl _) (by decide) (upTo_look (k := 0) rfl) ?_
  show codeA _ _ _ _ _ _ _ _
  simp only [go_sem, ↓reduceIte, Nat.reduceEqDiff, Nat.reduceBEq, Nat.reduceAdd, Nat.reduceSub, Nat.reduceLeDiff, Nat.reduceMul, Nat.reduceLT, Try.results6]
  exact ⟨⟨hp, by omega⟩, fun z hz => ⟨⟨hp, by omega, hz.1.1⟩, fun z1 h1 => ⟨{ xs := z.xs, xss := z.xss, ys := z1.xs }, ⟨hz.1, h1.1⟩, ⟨rfl, rfl⟩, rfl⟩⟩⟩
def t_drawServed : Table := [(6, zC 0 0 g_drawServed)]
theorem t_drawServed_ok : TabOK Try.prog t_drawServed := .cons Try.func6 (by kernel_rfl) (.z (by decide) (by intro args pre _ hp; unfold g_drawServed at hp ⊢; split at hp <;> first | exact hp.elim | exact ⟨fun z hz => ⟨rfl, fun r hr => absurd hr (Nat.not_lt_zero _)⟩, drawServed_ok _ hp⟩)) (.nil _)
attribute [go_sem] g_drawServed_eq t_drawServed
end Go.Proofs.Yteefjdbdknkcjaa
