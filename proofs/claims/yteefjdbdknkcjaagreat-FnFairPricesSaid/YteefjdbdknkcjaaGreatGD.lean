/- Draws of fields, prices and sets. -/
import Derived.Test.YteefjdbdknkcjaaGreatFA
import Derived.Test.YteefjdbdknkcjaaGreatA24
import Derived.Test.YteefjdbdknkcjaaGreatA9
namespace Go.Proofs.YteefjdbdknkcjaaGreat
open Go.Vc
set_option maxRecDepth 100000
set_option maxHeartbeats 1600000
set_option linter.unusedSimpArgs false
set_option linter.unusedVariables false

def g_drawGap : List AV → Heap → Prop × (Z → Prop × AV × Heap)
  | [.bytes code], [] => (code.length ≤ 1000000000, fun z => (Bdd z.xs z.xss ∧ z.ys.length ≤ 1000 ∧ z.zs.length ≤ 1000, .tup [.agg [.ints z.xs, .rows z.xss], .ints z.ys, .ints z.zs], []))
  | _, _ => (False, fun _ => (False, .undef, []))
theorem g_drawGap_eq (code : List UInt8) : g_drawGap [.bytes code] [] = (code.length ≤ 1000000000, fun z => (Bdd z.xs z.xss ∧ z.ys.length ≤ 1000 ∧ z.zs.length ≤ 1000, .tup [.agg [.ints z.xs, .rows z.xss], .ints z.ys, .ints z.zs], [])) := (rfl)
theorem drawGap_ok (code : List UInt8) (hp : code.length ≤ 1000000000) : SpecZ Tryz.prog 40 [.bytes code] [] 0 (fun z => (Bdd z.xs z.xss ∧ z.ys.length ≤ 1000 ∧ z.zs.length ≤ 1000, .tup [.agg [.ints z.xs, .rows z.xss], .ints z.ys, .ints z.zs], [])) := by
  refine fun_okZ (C := t_fieldD ++ t_pricesD ++ t_l2Good ++ t_oneD ++ t_bestS ++ t_sitesD) (hint := hintX [2, 6, 10] [(3, [.fz [12], .frb 6]), (4, [.cut [2, 5, 6, 7]]), (6, [.cut [2, 5, 6, 7]])] 0 [72, 1000072, 94, 1000094, 73, 1000073, 86, 1000086] [] [(5, [0, 2, 3, 1, 4, 5, 6]), (6, [2, 3, 0, 1, 4, 5, 6, 7])] [(5, [3, 4, 1]), (6, [2, 4, 2])]) ((((((t_fieldD_ok).append t_pricesD_ok).append t_l2Good_ok).append t_oneD_ok).append t_bestS_ok).append t_sitesD_ok) mixed Tryz.func40 rfl (by kernel_rfl) rfl (Nat.le_refl _) (by decide) (upTo_look (k := 0) rfl) ?_
  show codeA _ _ _ _ _ _ _ _
  simp only [go_sem, ↓reduceIte, Nat.reduceEqDiff, Nat.reduceBEq, Nat.reduceAdd, Nat.reduceSub, Nat.reduceLeDiff, Nat.reduceMul, Nat.reduceLT, Tryz.results40]
  refine ⟨⟨hp, by omega⟩, fun z hz => ⟨⟨hp, by omega, hz.1⟩, fun z1 h1 => ?_⟩⟩
  generalize z.xs = o at *
  generalize z.xss = d at *
  refine stop_intro ?_
  simp only [go_sem, ↓reduceIte, Nat.reduceEqDiff, Nat.reduceBEq, Nat.reduceAdd, Nat.reduceSub, Nat.reduceLeDiff, Nat.reduceMul, Nat.reduceLT]
  refine ⟨⟨by have := hz.1.1; omega, by have := hz.1.2.1; omega, fun x hx => by have := hz.1.2.2 x hx; omega⟩, partB_intro (fun hg => ⟨⟨hp, by omega, by omega⟩, fun z2 h2 => fork_intro (fun _ => ?_) (fun _ => ?_)⟩) (fun hg => ?_)⟩
  · have hf := good_iff.1 hg
    have h8 : (bestL o d).length ≤ 64 := by
      have h1 := setsL_len o.length
      have h2 := pow_ge2 o.length hf.n1
      exact (setsL_mem hf.n7 (bestT_mem (total o d) (by omega) _ (Nat.le_refl _))).2.1
    exact ⟨hf, { xs := o, xss := d, ys := z1.xs, zs := bestL o d }, ⟨hz.1, h1.1, (by dsimp only; omega)⟩, ⟨rfl, rfl⟩, rfl, rfl⟩
  · refine stop_intro ?_
    simp only [go_sem, ↓reduceIte, Nat.reduceEqDiff, Nat.reduceBEq, Nat.reduceAdd, Nat.reduceSub, Nat.reduceLeDiff, Nat.reduceMul, Nat.reduceLT]
    exact ⟨⟨hp, by omega, hz.1.1⟩, fun z3 h3 => ⟨{ xs := o, xss := d, ys := z1.xs, zs := z3.xs }, ⟨hz.1, h1.1, h3.1⟩, ⟨rfl, rfl⟩, rfl, rfl⟩⟩
  · refine stop_intro ?_
    simp only [go_sem, ↓reduceIte, Nat.reduceEqDiff, Nat.reduceBEq, Nat.reduceAdd, Nat.reduceSub, Nat.reduceLeDiff, Nat.reduceMul, Nat.reduceLT]
    exact ⟨⟨hp, by omega, hz.1.1⟩, fun z3 h3 => ⟨{ xs := o, xss := d, ys := z1.xs, zs := z3.xs }, ⟨hz.1, h1.1, h3.1⟩, ⟨rfl, rfl⟩, rfl, rfl⟩⟩
def t_drawGap : Table := [(40, zC 0 0 g_drawGap)]
theorem t_drawGap_ok : TabOK Tryz.prog t_drawGap := .cons Tryz.func40 (by kernel_rfl) (.z (by decide) (by intro args pre _ hp; unfold g_drawGap at hp ⊢; split at hp <;> first | exact hp.elim | exact ⟨fun z hz => ⟨rfl, fun r hr => absurd hr (Nat.not_lt_zero _)⟩, drawGap_ok _ hp⟩)) (.nil _)
attribute [go_sem] g_drawGap_eq t_drawGap
end Go.Proofs.YteefjdbdknkcjaaGreat
