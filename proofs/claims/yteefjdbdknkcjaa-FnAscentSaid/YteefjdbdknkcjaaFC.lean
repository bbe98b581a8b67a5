/- Draws of fields, prices and totals. -/
import Derived.Test.YteefjdbdknkcjaaFA
import Derived.Test.YteefjdbdknkcjaaA24
import Derived.Test.YteefjdbdknkcjaaA9
namespace Go.Proofs.Yteefjdbdknkcjaa
open Go.Vc
set_option maxRecDepth 100000
set_option maxHeartbeats 1600000
set_option linter.unusedSimpArgs false
set_option linter.unusedVariables false

def g_drawAscent : List AV → Heap → Prop × (Z → Prop × AV × Heap)
  | [.bytes code], [] => (code.length ≤ 1000000000, fun z => (Bdd z.xs z.xss, .agg [.ints z.xs, .rows z.xss], []))
  | _, _ => (False, fun _ => (False, .undef, []))
theorem g_drawAscent_eq (code : List UInt8) : g_drawAscent [.bytes code] [] = (code.length ≤ 1000000000, fun z => (Bdd z.xs z.xss, .agg [.ints z.xs, .rows z.xss], [])) := (rfl)
theorem drawAscent_ok (code : List UInt8) (hp : code.length ≤ 1000000000) : SpecZ Try.prog 26 [.bytes code] [] 0 (fun z => (Bdd z.xs z.xss, .agg [.ints z.xs, .rows z.xss], [])) := by
  refine fun_okZ (C := t_fieldD) (hint := hintX [2, 6] [(2, [.post, .fz [8]])] 0 [41, 1000041] [] [] []) (t_fieldD_ok) mixed Try.func26 rfl (by kernel_rfl) rfl (Nat.le_refl _) (by decide) (upTo_look (k := 0) rfl) ?_
  show codeA _ _ _ _ _ _ _ _
  simp only [go_sem, ↓reduceIte, Nat.reduceEqDiff, Nat.reduceBEq, Nat.reduceAdd, Nat.reduceSub, Nat.reduceLeDiff, Nat.reduceMul, Nat.reduceLT, Try.results26]
  exact ⟨⟨hp, by omega⟩, fun z hz => ⟨{ xs := z.xs, xss := z.xss }, hz.1, rfl, rfl⟩⟩
def t_drawAscent : Table := [(26, zC 0 0 g_drawAscent)]
theorem t_drawAscent_ok : TabOK Try.prog t_drawAscent := .cons Try.func26 (by kernel_rfl) (.z (by decide) (by intro args pre _ hp; unfold g_drawAscent at hp ⊢; split at hp <;> first | exact hp.elim | exact ⟨fun z hz => ⟨rfl, fun r hr => absurd hr (Nat.not_lt_zero _)⟩, drawAscent_ok _ hp⟩)) (.nil _)
attribute [go_sem] g_drawAscent_eq t_drawAscent
def g_drawClosed : List AV → Heap → Prop × (Z → Prop × AV × Heap)
  | [.bytes code], [] => (code.length ≤ 1000000000, fun z => (Bdd z.xs z.xss ∧ z.ys.length ≤ 1000 ∧ RK .i64 z.n, .tup [.agg [.ints z.xs, .rows z.xss], .ints z.ys, .int .i64 z.n], []))
  | _, _ => (False, fun _ => (False, .undef, []))
theorem g_drawClosed_eq (code : List UInt8) : g_drawClosed [.bytes code] [] = (code.length ≤ 1000000000, fun z => (Bdd z.xs z.xss ∧ z.ys.length ≤ 1000 ∧ RK .i64 z.n, .tup [.agg [.ints z.xs, .rows z.xss], .ints z.ys, .int .i64 z.n], [])) := (rfl)
theorem drawClosed_ok (code : List UInt8) (hp : code.length ≤ 1000000000) : SpecZ Try.prog 29 [.bytes code] [] 0 (fun z => (Bdd z.xs z.xss ∧ z.ys.length ≤ 1000 ∧ RK .i64 z.n, .tup [.agg [.ints z.xs, .rows z.xss], .ints z.ys, .int .i64 z.n], [])) := by
  refine fun_okZ (C := t_fieldD ++ t_pricesD ++ t_l2Good ++ t_oneD ++ t_bestS ++ t_totalS ++ t_amongD) (hint := hintX [2, 6, 10] [(3, [.fz [12], .frb 6]), (4, [.cut [2, 5, 6, 7]]), (6, [.cut [2, 5, 6, 7]])] 0 [41, 1000041, 66, 1000066, 67, 1000067, 69, 1000069] [] [(5, [0, 2, 3, 4, 5, 1, 6, 7, 8]), (6, [2, 3, 0, 1, 4, 5, 6, 7])] [(5, [5, 6, 1]), (6, [2, 4, 2])]) (((((((t_fieldD_ok).append t_pricesD_ok).append t_l2Good_ok).append t_oneD_ok).append t_bestS_ok).append t_totalS_ok).append t_amongD_ok) mixed Try.func29 rfl (by kernel_rfl) rfl (Nat.le_refl _) (by decide) (upTo_look (k := 0) rfl) ?_
  show codeA _ _ _ _ _ _ _ _
  simp only [go_sem, ↓reduceIte, Nat.reduceEqDiff, Nat.reduceBEq, Nat.reduceAdd, Nat.reduceSub, Nat.reduceLeDiff, Nat.reduceMul, Nat.reduceLT, Try.results29]
  refine ⟨⟨hp, by omega⟩, fun z hz => ⟨⟨hp, by omega, hz.1⟩, fun z1 h1 => ?_⟩⟩
  generalize z.xs = o at *
  generalize z.xss = d at *
  refine stop_intro ?_
  simp only [go_sem, ↓reduceIte, Nat.reduceEqDiff, Nat.reduceBEq, Nat.reduceAdd, Nat.reduceSub, Nat.reduceLeDiff, Nat.reduceMul, Nat.reduceLT]
  refine ⟨⟨by have := hz.1.1; omega, by have := hz.1.2.1; omega, fun x hx => by have := hz.1.2.2 x hx; omega⟩, partB_intro (fun hg => ⟨⟨hp, by omega, by omega⟩, fun z2 h2 => fork_intro (fun _ => ?_) (fun _ => ?_)⟩) (fun hg => ?_)⟩
  · refine stop_intro ?_
    simp only [go_sem, ↓reduceIte, Nat.reduceEqDiff, Nat.reduceBEq, Nat.reduceAdd, Nat.reduceSub, Nat.reduceLeDiff, Nat.reduceMul, Nat.reduceLT]
    refine ⟨⟨hp, by omega, by omega⟩, fun z3 h3 => ⟨{ xs := o, xss := d, ys := z1.xs, n := z3.n }, ⟨hz.1, h1.1, ?_⟩, ⟨rfl, rfl⟩, rfl, rfl⟩⟩
    have h4 := h3.1
    simp only [List.mem_cons, List.not_mem_nil, or_false] at h4
    dsimp only
    omega
  · have hf := good_iff.1 hg
    have ho := bestL_open hf
    have h5 := ho.svc_bd
    have h6 := ho.pay.bd (Nat.le_refl _)
    rw [List.take_length] at h6
    have h8 : (bestL o d).length ≤ 64 := by
      have h1 := setsL_len o.length
      have h2 := pow_ge2 o.length hf.n1
      exact (setsL_mem hf.n7 (bestT_mem (total o d) (by omega) _ (Nat.le_refl _))).2.1
    have h7 : total o d (bestL o d) = pay o (bestL o d) + svc d (bestL o d) := rfl
    exact ⟨hf, ho, { xs := o, xss := d, ys := z1.xs, n := total o d (bestL o d) }, ⟨hz.1, h1.1, (by dsimp only; omega), (by dsimp only; omega)⟩, ⟨rfl, rfl⟩, rfl, rfl⟩
  · refine stop_intro ?_
    simp only [go_sem, ↓reduceIte, Nat.reduceEqDiff, Nat.reduceBEq, Nat.reduceAdd, Nat.reduceSub, Nat.reduceLeDiff, Nat.reduceMul, Nat.reduceLT]
    refine ⟨⟨hp, by omega, by omega⟩, fun z3 h3 => ⟨{ xs := o, xss := d, ys := z1.xs, n := z3.n }, ⟨hz.1, h1.1, ?_⟩, ⟨rfl, rfl⟩, rfl, rfl⟩⟩
    have h4 := h3.1
    simp only [List.mem_cons, List.not_mem_nil, or_false] at h4
    dsimp only
    omega
def t_drawClosed : Table := [(29, zC 0 0 g_drawClosed)]
theorem t_drawClosed_ok : TabOK Try.prog t_drawClosed := .cons Try.func29 (by kernel_rfl) (.z (by decide) (by intro args pre _ hp; unfold g_drawClosed at hp ⊢; split at hp <;> first | exact hp.elim | exact ⟨fun z hz => ⟨rfl, fun r hr => absurd hr (Nat.not_lt_zero _)⟩, drawClosed_ok _ hp⟩)) (.nil _)
attribute [go_sem] g_drawClosed_eq t_drawClosed
end Go.Proofs.Yteefjdbdknkcjaa
