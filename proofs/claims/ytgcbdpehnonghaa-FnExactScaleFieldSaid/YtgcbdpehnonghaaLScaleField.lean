/- The law on ScaleField keeps its contract: it says true. -/
import Derived.Test.YtgcbdpehnonghaaSCI
namespace Go.Proofs.Ytgcbdpehnonghaa
open Go.Vc
set_option maxRecDepth 100000
set_option maxHeartbeats 1600000
set_option linter.unusedSimpArgs false
set_option linter.unusedVariables false
def g_lawScaleField : List AV -> Prop × AV
  | [.agg [.ints o, .rows d], .int .i64 n1] => (((o.length <= 9223372036854775807 /\ ∀ n ∈ o, RK .i64 n) /\ d.length <= 9223372036854775807 /\ ∀ x ∈ d, x.length <= 9223372036854775807 /\ ∀ n ∈ x, RK .i64 n) /\ RK .i64 n1, .bool true)
  | _ => (False, .undef)
theorem g_lawScaleField_eq (o : List Int) (d : List (List Int)) (n1 : Int) : g_lawScaleField [.agg [.ints o, .rows d], .int .i64 n1] = (((o.length <= 9223372036854775807 /\ ∀ n ∈ o, RK .i64 n) /\ d.length <= 9223372036854775807 /\ ∀ x ∈ d, x.length <= 9223372036854775807 /\ ∀ n ∈ x, RK .i64 n) /\ RK .i64 n1, .bool true) := (rfl)
theorem lawScaleField_ok (o : List Int) (d : List (List Int)) (n1 : Int) (hp : ((o.length <= 9223372036854775807 /\ ∀ n ∈ o, RK .i64 n) /\ d.length <= 9223372036854775807 /\ ∀ x ∈ d, x.length <= 9223372036854775807 /\ ∀ n ∈ x, RK .i64 n) /\ RK .i64 n1) : SpecOK Try.prog 5 [.agg [.ints o, .rows d], .int .i64 n1] (.bool true) [] := by
  refine fun_ok (C := t_szF ++ t_toF ++ t_scaleS ++ t_scaleI ++ t_eqF ++ t_markF ++ t_heldF) (hint := hintX [6, 8, 9, 14, 29, 33, 34] [(5, [.cut [1, 2]]), (6, [.cut [1, 2, 6, 7]]), (7, [.cut [1, 2, 6, 7, 8]]), (8, [.cut [1, 2, 6, 7, 8, 9, 10]]), (10, [.cut [1, 2, 6, 7, 8, 9, 10]]), (12, [.cut [1, 2, 6, 7, 8, 9, 10]]), (13, [.cut [1, 2, 6, 7, 8, 9, 10, 11]]), (14, [.cut [1, 2, 6, 7, 9, 10, 11]]), (16, [.cut [1, 2, 6, 7, 9]]), (17, [.cut [1, 2, 6, 7, 9, 12]]), (18, [.cut [1, 2, 6, 7, 9, 12]]), (19, [.cut [1, 2, 6, 7, 9, 12, 13]]), (20, [.cut [1, 2, 6, 7, 9, 12, 13]]), (22, [.cut [1, 2, 6, 7, 9, 12, 13]]), (24, [.cut [1, 2, 6, 7, 9, 12, 13]]), (25, [.cut [6, 7, 9, 12, 13, 14, 15]]), (27, [.cut [9, 12, 13]]), (28, [.cut [9, 12, 13]]), (29, [.cut [12, 13]]), (31, [.cut [12, 13]])] 0 [12] [] [] []) (((((((t_szF_ok).append t_toF_ok).append t_scaleS_ok).append t_scaleI_ok).append t_eqF_ok).append t_markF_ok).append t_heldF_ok) mixed Try.func5 rfl (by kernel_rfl) rfl ?_
  show codeA _ _ _ _ _ _ _ _
  simp only [go_sem, Try.results5]
  obtain ⟨p0, p1⟩ := hp
  refine ⟨⟨⟨p0.1.1, p0.2.1, fun x hx => (p0.2.2 x hx).1⟩, by omega⟩, fork_intro (fun _ => trivial) (fun hz0 => ?_)⟩
  obtain ⟨ho0, hd0, hr0, hs0, fa0, fb0, fm0, le0⟩ := szF_is (by omega) hz0
  have nn0 := sumLen_nonneg d
  have p1a : -9223372036854775808 <= n1 /\ n1 <= 9223372036854775807 := p1
  obtain ⟨g1, g2, g3, g4, g5⟩ : Small (bif sclB o d n1 then scl (min n1 100) o else []) (bif sclB o d n1 then d.map (scl (min n1 100)) else []) := by
    cases hg : sclB o d n1 with
    | false => exact small_nil
    | true =>
      rw [cond_true, cond_true]
      have hg2 : good (scl (min n1 100) o) (d.map (scl (min n1 100))) = true := by unfold sclB at hg; simp only [Bool.and_eq_true] at hg; exact hg.2.2
      have h := good_iff.1 hg2
      have n7 := h.n7
      have m7 := h.m7
      exact small_of n7 m7 (fun x hx => by rw [h.len x hx]; exact n7)
  repeat' (first | with_reducible exact True.intro | with_reducible assumption | (with_reducible refine stop_intro ?_; simp only [go_sem, upF_len, markR_len, markR_idem, sumLen_mark, and_self, if_true, List.length_nil, sumLen_nil, upF_nil, markR_nil]; done) | (with_reducible refine stop_intro ?_; simp only [go_sem, upF_len, markR_len, markR_idem, sumLen_mark, and_self, if_true, List.length_nil, sumLen_nil, upF_nil, markR_nil]) | with_reducible apply partB_self | with_reducible apply partB_tt | with_reducible apply forkP_true | with_reducible apply forkP_eq | omega | with_reducible rfl | with_reducible refine fork_intro (fun hb => ?_) (fun hb => ?_) | with_reducible refine And.intro ?_ ?_)
def t_lawScaleField : Table := [(5, pureC g_lawScaleField)]
theorem t_lawScaleField_ok : TabOK Try.prog t_lawScaleField := .cons Try.func5 (by kernel_rfl) (.pure (by intro args hp; unfold g_lawScaleField at hp ⊢; split at hp <;> first | exact hp.elim | exact lawScaleField_ok _ _ _ hp)) (.nil _)
attribute [go_sem] g_lawScaleField_eq t_lawScaleField
end Go.Proofs.Ytgcbdpehnonghaa
