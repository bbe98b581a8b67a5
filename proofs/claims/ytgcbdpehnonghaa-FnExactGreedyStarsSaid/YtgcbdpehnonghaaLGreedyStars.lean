/- The law on GreedyStars keeps its contract: it says true. -/
import Derived.Test.YtgcbdpehnonghaaXN
namespace Go.Proofs.Ytgcbdpehnonghaa
open Go.Vc
set_option maxRecDepth 100000
set_option maxHeartbeats 1600000
set_option linter.unusedSimpArgs false
set_option linter.unusedVariables false
def g_lawGreedyStars : List AV -> Prop × AV
  | [.agg [.ints o, .rows d]] => (((o.length <= 9223372036854775807 /\ ∀ n ∈ o, RK .i64 n) /\ d.length <= 9223372036854775807 /\ ∀ x ∈ d, x.length <= 9223372036854775807 /\ ∀ n ∈ x, RK .i64 n), .bool true)
  | _ => (False, .undef)
theorem g_lawGreedyStars_eq (o : List Int) (d : List (List Int)) : g_lawGreedyStars [.agg [.ints o, .rows d]] = (((o.length <= 9223372036854775807 /\ ∀ n ∈ o, RK .i64 n) /\ d.length <= 9223372036854775807 /\ ∀ x ∈ d, x.length <= 9223372036854775807 /\ ∀ n ∈ x, RK .i64 n), .bool true) := (rfl)
theorem lawGreedyStars_ok (o : List Int) (d : List (List Int)) (hp : ((o.length <= 9223372036854775807 /\ ∀ n ∈ o, RK .i64 n) /\ d.length <= 9223372036854775807 /\ ∀ x ∈ d, x.length <= 9223372036854775807 /\ ∀ n ∈ x, RK .i64 n)) : SpecOK Try.prog 3 [.agg [.ints o, .rows d]] (.bool true) [] := by
  refine fun_ok (C := t_szF ++ t_toF ++ t_greedyStS ++ t_greedyStI ++ t_eqI ++ t_eqF ++ t_markF ++ t_markI ++ t_heldI) (hint := hintX [6, 26, 29] [(5, [.cut [1]]), (6, [.cut [1, 4, 5]]), (7, [.cut [1, 4, 5, 6]]), (8, [.cut [1, 4, 5, 6, 7, 8]]), (10, [.cut [1, 4, 5, 6, 7, 8]]), (12, [.cut [1, 4, 5, 6, 7, 8]]), (13, [.cut [1, 4, 5, 6, 7, 8, 9]]), (14, [.cut [1, 4, 5, 7, 8, 9]]), (16, [.cut [1, 4, 5, 7]]), (17, [.cut [1, 4, 5, 7, 10]]), (18, [.cut [1, 4, 5, 7, 10]]), (19, [.cut [1, 4, 5, 7, 10, 11]]), (20, [.cut [1, 4, 5, 7, 10, 11]]), (22, [.cut [1, 4, 5, 7, 10, 11]]), (24, [.cut [1, 4, 5, 7, 10, 11]]), (25, [.cut [4, 5, 7, 10, 11, 12, 13]]), (27, [.cut [7, 10, 11]]), (28, [.cut [7, 10, 11]]), (29, [.cut [10, 11]]), (31, [.cut [10, 11]])] 0 [12, 13] [] [] []) (((((((((t_szF_ok).append t_toF_ok).append t_greedyStS_ok).append t_greedyStI_ok).append t_eqI_ok).append t_eqF_ok).append t_markF_ok).append t_markI_ok).append t_heldI_ok) mixed Try.func3 rfl (by kernel_rfl) rfl ?_
  show codeA _ _ _ _ _ _ _ _
  simp only [go_sem, Try.results3]
  have p0 := hp
  refine ⟨⟨⟨p0.1.1, p0.2.1, fun x hx => (p0.2.2 x hx).1⟩, by omega⟩, fork_intro (fun _ => trivial) (fun hz0 => ?_)⟩
  obtain ⟨ho0, hd0, hr0, hs0, fa0, fb0, fm0, le0⟩ := szF_is (by omega) hz0
  have nn0 := sumLen_nonneg d
  have hc1 : (bif good o d then starsL o d else []).length <= 7 := by
    cases hg : good o d with
    | false => simp
    | true => have := stars_len (good_iff.1 hg); simpa using this
  repeat' (first | with_reducible exact True.intro | with_reducible assumption | (with_reducible refine stop_intro ?_; simp only [go_sem, upF_len, markR_len, markR_idem, sumLen_mark, and_self, if_true, List.length_nil, sumLen_nil, upF_nil, markR_nil]; done) | (with_reducible refine stop_intro ?_; simp only [go_sem, upF_len, markR_len, markR_idem, sumLen_mark, and_self, if_true, List.length_nil, sumLen_nil, upF_nil, markR_nil]) | with_reducible apply partB_self | with_reducible apply partB_tt | with_reducible apply forkP_true | with_reducible apply forkP_eq | omega | with_reducible rfl | with_reducible refine fork_intro (fun hb => ?_) (fun hb => ?_) | with_reducible refine And.intro ?_ ?_)
def t_lawGreedyStars : Table := [(3, pureC g_lawGreedyStars)]
theorem t_lawGreedyStars_ok : TabOK Try.prog t_lawGreedyStars := .cons Try.func3 (by kernel_rfl) (.pure (by intro args hp; unfold g_lawGreedyStars at hp ⊢; split at hp <;> first | exact hp.elim | exact lawGreedyStars_ok _ _ hp)) (.nil _)
attribute [go_sem] g_lawGreedyStars_eq t_lawGreedyStars
end Go.Proofs.Ytgcbdpehnonghaa
