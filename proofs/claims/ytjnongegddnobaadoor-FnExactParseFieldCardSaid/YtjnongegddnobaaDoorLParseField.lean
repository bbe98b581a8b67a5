/- The law on ParseField keeps its contract: it says true. -/
import Derived.Test.YtjnongegddnobaaDoorX8
namespace Go.Proofs.YtjnongegddnobaaDoor
open Go.Vc
set_option maxRecDepth 100000
set_option maxHeartbeats 1600000
set_option linter.unusedSimpArgs false
set_option linter.unusedVariables false
def g_lawParseField : List AV -> Prop × AV
  | [.str s0] => (s0.size <= 9223372036854775807, .bool true)
  | _ => (False, .undef)
theorem g_lawParseField_eq (s0 : ByteArray) : g_lawParseField [.str s0] = (s0.size <= 9223372036854775807, .bool true) := (rfl)
theorem lawParseField_ok (s0 : ByteArray) (hp : s0.size <= 9223372036854775807) : SpecOK Tryd.prog 9 [.str s0] (.bool true) [] := by
  refine fun_ok (C := t_parseFS ++ t_parseFI ++ t_eqF ++ t_markF ++ t_heldF) (hint := hintX [3, 5, 9, 21, 22] [(3, [.cut [0]]), (4, [.cut [0, 3, 4]]), (5, [.cut [0, 3, 4, 5, 6]]), (7, [.cut [0, 3, 4, 5]]), (8, [.cut [0, 3, 4, 5, 7]]), (9, [.cut [0, 3, 4, 5, 7]]), (10, [.cut [0, 3, 4, 5, 7, 8]]), (11, [.cut [0, 3, 4, 5, 7, 8]]), (13, [.cut [0, 3, 4, 5, 7, 8]]), (15, [.cut [0, 3, 4, 5, 7, 8]]), (16, [.cut [3, 4, 5, 7, 8, 9, 10]]), (18, [.cut [5, 7, 8]]), (19, [.cut [5, 7, 8]]), (20, [.cut [7, 8]]), (22, [.cut [7, 8]])] 0 [30] [] [] []) (((((t_parseFS_ok).append t_parseFI_ok).append t_eqF_ok).append t_markF_ok).append t_heldF_ok) mixed Tryd.func9 rfl (by kernel_rfl) rfl ?_
  show codeA _ _ _ _ _ _ _ _
  simp only [go_sem, Tryd.results9]
  have p0 := hp
  refine fork_intro (fun _ => trivial) (fun hx0 => ?_)
  obtain ⟨g1, g2, g3, g4, g5⟩ : Small (bif pfB s0 then pfO s0 else []) (bif pfB s0 then pfD s0 else []) := by
    cases hg : pfB s0 with
    | false => exact small_nil
    | true =>
      rw [cond_true, cond_true]
      have hg2 : good (pfO s0) (pfD s0) = true := by unfold pfB at hg; simp only [Bool.and_eq_true] at hg; exact hg.1
      have h := good_iff.1 hg2
      have n7 := h.n7
      have m7 := h.m7
      exact small_of n7 m7 (fun x hx => by rw [h.len x hx]; exact n7)
  repeat' (first | with_reducible exact True.intro | with_reducible assumption | (with_reducible refine stop_intro ?_; simp only [go_sem, upF_len, markR_len, markR_idem, sumLen_mark, and_self, if_true, List.length_nil, sumLen_nil, upF_nil, markR_nil]; done) | (with_reducible refine stop_intro ?_; simp only [go_sem, upF_len, markR_len, markR_idem, sumLen_mark, and_self, if_true, List.length_nil, sumLen_nil, upF_nil, markR_nil]) | with_reducible apply partB_self | with_reducible apply partB_tt | with_reducible apply forkP_true | with_reducible apply forkP_eq | omega | with_reducible rfl | with_reducible refine fork_intro (fun hb => ?_) (fun hb => ?_) | with_reducible refine And.intro ?_ ?_)
def t_lawParseField : Table := [(9, pureC g_lawParseField)]
theorem t_lawParseField_ok : TabOK Tryd.prog t_lawParseField := .cons Tryd.func9 (by kernel_rfl) (.pure (by intro args hp; unfold g_lawParseField at hp ⊢; split at hp <;> first | exact hp.elim | exact lawParseField_ok _ hp)) (.nil _)
attribute [go_sem] g_lawParseField_eq t_lawParseField
end Go.Proofs.YtjnongegddnobaaDoor
