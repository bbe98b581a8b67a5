/- The law on SplitString keeps its contract: it says true. -/
import Derived.Test.YtjnongegddnobaaDoorSQ
namespace Go.Proofs.YtjnongegddnobaaDoor
open Go.Vc
set_option maxRecDepth 100000
set_option maxHeartbeats 1600000
set_option linter.unusedSimpArgs false
set_option linter.unusedVariables false
def g_lawSplitString : List AV -> Prop × AV
  | [.str s0, .str s1] => (s0.size <= 9223372036854775807 /\ s1.size <= 9223372036854775807, .bool true)
  | _ => (False, .undef)
theorem g_lawSplitString_eq (s0 : ByteArray) (s1 : ByteArray) : g_lawSplitString [.str s0, .str s1] = (s0.size <= 9223372036854775807 /\ s1.size <= 9223372036854775807, .bool true) := (rfl)
theorem lawSplitString_ok (s0 : ByteArray) (s1 : ByteArray) (hp : s0.size <= 9223372036854775807 /\ s1.size <= 9223372036854775807) : SpecOK Tryd.prog 7 [.str s0, .str s1] (.bool true) [] := by
  refine fun_ok (C := t_splitterS ++ t_splitterI ++ t_eqStrs ++ t_markStrs ++ t_heldStrs) (hint := hintX [28] [(5, [.cut [0, 1]]), (6, [.cut [0, 1, 5, 6]]), (7, [.cut [0, 1, 5, 6, 7, 8]]), (9, [.cut [0, 1, 5, 6, 7]]), (10, [.cut [0, 1, 5, 6, 7, 9]]), (11, [.cut [0, 1, 5, 6, 7, 9]]), (12, [.cut [0, 1, 5, 6, 7, 9, 10]]), (13, [.cut [0, 1, 5, 6, 7, 9, 10]]), (15, [.cut [0, 1, 5, 6, 7, 9, 10]]), (17, [.cut [0, 1, 5, 6, 7, 9, 10]]), (18, [.cut [5, 6, 7, 9, 10, 11, 12]]), (20, [.cut [7, 9, 10]]), (21, [.cut [7, 9, 10]]), (22, [.cut [9, 10]]), (24, [.cut [9, 10]])] 0 [21] [] [] []) (((((t_splitterS_ok).append t_splitterI_ok).append t_eqStrs_ok).append t_markStrs_ok).append t_heldStrs_ok) mixed Tryd.func7 rfl (by kernel_rfl) rfl ?_
  show codeA _ _ _ _ _ _ _ _
  simp only [go_sem, Tryd.results7]
  obtain ⟨p0, p1⟩ := hp
  refine fork_intro (fun _ => trivial) (fun hx0 => ?_)
  refine fork_intro (fun _ => trivial) (fun hx1 => ?_)
  have hc1 : (splR s0 s1).length <= 4001 := by
    by_cases h : s1.size = 1 /\ s0.size <= 4000
    · rw [(splOk_t h).2]
      have := splL_len s0 (byteAt s1 0)
      omega
    · rw [(splOk_f h).2]; simp
  have hc2 := upT_len 1 (splR s0 s1).length
  repeat' (first | with_reducible exact True.intro | with_reducible assumption | (with_reducible refine stop_intro ?_; simp only [go_sem, upF_len, markR_len, markR_idem, sumLen_mark, and_self, if_true, List.length_nil, sumLen_nil, upF_nil, markR_nil]; done) | (with_reducible refine stop_intro ?_; simp only [go_sem, upF_len, markR_len, markR_idem, sumLen_mark, and_self, if_true, List.length_nil, sumLen_nil, upF_nil, markR_nil]) | with_reducible apply partB_self | with_reducible apply partB_tt | with_reducible apply forkP_true | with_reducible apply forkP_eq | omega | with_reducible rfl | with_reducible refine fork_intro (fun hb => ?_) (fun hb => ?_) | with_reducible refine And.intro ?_ ?_)
def t_lawSplitString : Table := [(7, pureC g_lawSplitString)]
theorem t_lawSplitString_ok : TabOK Tryd.prog t_lawSplitString := .cons Tryd.func7 (by kernel_rfl) (.pure (by intro args hp; unfold g_lawSplitString at hp ⊢; split at hp <;> first | exact hp.elim | exact lawSplitString_ok _ _ hp)) (.nil _)
attribute [go_sem] g_lawSplitString_eq t_lawSplitString
end Go.Proofs.YtjnongegddnobaaDoor
