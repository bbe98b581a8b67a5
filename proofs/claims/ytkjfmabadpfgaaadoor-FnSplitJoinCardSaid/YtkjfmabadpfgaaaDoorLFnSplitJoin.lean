/- Texts split and joined: what the law asks. -/
import Derived.Test.YtkjfmabadpfgaaaDoorSD
import Derived.Test.YtkjfmabadpfgaaaDoorSL
import Derived.Test.YtkjfmabadpfgaaaDoorSQ
import Derived.Test.YtkjfmabadpfgaaaDoorX6
import Derived.Test.YtkjfmabadpfgaaaDoorPlV2
namespace Go.Proofs.YtkjfmabadpfgaaaDoor
open Go.Vc
set_option maxRecDepth 100000
set_option maxHeartbeats 1600000
set_option linter.unusedSimpArgs false
set_option linter.unusedVariables false
def g_vBig : List AV -> Prop × AV
  | [.bytes code] => (code.length <= 9223372036854775807, .bool (decide (65536 < code.length)))
  | _ => (False, .undef)
theorem g_vBig_eq (code : List UInt8) : g_vBig [.bytes code] = (code.length <= 9223372036854775807, .bool (decide (65536 < code.length))) := (rfl)
theorem vBig_ok (code : List UInt8) (hp : code.length <= 9223372036854775807) : SpecOK Tryd.prog 5 [.bytes code] (.bool (decide (65536 < code.length))) [] := by
  refine fun_ok (C := []) (hint := hintX [] [] 0 [] [] [] []) (TabOK.nil _) mixed Tryd.func5 rfl (by kernel_rfl) rfl ?_
  show codeA _ _ _ _ _ _ _ _
  simp only [go_sem, Tryd.results5]
  rw [show decide ((65536 : Int) < code.length) = decide (65536 < code.length) from decide_eq_decide.2 (by omega)]
def t_vBig : Table := [(5, pureC g_vBig)]
theorem t_vBig_ok : TabOK Tryd.prog t_vBig := .cons Tryd.func5 (by kernel_rfl) (.pure (by intro args hp; unfold g_vBig at hp ⊢; split at hp <;> first | exact hp.elim | exact vBig_ok _ hp)) (.nil _)
attribute [go_sem] g_vBig_eq t_vBig
theorem one_of {t : ByteArray} (h : t.size = 1) : t = oneB (byteAt t 0) := by
  obtain ⟨⟨l⟩⟩ := t
  match l, h with
  | [c], _ => rfl
theorem split_join {s t : ByteArray} (h1 : t.size = 1) (h2 : s.size <= 4000) : okJ (splL s (byteAt t 0)) t = true /\ joinB (splL s (byteAt t 0)) t = s := by
  have hj : joinB (splL s (byteAt t 0)) t = s := by
    have := join_splL s (byteAt t 0)
    rw [<- one_of h1] at this
    exact this
  refine ⟨okJ_t (by have := splL_len s (byteAt t 0); omega) h1 (List.any_eq_false.2 (fun x hx => by rw [splL_clean s _ x hx]; simp)) (by rw [hj]; exact h2), hj⟩
theorem cut_le (s : ByteArray) (a b : Nat) : (s.extract a b).size <= s.size := by rw [ByteArray.size_extract]; omega
theorem splP_size (s : ByteArray) (c : UInt8) : ∀ i, ∀ x ∈ (splP s c i).1, x.size <= s.size
  | 0, x, hx => by cases hx
  | i + 1, x, hx => by
    unfold splP at hx
    split at hx
    · rcases List.mem_append.1 hx with hx | hx
      · exact splP_size s c i x hx
      · rw [List.mem_singleton.1 hx]; exact cut_le _ _ _
    · exact splP_size s c i x hx
theorem splL_size (s : ByteArray) (c : UInt8) : ∀ x ∈ splL s c, x.size <= s.size := fun x hx => by
  unfold splL at hx
  rcases List.mem_append.1 hx with hx | hx
  · exact splP_size s c _ x hx
  · rw [List.mem_singleton.1 hx]; exact cut_le _ _ _
def g_lawFnSplitJoin : List AV -> Prop × AV
  | [.bytes code] => (code.length <= 9223372036854775807, .bool true)
  | _ => (False, .undef)
theorem g_lawFnSplitJoin_eq (code : List UInt8) : g_lawFnSplitJoin [.bytes code] = (code.length <= 9223372036854775807, .bool true) := (rfl)
theorem lawFnSplitJoin_ok (code : List UInt8) (hp : code.length <= 9223372036854775807) : SpecOK Tryd.prog 3 [.bytes code] (.bool true) [] := by
  refine fun_ok (C := t_vBig ++ t_dSplitD ++ t_splitterI ++ t_dJoinD ++ t_joinI ++ t_joinS ++ t_dLessD ++ t_lessI ++ t_lessS) (hint := hintX [] [] 0 [6, 1000006, 8, 1000008, 11, 1000011] [] [] []) (((((((((t_vBig_ok).append t_dSplitD_ok).append t_splitterI_ok).append t_dJoinD_ok).append t_joinI_ok).append t_joinS_ok).append t_dLessD_ok).append t_lessI_ok).append t_lessS_ok) mixed Tryd.func3 rfl (by kernel_rfl) rfl ?_
  show codeA _ _ _ _ _ _ _ _
  simp only [go_sem, Tryd.results3]
  refine ⟨hp, fork_intro (fun _ => trivial) (fun hc => ⟨by omega, fun z hz => ⟨by omega, by omega, fun z1 h1 => ?_⟩⟩)⟩
  have hb : z1.bs.length <= 1048576 /\ ∀ x ∈ z1.bs, x.size <= 1048576 := ⟨by omega, fun x hx => by have := h1.1.2 x hx; omega⟩
  refine ⟨hb, hb, by omega, fun z2 h2 => ?_⟩
  simp only [beq_self_eq_true, partB_true]
  by_cases h : z.c.size = 1
  · obtain ⟨e1, e2⟩ := splOk_t (s := z.b) (t := z.c) ⟨h, by omega⟩
    obtain ⟨e3, e4⟩ := split_join (s := z.b) (t := z.c) h (by omega)
    have hl := splL_len z.b (byteAt z.c 0)
    have hz2 := splL_size z.b (byteAt z.c 0)
    rw [e1, e2, e3, e4]
    simp only [partB_true, cond_true, beq_self_eq_true]
    have fin : forkP ((z.c.size : Int) = 1) (((splL z.b (byteAt z.c 0)).length <= 1048576 /\ ∀ x ∈ splL z.b (byteAt z.c 0), x.size <= 1048576) /\ True) (AV.bool false = AV.bool true) := fork_intro (fun _ => ⟨⟨by omega, fun x hx => by have := hz2 x hx; omega⟩, trivial⟩) (fun h' => (h' (by omega)).elim)
    refine partB_intro (fun ha => ?_) (fun ha => ?_)
    · rw [less_asym _ _ ha, partB_false]
      first | exact fin | exact fork_intro (fun _ => ⟨⟨by omega, fun x hx => by have := hz2 x hx; omega⟩, rfl⟩) (fun h' => (h' (by omega)).elim)
    · first | exact fin | exact fork_intro (fun _ => ⟨⟨by omega, fun x hx => by have := hz2 x hx; omega⟩, rfl⟩) (fun h' => (h' (by omega)).elim)
  · obtain ⟨e1, e2⟩ := splOk_f (s := z.b) (t := z.c) (fun h' => h h'.1)
    rw [e1, e2]
    simp only [partB_false]
    refine partB_intro (fun ha => ?_) (fun ha => ?_)
    · rw [less_asym _ _ ha, partB_false]
      exact fork_intro (fun h' => by omega) (fun _ => rfl)
    · exact fork_intro (fun h' => by omega) (fun _ => rfl)
def t_lawFnSplitJoin : Table := [(3, pureC g_lawFnSplitJoin)]
theorem t_lawFnSplitJoin_ok : TabOK Tryd.prog t_lawFnSplitJoin := .cons Tryd.func3 (by kernel_rfl) (.pure (by intro args hp; unfold g_lawFnSplitJoin at hp ⊢; split at hp <;> first | exact hp.elim | exact lawFnSplitJoin_ok _ hp)) (.nil _)
attribute [go_sem] g_lawFnSplitJoin_eq t_lawFnSplitJoin
end Go.Proofs.YtkjfmabadpfgaaaDoor
