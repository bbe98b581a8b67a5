/- Sealed texts: both packages say the same. -/
import Derived.Test.YtkjfmabadpfgaaaDoorX2
namespace Go.Proofs.YtkjfmabadpfgaaaDoor
open Go.Vc
set_option maxRecDepth 100000
set_option linter.unusedSimpArgs false
set_option linter.unusedVariables false

theorem okC_t {s : ByteArray} (h1 : s.size <= 4000) (h2 : hasB s 35 = false) (h3 : (sealB s).size <= 4000) : okC s = true := by unfold okC; simp [h1, h2, h3]
theorem okC_f1 {s : ByteArray} (h1 : ¬ s.size <= 4000) : okC s = false := by unfold okC; simp [h1]
theorem okC_f2 {s : ByteArray} (h2 : hasB s 35 = true) : okC s = false := by unfold okC; simp [h2]
theorem okC_f3 {s : ByteArray} (h3 : ¬ (sealB s).size <= 4000) : okC s = false := by unfold okC; simp [h3]

theorem okV_t {s : ByteArray} (h1 : s.size <= 4000) (h2 : sealB (frontB s 35) = s) : okV s = true := by unfold okV; simp [h1, h2]
theorem okV_f1 {s : ByteArray} (h1 : ¬ s.size <= 4000) : okV s = false := by unfold okV; simp [h1]
theorem okV_f2 {s : ByteArray} (h2 : ¬ sealB (frontB s 35) = s) : okV s = false := by unfold okV; simp [h2]
def g_appS : List AV -> Prop × AV
  | [.str s] => (s.size <= 1048576, .tup [.str (bif okC s then sealB s else ⟨#[]⟩), .bool (okC s)])
  | _ => (False, .undef)
theorem g_appS_eq (s : ByteArray) : g_appS [.str s] = (s.size <= 1048576, .tup [.str (bif okC s then sealB s else ⟨#[]⟩), .bool (okC s)]) := (rfl)
theorem appS_ok (s : ByteArray) (hp : s.size <= 1048576) : SpecOK Tryd.prog 22 [.str s] (.tup [.str (bif okC s then sealB s else ⟨#[]⟩), .bool (okC s)]) [] := by
  refine fun_ok (C := t_hasS ++ t_sealS) (hint := hintX [] [] 0 [] [] [] []) ((t_hasS_ok).append t_sealS_ok) mixed Tryd.func22 rfl (by kernel_rfl) rfl ?_
  show codeA _ _ _ _ _ _ _ _
  simp only [go_sem, Tryd.results22]
  refine fork_intro (fun h1 => ?_) (fun h1 => ?_)
  · rw [okC_f1 (by omega)]; exact ⟨rfl, rfl⟩
  · refine ⟨⟨by omega, by omega, by omega⟩, ?_⟩
    refine partB_intro (fun h2 => ?_) (fun h2 => ?_)
    · rw [okC_f2 h2]; exact ⟨rfl, rfl⟩
    · refine ⟨by omega, fork_intro (fun h3 => ?_) (fun h3 => ?_)⟩
      · rw [okC_f3 (by omega)]; exact ⟨rfl, rfl⟩
      · rw [okC_t (by omega) h2 (by omega)]; exact ⟨by omega, rfl, rfl⟩
def t_appS : Table := [(22, pureC g_appS)]
theorem t_appS_ok : TabOK Tryd.prog t_appS := .cons Tryd.func22 (by kernel_rfl) (.pure (by intro args hp; unfold g_appS at hp ⊢; split at hp <;> first | exact hp.elim | exact appS_ok _ hp)) (.nil _)
attribute [go_sem] g_appS_eq t_appS
def g_appI : List AV -> Prop × AV
  | [.str s] => (s.size <= 1048576, .tup [.str (bif okC s then sealB s else ⟨#[]⟩), .bool (okC s)])
  | _ => (False, .undef)
theorem g_appI_eq (s : ByteArray) : g_appI [.str s] = (s.size <= 1048576, .tup [.str (bif okC s then sealB s else ⟨#[]⟩), .bool (okC s)]) := (rfl)
theorem appI_ok (s : ByteArray) (hp : s.size <= 1048576) : SpecOK Tryd.prog 21 [.str s] (.tup [.str (bif okC s then sealB s else ⟨#[]⟩), .bool (okC s)]) [] := by
  refine fun_ok (C := t_hasC ++ t_sumI ++ t_itoa) (hint := hintX [] [] 0 [] [] [] []) (((t_hasC_ok).append t_sumI_ok).append t_itoa_ok) mixed Tryd.func21 rfl (by kernel_rfl) rfl ?_
  show codeA _ _ _ _ _ _ _ _
  simp only [go_sem, Tryd.results21]
  have hb := sumB_bd s s.size
  have h9 := numB_size (sumB s s.size) (by omega) (by omega)
  have hz : (#[35] : Array UInt8).size = 1 := rfl
  have hs : s.size + 1 + (numB (sumB s s.size)).size = (sealB s).size := by unfold sealB; rw [ByteArray.size_append, ByteArray.size_append]; rfl
  simp only [hz, hs]
  refine fork_intro (fun h1 => ?_) (fun h1 => ?_)
  · rw [okC_f1 (by omega)]; exact ⟨rfl, rfl⟩
  · refine ⟨trivial, ?_⟩
    refine partB_intro (fun h2 => ?_) (fun h2 => ?_)
    · rw [okC_f2 h2]; exact ⟨rfl, rfl⟩
    · have hl := sealB_size s
      refine ⟨by omega, by omega, ⟨by omega, by omega⟩, by omega, fork_intro (fun h3 => ?_) (fun h3 => ?_)⟩
      · rw [okC_f3 (by omega)]; exact ⟨rfl, rfl⟩
      · rw [okC_t (by omega) h2 (by omega)]; exact ⟨rfl, rfl⟩
def t_appI : Table := [(21, pureC g_appI)]
theorem t_appI_ok : TabOK Tryd.prog t_appI := .cons Tryd.func21 (by kernel_rfl) (.pure (by intro args hp; unfold g_appI at hp ⊢; split at hp <;> first | exact hp.elim | exact appI_ok _ hp)) (.nil _)
attribute [go_sem] g_appI_eq t_appI
def g_verI : List AV -> Prop × AV
  | [.str s] => (s.size <= 1048576, .tup [.str (bif okV s then frontB s 35 else ⟨#[]⟩), .bool (okV s)])
  | _ => (False, .undef)
theorem g_verI_eq (s : ByteArray) : g_verI [.str s] = (s.size <= 1048576, .tup [.str (bif okV s then frontB s 35 else ⟨#[]⟩), .bool (okV s)]) := (rfl)
theorem verI_ok (s : ByteArray) (hp : s.size <= 1048576) : SpecOK Tryd.prog 23 [.str s] (.tup [.str (bif okV s then frontB s 35 else ⟨#[]⟩), .bool (okV s)]) [] := by
  refine fun_ok (C := t_cutC ++ t_appI) (hint := hintX [] [] 0 [] [] [] []) ((t_cutC_ok).append t_appI_ok) mixed Tryd.func23 rfl (by kernel_rfl) rfl ?_
  show codeA _ _ _ _ _ _ _ _
  simp only [go_sem, Tryd.results23]
  have e35 : byteAt { data := #[35] } 0 = 35 := rfl
  simp only [e35, beqL]
  have hf := frontB_size s 35
  refine ⟨⟨rfl, by omega⟩, by omega, ?_⟩
  refine partB_intro (fun h2 => ?_) (fun h2 => ?_)
  · rw [h2, cond_true]
    have h2' := h2
    unfold okC at h2'
    simp only [Bool.and_eq_true, decide_eq_true_eq] at h2'
    refine partB_intro (fun h3 => ?_) (fun h3 => ?_)
    · have h3 := of_decide_eq_true h3
      rw [okV_t (by rw [<- h3]; exact h2'.2.2) h3]; exact ⟨rfl, rfl⟩
    · rw [okV_f2 (of_decide_eq_false h3)]; exact ⟨rfl, rfl⟩
  · have hv : okV s = false := by
      cases hv : okV s with
      | false => rfl
      | true =>
        unfold okV at hv
        simp only [Bool.and_eq_true, decide_eq_true_eq] at hv
        have hl := sealB_size (frontB s 35)
        rw [hv.2] at hl
        rw [okC_t (by omega) (frontB_has s 35) (by rw [hv.2]; exact hv.1)] at h2
        cases h2
    rw [hv]; exact ⟨rfl, rfl⟩
def t_verI : Table := [(23, pureC g_verI)]
theorem t_verI_ok : TabOK Tryd.prog t_verI := .cons Tryd.func23 (by kernel_rfl) (.pure (by intro args hp; unfold g_verI at hp ⊢; split at hp <;> first | exact hp.elim | exact verI_ok _ hp)) (.nil _)
attribute [go_sem] g_verI_eq t_verI
end Go.Proofs.YtkjfmabadpfgaaaDoor
