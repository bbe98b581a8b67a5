/- All sets in order, as the program lists them. -/
import Derived.Test.YtgcbdpehnonghaaA23
import Derived.Test.YtgcbdpehnonghaaXS
namespace Go.Proofs.Ytgcbdpehnonghaa
open Go.Vc
set_option maxRecDepth 100000
set_option linter.unusedSimpArgs false
set_option linter.unusedVariables false

def g_setsI : List AV -> Prop × AV
  | [.int .i64 m] => (1 <= m /\ m <= 7, .rows (setsL m.toNat))
  | _ => (False, .undef)
theorem g_setsI_eq (m : Int) : g_setsI [.int .i64 m] = (1 <= m /\ m <= 7, .rows (setsL m.toNat)) := (rfl)
theorem setsI_ok (m : Int) (hp : 1 <= m /\ m <= 7) : SpecOK Try.prog 41 [.int .i64 m] (.rows (setsL m.toNat)) [] := by
  refine fun_ok (C := t_listI ++ t_sortC) (hint := hintX [3, 5, 16] [] 0 [64] [] [] []) ((t_listI_ok).append t_sortC_ok) mixed Try.func41 rfl (by kernel_rfl) rfl ?_
  show codeA _ _ _ _ _ _ _ _
  simp only [go_sem, Try.results41]
  obtain ⟨n, rfl⟩ : ∃ n : Nat, m = n := ⟨m.toNat, by omega⟩
  have hp7 := pow_7 n (by omega)
  simp only [Int.toNat_natCast]
  refine loop_intro (fun c : Nat => [(3, .sl 0), (4, .int .u64 ((c + 1 : Nat) : Int)), (0, .int .i64 n)]) (fun c => [(0, .arr (.rows (allK n c)))]) 1 (fun c => c <= 2 ^ n - 1) (fun c => 2 ^ n - 1 - c) 0 (by omega) (by omega) ?_ ?_
  · simp only [go_sem]
    repeat' (first | refine fork_intro (fun hb => ?_) (fun hb => ?_) | refine partB_intro (fun hb => ?_) (fun hb => ?_) | refine And.intro ?_ ?_)
    all_goals first | exact True.intro | omega | with_reducible rfl | exact congrArg (AV.int _) (by omega) | (first | rfl)
  · intro c hc
    have hcl : (allK n c).length = c := tab_len _ _
    have e := tab_succ c fun c => bagL (c + 1)
    have hw : IntKind.u64.wrap (((c + 1 : Nat) : Int) + 1) = ((c + 1 + 1 : Nat) : Int) := by
      have := wrap_nat (x := c + 1 + 1) (by omega)
      rw [<- this]; congr 1
    simp only [go_sem, v_addu, p_addu]
    rw [hw]
    refine ⟨by omega, fork_intro (fun h1 => ?_) (fun h1 => ?_)⟩
    · have hn2 : c + 1 < 2 ^ n := by have := hp7.2.2; omega
      refine ⟨⟨by omega, by omega⟩, by omega, ?_⟩
      refine LoopEnd.intro (c + 1) (by omega) (by omega) (by omega) ?_
      simp only [go_sem]
      exact congrArg AV.rows e.symm
    · have hce : c = 2 ^ n - 1 := by omega
      subst hce
      have hnd := allL_nodup (n := n) (by omega)
      have hme := fun (x : List Int) hx => (allL_mem (n := n) (by omega) (set := x) hx).2.1
      refine ⟨⟨by rw [hcl]; have := pow_ge2 n (by omega); omega, by omega, hnd, fun x hx => Nat.le_trans (hme x hx) (by omega)⟩, rfl⟩
def t_setsI : Table := [(41, pureC g_setsI)]
theorem t_setsI_ok : TabOK Try.prog t_setsI := .cons Try.func41 (by kernel_rfl) (.pure (by intro args hp; unfold g_setsI at hp ⊢; split at hp <;> first | exact hp.elim | exact setsI_ok _ hp)) (.nil _)
attribute [go_sem] g_setsI_eq t_setsI
end Go.Proofs.Ytgcbdpehnonghaa
