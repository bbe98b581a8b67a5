/- Rising lists and payments: both packages say the same. -/
import Derived.Test.YtgcbdpehnonghaaA3
import Derived.Test.YtgcbdpehnonghaaPlS
namespace Go.Proofs.Ytgcbdpehnonghaa
open Go.Vc
set_option maxRecDepth 100000
set_option linter.unusedSimpArgs false
set_option linter.unusedVariables false


def g_payS : List AV -> Prop × AV
  | [.agg [.ints o, .rows d], .ints xs] => (PayOK o xs, .int .i64 (pay o xs))
  | _ => (False, .undef)
theorem g_payS_eq (o : List Int) (d : List (List Int)) (xs : List Int) : g_payS [.agg [.ints o, .rows d], .ints xs] = (PayOK o xs, .int .i64 (pay o xs)) := (rfl)
theorem payS_ok (o : List Int) (d : List (List Int)) (xs : List Int) (hp : PayOK o xs) : SpecOK Try.prog 76 [.agg [.ints o, .rows d], .ints xs] (.int .i64 (pay o xs)) [] := by
  refine fun_ok (C := []) (hint := hintX [] [] 0 [] [] [] []) (TabOK.nil _) mixed Try.func76 rfl (by kernel_rfl) rfl ?_
  show codeA _ _ _ _ _ _ _ _
  simp only [go_sem, Try.results76]
  have hl := hp.len
  refine loop_intro (fun k : Nat => [(5, .int .i64 (pay o (xs.take k))), (6, .int .i64 k), (1, .ints xs), (2, .iptr [.ints o, .rows d])]) (fun _ => []) 0 (fun k => k <= xs.length) (fun k => xs.length - k) 0 (Nat.zero_le _) (Nat.zero_le _) ?_ ?_
  · simp only [go_sem]
    repeat' (first | refine fork_intro (fun hb => ?_) (fun hb => ?_) | refine partB_intro (fun hb => ?_) (fun hb => ?_) | refine And.intro ?_ ?_)
    all_goals first | trivial | rfl | omega
  · rintro k hk
    simp only [go_sem]
    refine fork_intro (fun hb => ?_) (fun hb => ?_)
    · have hx := hp.xin k (by omega)
      have hv := hp.o99 _ hx.1 hx.2
      have h1 := hp.bd hk
      refine ⟨by omega, by omega, by omega, by omega, ?_⟩
      refine LoopEnd.intro (k + 1) (by omega) (by omega) (Nat.zero_le _) ?_
      simp only [go_sem]
      rw [pay_take o xs (by omega)]
      repeat' (first | refine fork_intro (fun hb => ?_) (fun hb => ?_) | refine partB_intro (fun hb => ?_) (fun hb => ?_) | refine And.intro ?_ ?_)
      all_goals first | trivial | rfl | omega
    · rw [List.take_of_length_le (by omega)]
def t_payS : Table := [(76, pureC g_payS)]
theorem t_payS_ok : TabOK Try.prog t_payS := .cons Try.func76 (by kernel_rfl) (.pure (by intro args hp; unfold g_payS at hp ⊢; split at hp <;> first | exact hp.elim | exact payS_ok _ _ _ hp)) (.nil _)
attribute [go_sem] g_payS_eq t_payS
def g_payI : List AV -> Prop × AV
  | [.agg [.ints o, .rows d], .ints xs] => (PayOK o xs, .int .i64 (pay o xs))
  | _ => (False, .undef)
theorem g_payI_eq (o : List Int) (d : List (List Int)) (xs : List Int) : g_payI [.agg [.ints o, .rows d], .ints xs] = (PayOK o xs, .int .i64 (pay o xs)) := (rfl)
theorem payI_ok (o : List Int) (d : List (List Int)) (xs : List Int) (hp : PayOK o xs) : SpecOK Try.prog 66 [.agg [.ints o, .rows d], .ints xs] (.int .i64 (pay o xs)) [] := by
  refine fun_ok (C := []) (hint := hintX [] [] 0 [] [] [] []) (TabOK.nil _) mixed Try.func66 rfl (by kernel_rfl) rfl ?_
  show codeA _ _ _ _ _ _ _ _
  simp only [go_sem, Try.results66]
  have hl := hp.len
  refine loop_intro (fun k : Nat => [(5, .int .i64 (pay o (xs.take k))), (8, .ints xs), (9, .int .i64 xs.length), (10, .int .i64 k), (1, .ints xs), (2, .iptr [.ints o, .rows d])]) (fun _ => []) 0 (fun k => k <= xs.length) (fun k => xs.length - k) 0 (Nat.zero_le _) (Nat.zero_le _) ?_ ?_
  · simp only [go_sem]
    repeat' (first | refine fork_intro (fun hb => ?_) (fun hb => ?_) | refine partB_intro (fun hb => ?_) (fun hb => ?_) | refine And.intro ?_ ?_)
    all_goals first | trivial | rfl | omega
  · rintro k hk
    simp only [go_sem]
    refine fork_intro (fun hb => ?_) (fun hb => ?_)
    · have hx := hp.xin k (by omega)
      have hv := hp.o99 _ hx.1 hx.2
      have h1 := hp.bd hk
      refine ⟨by omega, by omega, by omega, by omega, ?_⟩
      refine LoopEnd.intro (k + 1) (by omega) (by omega) (Nat.zero_le _) ?_
      simp only [go_sem]
      rw [pay_take o xs (by omega)]
      repeat' (first | refine fork_intro (fun hb => ?_) (fun hb => ?_) | refine partB_intro (fun hb => ?_) (fun hb => ?_) | refine And.intro ?_ ?_)
      all_goals first | trivial | rfl | omega
    · rw [List.take_of_length_le (by omega)]
def t_payI : Table := [(66, pureC g_payI)]
theorem t_payI_ok : TabOK Try.prog t_payI := .cons Try.func66 (by kernel_rfl) (.pure (by intro args hp; unfold g_payI at hp ⊢; split at hp <;> first | exact hp.elim | exact payI_ok _ _ _ hp)) (.nil _)
attribute [go_sem] g_payI_eq t_payI
end Go.Proofs.Ytgcbdpehnonghaa
