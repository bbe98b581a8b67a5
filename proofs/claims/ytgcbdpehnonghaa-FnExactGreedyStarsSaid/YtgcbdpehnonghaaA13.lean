/- Copies of fields, joined fields: both packages say the same. -/
import Derived.Test.YtgcbdpehnonghaaA6
import Derived.Test.YtgcbdpehnonghaaPlF
namespace Go.Proofs.Ytgcbdpehnonghaa
open Go.Vc
set_option maxRecDepth 100000
set_option linter.unusedSimpArgs false
set_option linter.unusedVariables false

def joinB (o : List Int) (d : List (List Int)) (o1 : List Int) (d1 : List (List Int)) : Bool := good o d && (good o1 d1 && (decide (o = o1) && decide ((d.length : Int) + d1.length <= 7)))

def g_ownI : List AV -> Prop × AV × Heap
  | [.ints xs] => (xs.length <= 1048576000, .sl 0, [(0, .arr (.ints xs))])
  | _ => (False, .undef, [])
theorem g_ownI_eq (xs : List Int) : g_ownI [.ints xs] = (xs.length <= 1048576000, .sl 0, [(0, .arr (.ints xs))]) := (rfl)
theorem ownI_ok (xs : List Int) (hp : xs.length <= 1048576000) : SpecOK Try.prog 51 [.ints xs] (.sl 0) [(0, .arr (.ints xs))] := by
  refine fun_ok (C := []) (hint := hintX [3, 5] [] 0 [] [] [] []) (TabOK.nil _) mixed Try.func51 rfl (by kernel_rfl) rfl ?_
  show codeA _ _ _ _ _ _ _ _
  simp only [go_sem, Try.results51]
  repeat' (first | refine fork_intro (fun hb => ?_) (fun hb => ?_) | refine partB_intro (fun hb => ?_) (fun hb => ?_) | refine And.intro ?_ ?_)
  all_goals first | exact True.intro | omega | with_reducible rfl | exact congrArg (AV.int _) (by omega)
def t_ownI : Table := [(51, ownC g_ownI)]
theorem t_ownI_ok : TabOK Try.prog t_ownI := .cons Try.func51 (by kernel_rfl) (.own (by intro args hp; unfold g_ownI at hp ⊢; split at hp <;> first | exact hp.elim | exact ⟨ownI_ok _ hp, rfl⟩)) (.nil _)
attribute [go_sem] g_ownI_eq t_ownI
def g_copyL : List AV -> Prop × AV × Heap
  | [.rows xs] => (xs.length <= 1048576000 /\ ∀ x ∈ xs, x.length <= 1048576000, .mt 0, [(0, .mat xs)])
  | _ => (False, .undef, [])
theorem g_copyL_eq (xs : List (List Int)) : g_copyL [.rows xs] = (xs.length <= 1048576000 /\ ∀ x ∈ xs, x.length <= 1048576000, .mt 0, [(0, .mat xs)]) := (rfl)
theorem copyL_ok (xs : List (List Int)) (hp : xs.length <= 1048576000 /\ ∀ x ∈ xs, x.length <= 1048576000) : SpecOK Try.prog 46 [.rows xs] (.mt 0) [(0, .mat xs)] := by
  refine fun_ok (C := t_cloneI) (hint := hintX [6, 15] [] 0 [] [6] [] []) (t_cloneI_ok) mixed Try.func46 rfl (by kernel_rfl) rfl ?_
  show codeA _ _ _ _ _ _ _ _
  simp only [go_sem, Try.results46]
  obtain ⟨hx, hr⟩ := hp
  refine loop_intro (fun k : Nat => [(3, .mt 0), (7, .rows xs), (8, .int .i64 xs.length), (9, .int .i64 k)]) (fun k => [(0, .mat (xs.take k))]) 1 (fun k => k <= xs.length) (fun k => xs.length - k) 0 (by omega) (by omega) ?_ ?_
  · simp only [go_sem]
    repeat' (first | refine fork_intro (fun hb => ?_) (fun hb => ?_) | refine partB_intro (fun hb => ?_) (fun hb => ?_) | refine And.intro ?_ ?_)
    all_goals first | exact True.intro | omega | with_reducible rfl | exact congrArg (AV.int _) (by omega) | (first | rfl)
  · intro k hk
    have hl : (xs.take k).length = k := by simp; omega
    simp only [go_sem]
    refine fork_intro (fun hc => ?_) (fun hc => ?_)
    · have e := take_ix xs (k := k) (by omega)
      have hm := hr _ (ix_mem xs (k := k) (by omega))
      repeat' (first | refine fork_intro (fun hb => ?_) (fun hb => ?_) | refine partB_intro (fun hb => ?_) (fun hb => ?_) | refine And.intro ?_ ?_)
      all_goals first | exact True.intro | omega | with_reducible rfl | exact congrArg (AV.int _) (by omega) | (refine LoopEnd.intro (k + 1) (by first | omega) (by first | omega | (dsimp only; omega)) (by omega) ?_; simp only [go_sem]; (repeat' (first | refine fork_intro (fun hb => ?_) (fun hb => ?_) | refine partB_intro (fun hb => ?_) (fun hb => ?_) | refine And.intro ?_ ?_)); all_goals first | exact True.intro | omega | with_reducible rfl | exact congrArg (AV.int _) (by omega) | (first | rw [e])) | (first | rw [e])
    · rw [show k = xs.length by omega, List.take_length]
      repeat' (first | refine fork_intro (fun hb => ?_) (fun hb => ?_) | refine partB_intro (fun hb => ?_) (fun hb => ?_) | refine And.intro ?_ ?_)
      all_goals first | exact True.intro | omega | with_reducible rfl | exact congrArg (AV.int _) (by omega) | (first | rfl)
def t_copyL : Table := [(46, ownC g_copyL)]
theorem t_copyL_ok : TabOK Try.prog t_copyL := .cons Try.func46 (by kernel_rfl) (.own (by intro args hp; unfold g_copyL at hp ⊢; split at hp <;> first | exact hp.elim | exact ⟨copyL_ok _ hp, rfl⟩)) (.nil _)
attribute [go_sem] g_copyL_eq t_copyL
def g_l2Own : List AV -> Prop × AV × Heap
  | [.agg [.ints o, .rows d]] => (o.length <= 1048576000 /\ d.length <= 1048576000 /\ ∀ x ∈ d, x.length <= 1048576000, .agg [.sl 1, .mt 3], [(1, .arr (.ints o)), (3, .mat d)])
  | _ => (False, .undef, [])
theorem g_l2Own_eq (o : List Int) (d : List (List Int)) : g_l2Own [.agg [.ints o, .rows d]] = (o.length <= 1048576000 /\ d.length <= 1048576000 /\ ∀ x ∈ d, x.length <= 1048576000, .agg [.sl 1, .mt 3], [(1, .arr (.ints o)), (3, .mat d)]) := (rfl)
theorem l2Own_ok (o : List Int) (d : List (List Int)) (hp : o.length <= 1048576000 /\ d.length <= 1048576000 /\ ∀ x ∈ d, x.length <= 1048576000) : SpecOK Try.prog 43 [.agg [.ints o, .rows d]] (.agg [.sl 1, .mt 3]) [(1, .arr (.ints o)), (3, .mat d)] := by
  refine fun_ok (C := t_ownI) (hint := hintX [2, 3, 7, 23] [(2, [.upf 3 1 (.mat [])])] 0 [] [] [] []) (t_ownI_ok) mixed Try.func43 rfl (by kernel_rfl) rfl ?_
  show codeA _ _ _ _ _ _ _ _
  simp only [go_sem, Try.results43]
  obtain ⟨ho, hx, hr⟩ := hp
  refine ⟨ho, ?_⟩
  refine loop_intro (fun k : Nat => [(4, .int .i64 k), (1, .iptr [.ints o, .rows d]), (2, .bx 0 0), (3, .bx 2 0)]) (fun k => [(0, .box [.nils, .nils]), (1, .arr (.ints o)), (2, .box [.sl 1, .mt 3]), (3, .mat (d.take k))]) 4 (fun k => k <= d.length) (fun k => d.length - k) 0 (by omega) (by omega) ?_ ?_
  · simp only [go_sem]
    repeat' (first | refine fork_intro (fun hb => ?_) (fun hb => ?_) | refine partB_intro (fun hb => ?_) (fun hb => ?_) | refine And.intro ?_ ?_)
    all_goals first | exact True.intro | omega | with_reducible rfl | exact congrArg (AV.int _) (by omega) | (first | rfl)
  · intro k hk
    have hl : (d.take k).length = k := by simp; omega
    simp only [go_sem]
    refine fork_intro (fun hc => ?_) (fun hc => ?_)
    · have e := take_ix d (k := k) (by omega)
      have hm := hr _ (ix_mem d (k := k) (by omega))
      repeat' (first | refine fork_intro (fun hb => ?_) (fun hb => ?_) | refine partB_intro (fun hb => ?_) (fun hb => ?_) | refine And.intro ?_ ?_)
      all_goals first | exact True.intro | omega | with_reducible rfl | exact congrArg (AV.int _) (by omega) | (refine LoopEnd.intro (k + 1) (by first | omega) (by first | omega | (dsimp only; omega)) (by omega) ?_; simp only [go_sem]; (repeat' (first | refine fork_intro (fun hb => ?_) (fun hb => ?_) | refine partB_intro (fun hb => ?_) (fun hb => ?_) | refine And.intro ?_ ?_)); all_goals first | exact True.intro | omega | with_reducible rfl | exact congrArg (AV.int _) (by omega) | (first | rw [e])) | (first | rw [e])
    · rw [show k = d.length by omega, List.take_length]
      repeat' (first | refine fork_intro (fun hb => ?_) (fun hb => ?_) | refine partB_intro (fun hb => ?_) (fun hb => ?_) | refine And.intro ?_ ?_)
      all_goals first | exact True.intro | omega | with_reducible rfl | exact congrArg (AV.int _) (by omega) | (first | rfl)
def t_l2Own : Table := [(43, ownC g_l2Own)]
theorem t_l2Own_ok : TabOK Try.prog t_l2Own := .cons Try.func43 (by kernel_rfl) (.own (by intro args hp; unfold g_l2Own at hp ⊢; split at hp <;> first | exact hp.elim | exact ⟨l2Own_ok _ _ hp, rfl⟩)) (.nil _)
attribute [go_sem] g_l2Own_eq t_l2Own
end Go.Proofs.Ytgcbdpehnonghaa
