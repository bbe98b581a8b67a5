/- Texts joined: A13 A7 PlS PlA A15 PlC A4. -/
import Derived.Test.YteefjdbdknkcjaaGreatDoorJ1
namespace Go.Proofs.YteefjdbdknkcjaaGreatDoor
open Go.Vc
set_option maxRecDepth 100000
set_option linter.unusedSimpArgs false
set_option linter.unusedVariables false

def joinFB (o : List Int) (d : List (List Int)) (o1 : List Int) (d1 : List (List Int)) : Bool := good o d && (good o1 d1 && (decide (o = o1) && decide ((d.length : Int) + d1.length <= 7)))

def g_sameS : List AV -> Prop × AV
  | [.ints xs, .ints ys] => (xs.length <= 1048576000 /\ ys.length <= 1048576000, .bool (decide (xs = ys)))
  | _ => (False, .undef)
theorem g_sameS_eq (xs ys : List Int) : g_sameS [.ints xs, .ints ys] = (xs.length <= 1048576000 /\ ys.length <= 1048576000, .bool (decide (xs = ys))) := (rfl)
theorem sameS_ok (xs ys : List Int) (hp : xs.length <= 1048576000 /\ ys.length <= 1048576000) : SpecOK Tryz.prog 44 [.ints xs, .ints ys] (.bool (decide (xs = ys))) [] := by
  refine fun_ok (C := []) (hint := hintX [] [] 0 [] [] [] []) (TabOK.nil _) mixed Tryz.func44 rfl (by kernel_rfl) rfl ?_
  show codeA _ _ _ _ _ _ _ _
  simp only [go_sem, Tryz.results44]
  refine fork_intro (fun hb => ?_) (fun hb => ?_)
  · have hlen : xs.length = ys.length := by omega
    refine loop_intro (fun k : Nat => [(5, .int .i64 k), (0, .ints xs), (1, .ints ys)]) (fun _ => []) 0 (fun k => k <= xs.length /\ xs.take k = ys.take k) (fun k => xs.length - k) 0 ⟨Nat.zero_le _, rfl⟩ (Nat.zero_le _) ?_ ?_
    · simp only [go_sem]
      repeat' (first | refine fork_intro (fun hb => ?_) (fun hb => ?_) | refine partB_intro (fun hb => ?_) (fun hb => ?_) | refine And.intro ?_ ?_)
      all_goals first | exact True.intro | omega | with_reducible rfl | exact congrArg (AV.int _) (by omega)
    · rintro k ⟨hk, ht⟩
      simp only [go_sem]
      refine fork_intro (fun hb => ?_) (fun hb => ?_)
      · have e := take_eq ht (ix_some xs (by omega)) (ix_some ys (show k < ys.length by omega))
        refine ⟨by omega, by omega, fork_intro (fun hc => ?_) (fun hc => ?_)⟩
        · have h2 := e.2 hc
          repeat' (first | refine fork_intro (fun hb => ?_) (fun hb => ?_) | refine partB_intro (fun hb => ?_) (fun hb => ?_) | refine And.intro ?_ ?_)
          all_goals first | exact True.intro | omega | with_reducible rfl | exact congrArg (AV.int _) (by omega) | (refine LoopEnd.intro (k + 1) (by first | omega | (first | exact ⟨by omega, h2⟩)) (by first | omega | (dsimp only; omega)) (by omega) ?_; simp only [go_sem]; (repeat' (first | refine fork_intro (fun hb => ?_) (fun hb => ?_) | refine partB_intro (fun hb => ?_) (fun hb => ?_) | refine And.intro ?_ ?_)); all_goals first | exact True.intro | omega | with_reducible rfl | exact congrArg (AV.int _) (by omega))
        · rw [decide_eq_false (show ¬ xs = ys from fun h => hc (e.1 (by rw [h])))]
      · rw [show k = xs.length by omega, List.take_length, hlen, List.take_length] at ht
        rw [decide_eq_true ht]
  · rw [decide_eq_false (show ¬ xs = ys from fun h => hb (by rw [h]))]
def t_sameS : Table := [(44, pureC g_sameS)]
theorem t_sameS_ok : TabOK Tryz.prog t_sameS := .cons Tryz.func44 (by kernel_rfl) (.pure (by intro args hp; unfold g_sameS at hp ⊢; split at hp <;> first | exact hp.elim | exact sameS_ok _ _ hp)) (.nil _)
attribute [go_sem] g_sameS_eq t_sameS
def g_equalI : List AV -> Prop × AV
  | [.ints xs, .ints ys] => (xs.length <= 1048576000 /\ ys.length <= 1048576000, .bool (decide (xs = ys)))
  | _ => (False, .undef)
theorem g_equalI_eq (xs ys : List Int) : g_equalI [.ints xs, .ints ys] = (xs.length <= 1048576000 /\ ys.length <= 1048576000, .bool (decide (xs = ys))) := (rfl)
theorem equalI_ok (xs ys : List Int) (hp : xs.length <= 1048576000 /\ ys.length <= 1048576000) : SpecOK Tryz.prog 43 [.ints xs, .ints ys] (.bool (decide (xs = ys))) [] := by
  refine fun_ok (C := []) (hint := hintX [] [] 0 [] [] [] []) (TabOK.nil _) mixed Tryz.func43 rfl (by kernel_rfl) rfl ?_
  show codeA _ _ _ _ _ _ _ _
  simp only [go_sem, Tryz.results43]
  refine fork_intro (fun hb => ?_) (fun hb => ?_)
  · have hlen : xs.length = ys.length := by omega
    refine loop_intro (fun k : Nat => [(12, .int .i64 xs.length), (13, .int .i64 k), (0, .ints xs), (1, .ints ys)]) (fun _ => []) 0 (fun k => k <= xs.length /\ xs.take k = ys.take k) (fun k => xs.length - k) 0 ⟨Nat.zero_le _, rfl⟩ (Nat.zero_le _) ?_ ?_
    · simp only [go_sem]
      repeat' (first | refine fork_intro (fun hb => ?_) (fun hb => ?_) | refine partB_intro (fun hb => ?_) (fun hb => ?_) | refine And.intro ?_ ?_)
      all_goals first | exact True.intro | omega | with_reducible rfl | exact congrArg (AV.int _) (by omega)
    · rintro k ⟨hk, ht⟩
      simp only [go_sem]
      refine fork_intro (fun hb => ?_) (fun hb => ?_)
      · have e := take_eq ht (ix_some xs (by omega)) (ix_some ys (show k < ys.length by omega))
        refine ⟨by omega, by omega, fork_intro (fun hc => ?_) (fun hc => ?_)⟩
        · have h2 := e.2 hc
          repeat' (first | refine fork_intro (fun hb => ?_) (fun hb => ?_) | refine partB_intro (fun hb => ?_) (fun hb => ?_) | refine And.intro ?_ ?_)
          all_goals first | exact True.intro | omega | with_reducible rfl | exact congrArg (AV.int _) (by omega) | (refine LoopEnd.intro (k + 1) (by first | omega | (first | exact ⟨by omega, h2⟩)) (by first | omega | (dsimp only; omega)) (by omega) ?_; simp only [go_sem]; (repeat' (first | refine fork_intro (fun hb => ?_) (fun hb => ?_) | refine partB_intro (fun hb => ?_) (fun hb => ?_) | refine And.intro ?_ ?_)); all_goals first | exact True.intro | omega | with_reducible rfl | exact congrArg (AV.int _) (by omega))
        · rw [decide_eq_false (show ¬ xs = ys from fun h => hc (e.1 (by rw [h])))]
      · rw [show k = xs.length by omega, List.take_length, hlen, List.take_length] at ht
        rw [decide_eq_true ht]
  · rw [decide_eq_false (show ¬ xs = ys from fun h => hb (by rw [h]))]
def t_equalI : Table := [(43, pureC g_equalI)]
theorem t_equalI_ok : TabOK Tryz.prog t_equalI := .cons Tryz.func43 (by kernel_rfl) (.pure (by intro args hp; unfold g_equalI at hp ⊢; split at hp <;> first | exact hp.elim | exact equalI_ok _ _ hp)) (.nil _)
attribute [go_sem] g_equalI_eq t_equalI
def g_ownI : List AV -> Prop × AV × Heap
  | [.ints xs] => (xs.length <= 1048576000, .sl 0, [(0, .arr (.ints xs))])
  | _ => (False, .undef, [])
theorem g_ownI_eq (xs : List Int) : g_ownI [.ints xs] = (xs.length <= 1048576000, .sl 0, [(0, .arr (.ints xs))]) := (rfl)
theorem ownI_ok (xs : List Int) (hp : xs.length <= 1048576000) : SpecOK Tryz.prog 40 [.ints xs] (.sl 0) [(0, .arr (.ints xs))] := by
  refine fun_ok (C := []) (hint := hintX [3, 5] [] 0 [] [] [] []) (TabOK.nil _) mixed Tryz.func40 rfl (by kernel_rfl) rfl ?_
  show codeA _ _ _ _ _ _ _ _
  simp only [go_sem, Tryz.results40]
  repeat' (first | refine fork_intro (fun hb => ?_) (fun hb => ?_) | refine partB_intro (fun hb => ?_) (fun hb => ?_) | refine And.intro ?_ ?_)
  all_goals first | exact True.intro | omega | with_reducible rfl | exact congrArg (AV.int _) (by omega)
def t_ownI : Table := [(40, ownC g_ownI)]
theorem t_ownI_ok : TabOK Tryz.prog t_ownI := .cons Tryz.func40 (by kernel_rfl) (.own (by intro args hp; unfold g_ownI at hp ⊢; split at hp <;> first | exact hp.elim | exact ⟨ownI_ok _ hp, rfl⟩)) (.nil _)
attribute [go_sem] g_ownI_eq t_ownI
def g_copyL : List AV -> Prop × AV × Heap
  | [.rows xs] => (xs.length <= 1048576000 /\ ∀ x ∈ xs, x.length <= 1048576000, .mt 0, [(0, .mat xs)])
  | _ => (False, .undef, [])
theorem g_copyL_eq (xs : List (List Int)) : g_copyL [.rows xs] = (xs.length <= 1048576000 /\ ∀ x ∈ xs, x.length <= 1048576000, .mt 0, [(0, .mat xs)]) := (rfl)
theorem copyL_ok (xs : List (List Int)) (hp : xs.length <= 1048576000 /\ ∀ x ∈ xs, x.length <= 1048576000) : SpecOK Tryz.prog 27 [.rows xs] (.mt 0) [(0, .mat xs)] := by
  refine fun_ok (C := t_cloneI) (hint := hintX [6, 15] [] 0 [] [6] [] []) (t_cloneI_ok) mixed Tryz.func27 rfl (by kernel_rfl) rfl ?_
  show codeA _ _ _ _ _ _ _ _
  simp only [go_sem, Tryz.results27]
  obtain ⟨hx, hr⟩ := hp
  refine loop_intro (fun k : Nat => [(3, .mt 0), (7, .rows xs), (8, .int .i64 xs.length), (9, .int .i64 k)]) (fun k => [(0, .mat (xs.take k))]) 1 (fun k => k <= xs.length) (fun k => xs.length - k) 0 (by omega) (by omega) ?_ ?_
  · simp only [go_sem]
    repeat' (first | refine fork_intro (fun hb => ?_) (fun hb => ?_) | refine partB_intro (fun hb => ?_) (fun hb => ?_) | refine And.intro ?_ ?_)
    all_goals first | exact True.intro | omega | with_reducible rfl | exact congrArg (AV.int _) (by omega) | (first | rfl)
  · intro k hk
    have hl : (xs.take k).length = k := by simp; omega
    simp only [go_sem]
    refine fork_intro (fun hc => ?_) (fun hc => ?_)
    · have e := take_ix xs (k := k) (by omega)
      have hm := hr _ (ix_mem xs (k := k) (by omega))
      repeat' (first | refine fork_intro (fun hb => ?_) (fun hb => ?_) | refine partB_intro (fun hb => ?_) (fun hb => ?_) | refine And.intro ?_ ?_)
      all_goals first | exact True.intro | omega | with_reducible rfl | exact congrArg (AV.int _) (by omega) | (refine LoopEnd.intro (k + 1) (by first | omega) (by first | omega | (dsimp only; omega)) (by omega) ?_; simp only [go_sem]; (repeat' (first | refine fork_intro (fun hb => ?_) (fun hb => ?_) | refine partB_intro (fun hb => ?_) (fun hb => ?_) | refine And.intro ?_ ?_)); all_goals first | exact True.intro | omega | with_reducible rfl | exact congrArg (AV.int _) (by omega) | (first | rw [e])) | (first | rw [e])
    · rw [show k = xs.length by omega, List.take_length]
      repeat' (first | refine fork_intro (fun hb => ?_) (fun hb => ?_) | refine partB_intro (fun hb => ?_) (fun hb => ?_) | refine And.intro ?_ ?_)
      all_goals first | exact True.intro | omega | with_reducible rfl | exact congrArg (AV.int _) (by omega) | (first | rfl)
def t_copyL : Table := [(27, ownC g_copyL)]
theorem t_copyL_ok : TabOK Tryz.prog t_copyL := .cons Tryz.func27 (by kernel_rfl) (.own (by intro args hp; unfold g_copyL at hp ⊢; split at hp <;> first | exact hp.elim | exact ⟨copyL_ok _ hp, rfl⟩)) (.nil _)
attribute [go_sem] g_copyL_eq t_copyL
def g_l2Own : List AV -> Prop × AV × Heap
  | [.agg [.ints o, .rows d]] => (o.length <= 1048576000 /\ d.length <= 1048576000 /\ ∀ x ∈ d, x.length <= 1048576000, .agg [.sl 1, .mt 3], [(1, .arr (.ints o)), (3, .mat d)])
  | _ => (False, .undef, [])
theorem g_l2Own_eq (o : List Int) (d : List (List Int)) : g_l2Own [.agg [.ints o, .rows d]] = (o.length <= 1048576000 /\ d.length <= 1048576000 /\ ∀ x ∈ d, x.length <= 1048576000, .agg [.sl 1, .mt 3], [(1, .arr (.ints o)), (3, .mat d)]) := (rfl)
theorem l2Own_ok (o : List Int) (d : List (List Int)) (hp : o.length <= 1048576000 /\ d.length <= 1048576000 /\ ∀ x ∈ d, x.length <= 1048576000) : SpecOK Tryz.prog 35 [.agg [.ints o, .rows d]] (.agg [.sl 1, .mt 3]) [(1, .arr (.ints o)), (3, .mat d)] := by
  refine fun_ok (C := t_ownI) (hint := hintX [2, 3, 7, 23] [(2, [.upf 3 1 (.mat [])])] 0 [] [] [] []) (t_ownI_ok) mixed Tryz.func35 rfl (by kernel_rfl) rfl ?_
  show codeA _ _ _ _ _ _ _ _
  simp only [go_sem, Tryz.results35]
  obtain ⟨ho, hx, hr⟩ := hp
  refine ⟨ho, ?_⟩
  refine loop_intro (fun k : Nat => [(4, .int .i64 k), (1, .iptr [.ints o, .rows d]), (2, .bx 0 0), (3, .bx 2 0)]) (fun k => [(0, .box [.nils, .nils]), (1, .arr (.ints o)), (2, .box [.sl 1, .mt 3]), (3, .mat (d.take k))]) 4 (fun k => k <= d.length) (fun k => d.length - k) 0 (by omega) (by omega) ?_ ?_
  · simp only [go_sem]
    repeat' (first | refine fork_intro (fun hb => ?_) (fun hb => ?_) | refine partB_intro (fun hb => ?_) (fun hb => ?_) | refine And.intro ?_ ?_)
    all_goals first | exact True.intro | omega | with_reducible rfl | exact congrArg (AV.int _) (by omega) | (first | rfl)
  · intro k hk
    have hl : (d.take k).length = k := by simp; omega
    simp only [go_sem]
    refine fork_intro (fun hc => ?_) (fun hc => ?_)
    · have e := take_ix d (k := k) (by omega)
      have hm := hr _ (ix_mem d (k := k) (by omega))
      repeat' (first | refine fork_intro (fun hb => ?_) (fun hb => ?_) | refine partB_intro (fun hb => ?_) (fun hb => ?_) | refine And.intro ?_ ?_)
      all_goals first | exact True.intro | omega | with_reducible rfl | exact congrArg (AV.int _) (by omega) | (refine LoopEnd.intro (k + 1) (by first | omega) (by first | omega | (dsimp only; omega)) (by omega) ?_; simp only [go_sem]; (repeat' (first | refine fork_intro (fun hb => ?_) (fun hb => ?_) | refine partB_intro (fun hb => ?_) (fun hb => ?_) | refine And.intro ?_ ?_)); all_goals first | exact True.intro | omega | with_reducible rfl | exact congrArg (AV.int _) (by omega) | (first | rw [e])) | (first | rw [e])
    · rw [show k = d.length by omega, List.take_length]
      repeat' (first | refine fork_intro (fun hb => ?_) (fun hb => ?_) | refine partB_intro (fun hb => ?_) (fun hb => ?_) | refine And.intro ?_ ?_)
      all_goals first | exact True.intro | omega | with_reducible rfl | exact congrArg (AV.int _) (by omega) | (first | rfl)
def t_l2Own : Table := [(35, ownC g_l2Own)]
theorem t_l2Own_ok : TabOK Tryz.prog t_l2Own := .cons Tryz.func35 (by kernel_rfl) (.own (by intro args hp; unfold g_l2Own at hp ⊢; split at hp <;> first | exact hp.elim | exact ⟨l2Own_ok _ _ hp, rfl⟩)) (.nil _)
attribute [go_sem] g_l2Own_eq t_l2Own
def g_joinS : List AV -> Prop × AV
  | [.agg [.ints o, .rows d], .agg [.ints o1, .rows d1]] => ((o.length <= 1048576000 /\ d.length <= 1048576000 /\ ∀ x ∈ d, x.length <= 1048576000) /\ o1.length <= 1048576000 /\ d1.length <= 1048576000 /\ ∀ x ∈ d1, x.length <= 1048576000, .tup [.agg [.ints (bif joinFB o d o1 d1 then o else []), .rows (bif joinFB o d o1 d1 then d ++ d1 else [])], .bool (joinFB o d o1 d1)])
  | _ => (False, .undef)
theorem g_joinS_eq (o : List Int) (d : List (List Int)) (o1 : List Int) (d1 : List (List Int)) : g_joinS [.agg [.ints o, .rows d], .agg [.ints o1, .rows d1]] = ((o.length <= 1048576000 /\ d.length <= 1048576000 /\ ∀ x ∈ d, x.length <= 1048576000) /\ o1.length <= 1048576000 /\ d1.length <= 1048576000 /\ ∀ x ∈ d1, x.length <= 1048576000, .tup [.agg [.ints (bif joinFB o d o1 d1 then o else []), .rows (bif joinFB o d o1 d1 then d ++ d1 else [])], .bool (joinFB o d o1 d1)]) := (rfl)
theorem joinS_ok (o : List Int) (d : List (List Int)) (o1 : List Int) (d1 : List (List Int)) (hp : (o.length <= 1048576000 /\ d.length <= 1048576000 /\ ∀ x ∈ d, x.length <= 1048576000) /\ o1.length <= 1048576000 /\ d1.length <= 1048576000 /\ ∀ x ∈ d1, x.length <= 1048576000) : SpecOK Tryz.prog 17 [.agg [.ints o, .rows d], .agg [.ints o1, .rows d1]] (.tup [.agg [.ints (bif joinFB o d o1 d1 then o else []), .rows (bif joinFB o d o1 d1 then d ++ d1 else [])], .bool (joinFB o d o1 d1)]) [] := by
  refine fun_ok (C := t_l2Good ++ t_sameS ++ t_l2Own) (hint := hintX [4, 6, 7, 36, 38] [] 0 [] [] [] []) (((t_l2Good_ok).append t_sameS_ok).append t_l2Own_ok) mixed Tryz.func17 rfl (by kernel_rfl) rfl ?_
  show codeA _ _ _ _ _ _ _ _
  simp only [go_sem, Tryz.results17]
  refine ⟨hp.1, partB_intro (fun h1 => ⟨hp.2, partB_intro (fun h2 => ⟨⟨by omega, by omega⟩, fork_intro (fun h3 => ⟨by omega, fork_intro (fun h4 => ?_) (fun h4 => ?_)⟩) (fun h3 => ?_)⟩) (fun h2 => ?_)⟩) (fun h1 => ?_)⟩
  · rw [show joinFB o d o1 d1 = false by rw [joinFB, decide_eq_false (show ¬ (d.length : Int) + d1.length <= 7 by omega)]; simp]
    repeat' (first | refine fork_intro (fun hb => ?_) (fun hb => ?_) | refine partB_intro (fun hb => ?_) (fun hb => ?_) | refine And.intro ?_ ?_)
    all_goals first | exact True.intro | omega | with_reducible rfl | exact congrArg (AV.int _) (by omega) | (first | rfl)
  · rw [show joinFB o d o1 d1 = true by rw [joinFB, h1, h2, decide_eq_true h3, decide_eq_true (show (d.length : Int) + d1.length <= 7 by omega)]; rfl]
    have b1 : ∀ x ∈ d, x.length <= 1048576000 := hp.1.2.2
    have b2 : ∀ x ∈ d1, x.length <= 1048576000 := hp.2.2.2
    repeat' (first | refine fork_intro (fun hb => ?_) (fun hb => ?_) | refine partB_intro (fun hb => ?_) (fun hb => ?_) | refine And.intro ?_ ?_)
    all_goals first | exact True.intro | omega | with_reducible rfl | exact congrArg (AV.int _) (by omega) | (first | exact b1 | exact b2 | rfl | (subst h3; rfl))
  · rw [show joinFB o d o1 d1 = false by rw [joinFB, decide_eq_false h3]; simp]
    repeat' (first | refine fork_intro (fun hb => ?_) (fun hb => ?_) | refine partB_intro (fun hb => ?_) (fun hb => ?_) | refine And.intro ?_ ?_)
    all_goals first | exact True.intro | omega | with_reducible rfl | exact congrArg (AV.int _) (by omega) | (first | rfl)
  · rw [show joinFB o d o1 d1 = false by rw [joinFB, h2]; simp]
    repeat' (first | refine fork_intro (fun hb => ?_) (fun hb => ?_) | refine partB_intro (fun hb => ?_) (fun hb => ?_) | refine And.intro ?_ ?_)
    all_goals first | exact True.intro | omega | with_reducible rfl | exact congrArg (AV.int _) (by omega) | (first | rfl)
  · rw [show joinFB o d o1 d1 = false by rw [joinFB, h1]; rfl]
    repeat' (first | refine fork_intro (fun hb => ?_) (fun hb => ?_) | refine partB_intro (fun hb => ?_) (fun hb => ?_) | refine And.intro ?_ ?_)
    all_goals first | exact True.intro | omega | with_reducible rfl | exact congrArg (AV.int _) (by omega) | (first | rfl)
def t_joinS : Table := [(17, pureC g_joinS)]
theorem t_joinS_ok : TabOK Tryz.prog t_joinS := .cons Tryz.func17 (by kernel_rfl) (.pure (by intro args hp; unfold g_joinS at hp ⊢; split at hp <;> first | exact hp.elim | exact joinS_ok _ _ _ _ hp)) (.nil _)
attribute [go_sem] g_joinS_eq t_joinS
def g_joinI : List AV -> Prop × AV × Heap
  | [.agg [.ints o, .rows d], .agg [.ints o1, .rows d1]] => ((o.length <= 1048576000 /\ d.length <= 1048576000 /\ ∀ x ∈ d, x.length <= 1048576000) /\ o1.length <= 1048576000 /\ d1.length <= 1048576000 /\ ∀ x ∈ d1, x.length <= 1048576000, .tup [.agg [.sl 1, .mt 2], .bool (joinFB o d o1 d1)], [(1, .arr (.ints (bif joinFB o d o1 d1 then o else []))), (2, .mat (bif joinFB o d o1 d1 then d ++ d1 else []))])
  | _ => (False, .undef, [])
theorem g_joinI_eq (o : List Int) (d : List (List Int)) (o1 : List Int) (d1 : List (List Int)) : g_joinI [.agg [.ints o, .rows d], .agg [.ints o1, .rows d1]] = ((o.length <= 1048576000 /\ d.length <= 1048576000 /\ ∀ x ∈ d, x.length <= 1048576000) /\ o1.length <= 1048576000 /\ d1.length <= 1048576000 /\ ∀ x ∈ d1, x.length <= 1048576000, .tup [.agg [.sl 1, .mt 2], .bool (joinFB o d o1 d1)], [(1, .arr (.ints (bif joinFB o d o1 d1 then o else []))), (2, .mat (bif joinFB o d o1 d1 then d ++ d1 else []))]) := (rfl)
theorem joinI_ok (o : List Int) (d : List (List Int)) (o1 : List Int) (d1 : List (List Int)) (hp : (o.length <= 1048576000 /\ d.length <= 1048576000 /\ ∀ x ∈ d, x.length <= 1048576000) /\ o1.length <= 1048576000 /\ d1.length <= 1048576000 /\ ∀ x ∈ d1, x.length <= 1048576000) : SpecOK Tryz.prog 16 [.agg [.ints o, .rows d], .agg [.ints o1, .rows d1]] (.tup [.agg [.sl 1, .mt 2], .bool (joinFB o d o1 d1)]) [(1, .arr (.ints (bif joinFB o d o1 d1 then o else []))), (2, .mat (bif joinFB o d o1 d1 then d ++ d1 else []))] := by
  refine fun_ok (C := t_isF ++ t_equalI ++ t_cloneI ++ t_copyL) (hint := hintX [4, 35, 38, 41] [(2, [.post, .upf 4 0 (.arr (.ints [])), .upf 4 1 (.mat [])])] 0 [] [] [] []) ((((t_isF_ok).append t_equalI_ok).append t_cloneI_ok).append t_copyL_ok) mixed Tryz.func16 rfl (by kernel_rfl) rfl ?_
  show codeA _ _ _ _ _ _ _ _
  simp only [go_sem, Tryz.results16]
  refine ⟨hp.1, partB_intro (fun h1 => ⟨hp.2, partB_intro (fun h2 => ⟨⟨by omega, by omega⟩, fork_intro (fun h3 => ⟨by omega, fork_intro (fun h4 => ?_) (fun h4 => ?_)⟩) (fun h3 => ?_)⟩) (fun h2 => ?_)⟩) (fun h1 => ?_)⟩
  · rw [show joinFB o d o1 d1 = false by rw [joinFB, decide_eq_false (show ¬ (d.length : Int) + d1.length <= 7 by omega)]; simp]
    repeat' (first | refine fork_intro (fun hb => ?_) (fun hb => ?_) | refine partB_intro (fun hb => ?_) (fun hb => ?_) | refine And.intro ?_ ?_)
    all_goals first | exact True.intro | omega | with_reducible rfl | exact congrArg (AV.int _) (by omega) | (first | rfl)
  · rw [show joinFB o d o1 d1 = true by rw [joinFB, h1, h2, decide_eq_true h3, decide_eq_true (show (d.length : Int) + d1.length <= 7 by omega)]; rfl]
    have b1 : ∀ x ∈ d, x.length <= 1048576000 := hp.1.2.2
    have b2 : ∀ x ∈ d1, x.length <= 1048576000 := hp.2.2.2
    repeat' (first | refine fork_intro (fun hb => ?_) (fun hb => ?_) | refine partB_intro (fun hb => ?_) (fun hb => ?_) | refine And.intro ?_ ?_)
    all_goals first | exact True.intro | omega | with_reducible rfl | exact congrArg (AV.int _) (by omega) | (first | exact b1 | exact b2 | rfl | (subst h3; rfl))
  · rw [show joinFB o d o1 d1 = false by rw [joinFB, decide_eq_false h3]; simp]
    repeat' (first | refine fork_intro (fun hb => ?_) (fun hb => ?_) | refine partB_intro (fun hb => ?_) (fun hb => ?_) | refine And.intro ?_ ?_)
    all_goals first | exact True.intro | omega | with_reducible rfl | exact congrArg (AV.int _) (by omega) | (first | rfl)
  · rw [show joinFB o d o1 d1 = false by rw [joinFB, h2]; simp]
    repeat' (first | refine fork_intro (fun hb => ?_) (fun hb => ?_) | refine partB_intro (fun hb => ?_) (fun hb => ?_) | refine And.intro ?_ ?_)
    all_goals first | exact True.intro | omega | with_reducible rfl | exact congrArg (AV.int _) (by omega) | (first | rfl)
  · rw [show joinFB o d o1 d1 = false by rw [joinFB, h1]; rfl]
    repeat' (first | refine fork_intro (fun hb => ?_) (fun hb => ?_) | refine partB_intro (fun hb => ?_) (fun hb => ?_) | refine And.intro ?_ ?_)
    all_goals first | exact True.intro | omega | with_reducible rfl | exact congrArg (AV.int _) (by omega) | (first | rfl)
def t_joinI : Table := [(16, ownC g_joinI)]
theorem t_joinI_ok : TabOK Tryz.prog t_joinI := .cons Tryz.func16 (by kernel_rfl) (.own (by intro args hp; unfold g_joinI at hp ⊢; split at hp <;> first | exact hp.elim | exact ⟨joinI_ok _ _ _ _ hp, rfl⟩)) (.nil _)
attribute [go_sem] g_joinI_eq t_joinI
end Go.Proofs.YteefjdbdknkcjaaGreatDoor
namespace Go.Proofs.YteefjdbdknkcjaaGreatDoor
open Go.Vc
set_option maxRecDepth 100000
set_option linter.unusedSimpArgs false
set_option linter.unusedVariables false

end Go.Proofs.YteefjdbdknkcjaaGreatDoor
namespace Go.Vc
set_option linter.unusedSimpArgs false
set_option linter.unusedVariables false

def ris (lo hi : Int) (xs : List Int) : Bool := decide (∀ k, k < xs.length -> (lo <= ix xs (k : Int) /\ ix xs (k : Int) <= hi) /\ (0 < k -> ix xs ((k : Int) - 1) < ix xs (k : Int)))
theorem ris_mem {lo hi : Int} {xs : List Int} (h : ris lo hi xs = true) {k : Nat} (hk : k < xs.length) : lo <= ix xs (k : Int) /\ ix xs (k : Int) <= hi := ((of_decide_eq_true h) k hk).1
theorem mem_ix {xs : List Int} {x : Int} (h : x ∈ xs) : ∃ k : Nat, k < xs.length /\ ix xs (k : Int) = x := by
  obtain ⟨k, hk, e⟩ := List.mem_iff_getElem.1 h
  refine ⟨k, hk, ?_⟩
  have := ix_some xs hk
  rw [List.getElem?_eq_getElem hk, e] at this
  exact (Option.some.inj this).symm
/-! payments -/
def pay (o : List Int) (xs : List Int) : Int := (xs.map fun a => ix o a).sum
theorem pay_take (o xs : List Int) {k : Nat} (h : k < xs.length) : pay o (xs.take (k + 1)) = pay o (xs.take k) + ix o (ix xs (k : Int)) := by
  rw [take_ix xs h, pay, List.map_append, List.sum_append]; simp [pay]
theorem pay_bd {o : List Int} (ho : ∀ a : Int, 0 <= a -> a < o.length -> 0 <= ix o a /\ ix o a <= 99) : ∀ (xs : List Int), (∀ x ∈ xs, 0 <= x /\ x < o.length) -> 0 <= pay o xs /\ pay o xs <= 99 * xs.length
  | [], _ => by simp [pay]
  | x :: r, h => by
    have h1 := pay_bd ho r (fun y hy => h y (List.mem_cons_of_mem _ hy))
    have h2 := ho x (h x (List.mem_cons_self)).1 (h x (List.mem_cons_self)).2
    have e : pay o (x :: r) = ix o x + pay o r := by simp [pay]
    rw [e]; simp only [List.length_cons]; omega
structure PayOK (o xs : List Int) : Prop where
  o99 : ∀ a : Int, 0 <= a -> a < o.length -> 0 <= ix o a /\ ix o a <= 99
  xin : ∀ k : Nat, k < xs.length -> 0 <= ix xs (k : Int) /\ ix xs (k : Int) < o.length
  len : xs.length <= 1048576000
theorem PayOK.bd {o xs : List Int} (h : PayOK o xs) {k : Nat} (hk : k <= xs.length) : 0 <= pay o (xs.take k) /\ pay o (xs.take k) <= 103809024000 := by
  have h1 := pay_bd h.o99 (xs.take k) (fun x hx => by
    obtain ⟨j, hj, e⟩ := mem_ix (List.mem_of_mem_take hx)
    exact e ▸ h.xin j hj)
  have := h.len
  rw [List.length_take, Nat.min_eq_left hk] at h1
  omega
theorem payOK_of {o xs : List Int} {d : List (List Int)} (hg : good o d = true) (hr : ris 0 (o.length - 1) xs = true) (hl : xs.length <= 1048576000) : PayOK o xs :=
  ⟨fun a h0 h1 => (good_iff.1 hg).o99 _ (ix_memI o h0 h1), fun k hk => by have := ris_mem hr hk; omega, hl⟩

/-! the site by which a client is served -/
def srvF (row : List Int) : Int -> List Int -> Int
  | b, [] => b
  | b, a :: r => srvF row (if ix row a < ix row b then a else b) r
theorem srvF_take (row xs : List Int) (b : Int) {k : Nat} (h : k < xs.length) : srvF row b (xs.take (k + 1)) = if ix row (ix xs (k : Int)) < ix row (srvF row b (xs.take k)) then ix xs (k : Int) else srvF row b (xs.take k) := by
  rw [take_ix xs h]
  generalize xs.take k = l
  induction l generalizing b with
  | nil => rfl
  | cons x l ih => exact ih _
def srv (row set : List Int) : Int := srvF row (ix set 0) set
def near (row set : List Int) : Int := ix row (srv row set)
def svc (d : List (List Int)) (set : List Int) : Int := sumN (fun i => near (ix d (i : Int)) set) d.length
def far (d : List (List Int)) (set : List Int) : Int := maxF (tab d.length fun i => near (ix d (i : Int)) set) 0
def total (o : List Int) (d : List (List Int)) (set : List Int) : Int := pay o set + svc d set
def servedL (d : List (List Int)) (set : List Int) : List Int := tab d.length fun i => srv (ix d (i : Int)) set
def lengthsL (d : List (List Int)) (set : List Int) : List Int := tab d.length fun i => near (ix d (i : Int)) set
def opened (o : List Int) (d : List (List Int)) (set : List Int) : Bool := good o d && (ris 0 (o.length - 1) set && decide (0 < (set.length : Int)))
structure OpenOK (o : List Int) (d : List (List Int)) (set : List Int) : Prop where
  f : FieldOK o d
  pos : 0 < set.length
  len : set.length <= 1048576000
  xin : ∀ k : Nat, k < set.length -> 0 <= ix set (k : Int) /\ ix set (k : Int) < o.length
theorem opened_iff {o : List Int} {d : List (List Int)} {set : List Int} (hl : set.length <= 1048576000) (h : opened o d set = true) : OpenOK o d set := by
  simp only [opened, Bool.and_eq_true, decide_eq_true_eq] at h
  exact ⟨good_iff.1 h.1, by omega, hl, fun k hk => by have := ris_mem h.2.1 hk; omega⟩
theorem OpenOK.pay {o : List Int} {d : List (List Int)} {set : List Int} (h : OpenOK o d set) : PayOK o set := ⟨fun a h0 h1 => h.f.o99 _ (ix_memI o h0 h1), h.xin, h.len⟩
theorem srvF_in {n : Int} (row : List Int) : ∀ (xs : List Int) (b : Int), (0 <= b /\ b < n) -> (∀ x ∈ xs, 0 <= x /\ x < n) -> 0 <= srvF row b xs /\ srvF row b xs < n
  | [], b, hb, _ => hb
  | x :: r, b, hb, h => by
    refine srvF_in row r _ ?_ (fun y hy => h y (List.mem_cons_of_mem _ hy))
    split
    · exact h x List.mem_cons_self
    · exact hb
theorem OpenOK.take {o : List Int} {d : List (List Int)} {set : List Int} (h : OpenOK o d set) (row : List Int) (k : Nat) : 0 <= srvF row (ix set 0) (set.take k) /\ srvF row (ix set 0) (set.take k) < o.length :=
  srvF_in row _ _ (h.xin 0 h.pos) (fun x hx => by
    obtain ⟨j, hj, e⟩ := mem_ix (List.mem_of_mem_take hx)
    exact e ▸ h.xin j hj)
theorem OpenOK.srv {o : List Int} {d : List (List Int)} {set : List Int} (h : OpenOK o d set) (row : List Int) : 0 <= srv row set /\ srv row set < o.length := by
  have := h.take row set.length
  rwa [List.take_length] at this
theorem OpenOK.near {o : List Int} {d : List (List Int)} {set : List Int} (h : OpenOK o d set) {i : Int} (h0 : 0 <= i) (h1 : i < d.length) : 0 <= near (ix d i) set /\ near (ix d i) set <= 99 :=
  h.f.d_ix h0 h1 (h.srv _).1 (h.srv _).2
theorem OpenOK.svc {o : List Int} {d : List (List Int)} {set : List Int} (h : OpenOK o d set) {j : Nat} (hj : j <= d.length) : 0 <= sumN (fun i => Go.Vc.near (ix d (i : Int)) set) j /\ sumN (fun i => Go.Vc.near (ix d (i : Int)) set) j <= 693 := by
  have := sumN_bd (f := fun i => Go.Vc.near (ix d (i : Int)) set) (lo := 0) (hi := 99) (n := j) (fun i hi => h.near (by omega) (by omega))
  have := h.f.m7
  omega
theorem sum_take (xs : List Int) {k : Nat} (h : k < xs.length) : (xs.take (k + 1)).sum = (xs.take k).sum + ix xs (k : Int) := by
  rw [take_ix xs h, List.sum_append]; simp
theorem sum_tab (f : Nat -> Int) : ∀ n : Nat, (tab n f).sum = sumN f n
  | 0 => rfl
  | n + 1 => by rw [tab_succ, List.sum_append, sum_tab f n, sumN]; simp
end Go.Vc
namespace Go.Vc
set_option linter.unusedSimpArgs false
set_option linter.unusedVariables false

def minN (f : Nat -> Int) : Nat -> Int
  | 0 => -1
  | k + 1 => if minN f k < 0 \/ f k < minN f k then f k else minN f k
theorem minN_nn {f : Nat -> Int} : ∀ {k : Nat}, 0 < k -> (∀ a, a < k -> 0 <= f a) -> 0 <= minN f k
  | 1, _, h => by
    have := h 0 (by omega)
    have e : minN f 1 = f 0 := by
      show (if (-1 : Int) < 0 \/ f 0 < -1 then f 0 else -1) = f 0
      rw [if_pos (.inl (by decide))]
    rw [e]; exact this
  | k + 2, _, h => by
    have h1 := minN_nn (f := f) (k := k + 1) (by omega) (fun a ha => h a (by omega))
    have h2 := h (k + 1) (by omega)
    rw [minN]
    split <;> assumption
theorem minN_le {f : Nat -> Int} : ∀ {k : Nat}, (∀ a, a < k -> 0 <= f a) -> ∀ a, a < k -> minN f k <= f a
  | 0, _, a, ha => by omega
  | k + 1, h, a, ha => by
    rw [minN]
    by_cases e : a = k
    · subst e
      split
      · exact Int.le_refl _
      · rename_i hn; omega
    · have h1 := minN_le (f := f) (k := k) (fun a ha => h a (by omega)) a (by omega)
      split
      · rename_i hs
        rcases hs with hs | hs
        · have := minN_nn (f := f) (k := k) (by omega) (fun a ha => h a (by omega)); omega
        · omega
      · exact h1
def gapA (o : List Int) (d : List (List Int)) (p : List Int) (j : Nat) (a : Nat) : Int :=
  if ix (ix d (j : Int)) (a : Int) <= ix p (j : Int) then ix o (a : Int) - clm d p 1 (a : Int) else ix (ix d (j : Int)) (a : Int) - ix p (j : Int)
def stepA (o : List Int) (d : List (List Int)) (p : List Int) (j : Nat) : Int := minN (gapA o d p j) o.length
structure AscOK (o : List Int) (d : List (List Int)) (p : List Int) : Prop where
  f : FieldOK o d
  len : p.length = d.length
  low : ∀ j : Nat, j < d.length -> 0 <= ix p (j : Int) /\ ∃ a : Nat, a < o.length /\ ix (ix d (j : Int)) (a : Int) <= ix p (j : Int)
  fair : ∀ a : Nat, a < o.length -> clm d p 1 (a : Int) <= ix o (a : Int)
theorem sumN_get {f : Nat -> Int} (h0 : ∀ i, 0 <= f i) : ∀ {n k : Nat}, k < n -> f k <= sumN f n
  | 0, k, hk => by omega
  | n + 1, k, hk => by
    simp only [sumN]
    have hn : 0 <= sumN f n := by
      have : ∀ m, 0 <= sumN f m := fun m => by
        induction m with
        | zero => exact Int.le_refl _
        | succ m ih => simp only [sumN]; have := h0 m; omega
      exact this n
    by_cases e : k = n
    · subst e; omega
    · have := sumN_get h0 (n := n) (k := k) (by omega); have := h0 n; omega
theorem clmT_nn (d : List (List Int)) (p : List Int) (u a : Int) (j : Nat) : 0 <= clmT d p u a j := by unfold clmT; omega
theorem AscOK.bd {o : List Int} {d : List (List Int)} {p : List Int} (h : AscOK o d p) {j : Nat} (hj : j < d.length) : 0 <= ix p (j : Int) /\ ix p (j : Int) <= 198 := by
  obtain ⟨h0, a, ha, hl⟩ := h.low j hj
  have h1 := h.fair a ha
  have h2 := h.f.o_ix (a := (a : Int)) (by omega) (by omega)
  have h3 := h.f.d_ix (k := (j : Int)) (a := (a : Int)) (by omega) (by omega) (by omega) (by omega)
  have h4 : clmT d p 1 (a : Int) j <= clm d p 1 (a : Int) := sumN_get (clmT_nn d p 1 (a : Int)) (by rw [h.len]; exact hj)
  have h5 : ix p (j : Int) - 1 * ix (ix d (j : Int)) (a : Int) <= clmT d p 1 (a : Int) j := by unfold clmT; omega
  omega
theorem AscOK.clm {o : List Int} {d : List (List Int)} {p : List Int} (h : AscOK o d p) : ClmOK o d p 1 :=
  ⟨h.f, h.len, fun k hk => by have := h.bd (j := k) (by have := h.len; omega); omega, by omega⟩
theorem AscOK.gap_nn {o : List Int} {d : List (List Int)} {p : List Int} (h : AscOK o d p) (j : Nat) {a : Nat} (ha : a < o.length) : 0 <= gapA o d p j a := by
  have := h.fair a ha
  unfold gapA
  split <;> omega
theorem AscOK.step_nn {o : List Int} {d : List (List Int)} {p : List Int} (h : AscOK o d p) (j : Nat) : 0 <= stepA o d p j := minN_nn h.f.n1 (fun a ha => h.gap_nn j ha)
theorem AscOK.step_le {o : List Int} {d : List (List Int)} {p : List Int} (h : AscOK o d p) (j : Nat) {a : Nat} (ha : a < o.length) : stepA o d p j <= gapA o d p j a := minN_le (fun a ha => h.gap_nn j ha) a ha
theorem sumN_set {f g : Nat -> Int} {k : Nat} : ∀ {n : Nat}, k < n -> (∀ i, i < n -> i ≠ k -> f i = g i) -> sumN f n = sumN g n - g k + f k
  | 0, hk, _ => by omega
  | n + 1, hk, h => by
    simp only [sumN]
    by_cases e : k = n
    · subst e; rw [sumN_congr (fun i hi => h i (by omega) (by omega))]; omega
    · rw [sumN_set (n := n) (by omega) (fun i hi he => h i (by omega) he), h n (by omega) (fun e' => e e'.symm)]; omega
def raise (o : List Int) (d : List (List Int)) (p : List Int) (j : Nat) : List Int := p.set j (ix p (j : Int) + stepA o d p j)
theorem ix_raise {o : List Int} {d : List (List Int)} {p : List Int} {j : Nat} (hj : j < p.length) (k : Nat) : ix (raise o d p j) (k : Int) = if k = j then ix p (j : Int) + stepA o d p j else ix p (k : Int) := ix_set p _ hj k
theorem AscOK.raise {o : List Int} {d : List (List Int)} {p : List Int} (h : AscOK o d p) {j : Nat} (hj : j < d.length) : AscOK o d (raise o d p j) := by
  have hl := h.len
  have hs := h.step_nn j
  have hlr : (Go.Vc.raise o d p j).length = p.length := by simp [Go.Vc.raise]
  refine ⟨h.f, by rw [hlr, hl], fun k hk => ?_, fun a ha => ?_⟩
  · rw [ix_raise (by omega)]
    obtain ⟨h0, a, ha, h1⟩ := h.low k hk
    split
    · rename_i e; subst e; exact ⟨by omega, a, ha, by omega⟩
    · exact ⟨h0, a, ha, h1⟩
  · have e1 : Go.Vc.clm d (Go.Vc.raise o d p j) 1 (a : Int) = Go.Vc.clm d p 1 (a : Int) - clmT d p 1 (a : Int) j + clmT d (Go.Vc.raise o d p j) 1 (a : Int) j := by
      unfold Go.Vc.clm
      rw [hlr]
      refine sumN_set (by omega) (fun i hi he => ?_)
      unfold clmT
      rw [ix_raise (by omega), if_neg he]
    have e2 : clmT d (Go.Vc.raise o d p j) 1 (a : Int) j = max 0 (ix p (j : Int) + stepA o d p j - 1 * ix (ix d (j : Int)) (a : Int)) := by
      unfold clmT
      rw [ix_raise (by omega), if_pos rfl]
    have e3 : clmT d p 1 (a : Int) j = max 0 (ix p (j : Int) - 1 * ix (ix d (j : Int)) (a : Int)) := rfl
    have h1 := h.step_le j ha
    have h2 := h.fair a ha
    unfold gapA at h1
    split at h1 <;> omega
def passA (o : List Int) (d : List (List Int)) (p : List Int) : Nat -> List Int
  | 0 => p
  | j + 1 => raise o d (passA o d p j) j
theorem AscOK.pass {o : List Int} {d : List (List Int)} {p : List Int} (h : AscOK o d p) : ∀ {j : Nat}, j <= d.length -> AscOK o d (passA o d p j)
  | 0, _ => h
  | j + 1, hj => (h.pass (j := j) (by omega)).raise (by omega)
def psum (p : List Int) : Int := sumN (fun j => ix p (j : Int)) p.length
theorem AscOK.psum {o : List Int} {d : List (List Int)} {p : List Int} (h : AscOK o d p) : 0 <= psum p /\ psum p <= 1386 := by
  have hl := h.len
  have := h.f.m7
  have := sumN_bd (f := fun j => ix p (j : Int)) (lo := 0) (hi := 198) (n := p.length) (fun i hi => h.bd (by omega))
  unfold Go.Vc.psum
  omega
def passes (o : List Int) (d : List (List Int)) (p : List Int) : Nat -> List Int
  | 0 => p
  | k + 1 => passA o d (passes o d p k) d.length
theorem AscOK.passes {o : List Int} {d : List (List Int)} {p : List Int} (h : AscOK o d p) : ∀ k : Nat, AscOK o d (passes o d p k)
  | 0 => h
  | k + 1 => (h.passes k).pass (Nat.le_refl _)
def ascentL (o : List Int) (d : List (List Int)) (p : List Int) : List Int :=
  match (List.range 1500).find? (fun k => decide (passA o d (passes o d p k) d.length = passes o d p k)) with
  | some k => passes o d p k
  | none => []
def firstP (d : List (List Int)) : List Int := tab d.length fun j => minL (ix d (j : Int))
theorem minF_mem : ∀ (xs : List Int) (m : Int), minF xs m = m \/ minF xs m ∈ xs
  | [], m => .inl rfl
  | x :: r, m => by
    rw [minF]
    rcases minF_mem r (min m x) with h | h
    · by_cases e : m <= x
      · left; rw [h]; omega
      · right; rw [h, show min m x = x by omega]; exact List.mem_cons_self
    · right; exact List.mem_cons_of_mem _ h
theorem minL_mem {xs : List Int} (h : 0 < xs.length) : minL xs ∈ xs := by
  cases xs with
  | nil => simp at h
  | cons x r =>
    unfold minL
    rcases minF_mem ((x :: r).drop 1) (ix (x :: r) 0) with e | e
    · rw [e]; exact List.mem_cons_self
    · exact List.mem_cons_of_mem _ e
theorem firstP_ok {o : List Int} {d : List (List Int)} (h : FieldOK o d) : AscOK o d (firstP d) := by
  have hl : (firstP d).length = d.length := tab_len _ _
  have key : ∀ j : Nat, j < d.length -> ix (firstP d) (j : Int) = minL (ix d (j : Int)) := fun j hj => tab_ix hj
  have hrow : ∀ j : Nat, j < d.length -> (ix d (j : Int)).length = o.length := fun j hj => h.d_len (by omega) (by omega)
  refine ⟨h, hl, fun j hj => ?_, fun a ha => ?_⟩
  · rw [key j hj]
    have hm := minL_mem (xs := ix d (j : Int)) (by rw [hrow j hj]; exact h.n1)
    obtain ⟨a, ha, e⟩ := mem_ix hm
    rw [hrow j hj] at ha
    have := h.d_ix (k := (j : Int)) (a := (a : Int)) (by omega) (by omega) (by omega) (by omega)
    exact ⟨by omega, a, ha, by omega⟩
  · have e : clm d (firstP d) 1 (a : Int) = 0 := by
      unfold clm
      refine sumN_zero (fun j hj => ?_)
      rw [hl] at hj
      have h1 := (minL_ge (xs := ix d (j : Int)) (by rw [hrow j hj]; exact h.n1) (minL (ix d (j : Int)))).1 (Int.le_refl _) _ (ix_mem (ix d (j : Int)) (k := a) (by rw [hrow j hj]; exact ha))
      unfold clmT
      rw [key j hj]
      omega
    have := h.o_ix (a := (a : Int)) (by omega) (by omega)
    omega
def nextA (d : List (List Int)) (p : List Int) (j : Nat) : Nat -> Int
  | 0 => -1
  | a + 1 => if ix p (j : Int) < ix (ix d (j : Int)) (a : Int) /\ (nextA d p j a < 0 \/ ix (ix d (j : Int)) (a : Int) < nextA d p j a) then ix (ix d (j : Int)) (a : Int) else nextA d p j a
def byA (o : List Int) (d : List (List Int)) (p : List Int) (j : Nat) : Nat -> Int
  | 0 => -1
  | a + 1 => if ix (ix d (j : Int)) (a : Int) <= ix p (j : Int) /\ (byA o d p j a < 0 \/ ix o (a : Int) - clm d p 1 (a : Int) < byA o d p j a) then ix o (a : Int) - clm d p 1 (a : Int) else byA o d p j a
theorem AscOK.two {o : List Int} {d : List (List Int)} {p : List Int} (h : AscOK o d p) {j : Nat} (hj : j < d.length) : ∀ {a : Nat}, a <= o.length ->
    (nextA d p j a = -1 \/ ix p (j : Int) < nextA d p j a /\ nextA d p j a <= 99) /\ (byA o d p j a = -1 \/ 0 <= byA o d p j a /\ byA o d p j a <= 99) /\
      minN (gapA o d p j) a = (if nextA d p j a < 0 then byA o d p j a else if byA o d p j a < 0 then nextA d p j a - ix p (j : Int) else min (byA o d p j a) (nextA d p j a - ix p (j : Int)))
  | 0, _ => by simp [nextA, byA, minN]
  | a + 1, ha => by
    obtain ⟨h1, h2, h3⟩ := h.two hj (a := a) (by omega)
    have hp := h.bd hj
    have hd := h.f.d_ix (k := (j : Int)) (a := (a : Int)) (by omega) (by omega) (by omega) (by omega)
    have hf := h.fair a (by omega)
    have ho := h.f.o_ix (a := (a : Int)) (by omega) (by omega)
    have hc := h.clm.bd (a := (a : Int)) (by omega) (by omega)
    rw [nextA, byA, minN, h3]
    unfold gapA
    generalize nextA d p j a = N at *
    generalize byA o d p j a = B at *
    generalize Go.Vc.clm d p 1 (a : Int) = C at *
    generalize ix (ix d (j : Int)) (a : Int) = D at *
    generalize ix p (j : Int) = Q at *
    generalize ix o (a : Int) = O at *
    by_cases e : D <= Q
    · have e1 : ¬ (Q < D /\ (N < 0 \/ D < N)) := by omega
      rw [if_neg e1, if_pos e]
      by_cases e2 : D <= Q /\ (B < 0 \/ O - C < B)
      · rw [if_pos e2]
        refine ⟨h1, by omega, ?_⟩
        split <;> split <;> (try split) <;> (try split) <;> omega
      · rw [if_neg e2]
        refine ⟨h1, h2, ?_⟩
        split <;> split <;> (try split) <;> (try split) <;> omega
    · rw [if_neg e]
      have e2 : ¬ (D <= Q /\ (B < 0 \/ O - C < B)) := by omega
      rw [if_neg e2]
      by_cases e3 : Q < D /\ (N < 0 \/ D < N)
      · rw [if_pos e3]
        refine ⟨by omega, h2, ?_⟩
        split <;> split <;> (try split) <;> (try split) <;> omega
      · rw [if_neg e3]
        refine ⟨h1, h2, ?_⟩
        split <;> split <;> (try split) <;> (try split) <;> omega
theorem byA_some {o : List Int} {d : List (List Int)} {p : List Int} (h : AscOK o d p) {j : Nat} (hj : j < d.length) : ∀ {n a : Nat}, n <= o.length -> a < n -> ix (ix d (j : Int)) (a : Int) <= ix p (j : Int) -> 0 <= byA o d p j n
  | 0, a, _, ha, _ => by omega
  | n + 1, a, hn, ha, hl => by
    have h2 := (h.two hj (a := n) (by omega)).2.1
    have hf := h.fair n (by omega)
    rw [byA]
    by_cases e : a = n
    · subst e
      by_cases e2 : byA o d p j a < 0 \/ ix o (a : Int) - clm d p 1 (a : Int) < byA o d p j a
      · rw [if_pos ⟨hl, e2⟩]; omega
      · rw [if_neg (fun e3 => e2 e3.2)]; omega
    · have := byA_some h hj (n := n) (a := a) (by omega) (by omega) hl
      split <;> omega
theorem AscOK.to {o : List Int} {d : List (List Int)} {p : List Int} (h : AscOK o d p) {j : Nat} (hj : j < d.length) :
    (0 <= byA o d p j o.length /\ byA o d p j o.length <= 99) /\ stepA o d p j = (if nextA d p j o.length < 0 then byA o d p j o.length else min (byA o d p j o.length) (nextA d p j o.length - ix p (j : Int))) := by
  obtain ⟨h0, a, ha, hl⟩ := h.low j hj
  have h1 := byA_some h hj (Nat.le_refl _) ha hl
  obtain ⟨_, h2, h3⟩ := h.two hj (Nat.le_refl o.length)
  refine ⟨by omega, ?_⟩
  unfold stepA
  rw [h3]
  split
  · rfl
  · rw [if_neg (by omega)]
end Go.Vc
namespace Go.Proofs.YteefjdbdknkcjaaGreatDoor
open Go.Vc
set_option maxRecDepth 100000
set_option linter.unusedSimpArgs false
set_option linter.unusedVariables false

def g_least2 : List AV -> Prop × AV
  | [.int .i64 a, .int .i64 b] => (True, .int .i64 (min a b))
  | _ => (False, .undef)
theorem g_least2_eq (a b : Int) : g_least2 [.int .i64 a, .int .i64 b] = (True, .int .i64 (min a b)) := (rfl)
theorem least2_ok (a b : Int) (hp : True) : SpecOK Tryz.prog 36 [.int .i64 a, .int .i64 b] (.int .i64 (min a b)) [] := by
  refine fun_ok (C := []) (hint := hintX [] [] 0 [] [] [] []) (TabOK.nil _) mixed Tryz.func36 rfl (by kernel_rfl) rfl ?_
  show codeA _ _ _ _ _ _ _ _
  simp only [go_sem, Tryz.results36]
  repeat' (first | refine fork_intro (fun hb => ?_) (fun hb => ?_) | refine partB_intro (fun hb => ?_) (fun hb => ?_) | refine And.intro ?_ ?_)
  all_goals first | exact True.intro | omega | with_reducible rfl | exact congrArg (AV.int _) (by omega)
def t_least2 : Table := [(36, pureC g_least2)]
theorem t_least2_ok : TabOK Tryz.prog t_least2 := .cons Tryz.func36 (by kernel_rfl) (.pure (by intro args hp; unfold g_least2 at hp ⊢; split at hp <;> first | exact hp.elim | exact least2_ok _ _ hp)) (.nil _)
attribute [go_sem] g_least2_eq t_least2
end Go.Proofs.YteefjdbdknkcjaaGreatDoor
namespace Go.Vc
set_option linter.unusedSimpArgs false
set_option linter.unusedVariables false

def metP (d : List (List Int)) (i j a b : Nat) : Prop := ix (ix d i) a <= ix (ix d i) b + ix (ix d j) b + ix (ix d j) a
instance (d : List (List Int)) (i j a b : Nat) : Decidable (metP d i j a b) := inferInstanceAs (Decidable (_ <= _))
def metric (d : List (List Int)) (n : Nat) : Bool := decide (∀ i, i < d.length -> ∀ j, j < d.length -> ∀ a, a < n -> ∀ b, b < n -> metP d i j a b)
theorem row_of {o : List Int} {d : List (List Int)} (h : FieldOK o d) {k : Nat} (hk : k < d.length) : (ix d (k : Int)).length = o.length /\ ∀ a : Nat, a < o.length -> 0 <= ix (ix d (k : Int)) (a : Int) /\ ix (ix d (k : Int)) (a : Int) <= 99 := by
  have hm := ix_mem d hk
  have hl := h.len _ hm
  exact ⟨hl, fun a ha => h.d99 _ hm _ (ix_mem _ (by omega))⟩

def ent (d : List (List Int)) (i a : Nat) : Int := ix (ix d (i : Int)) (a : Int)
structure Sh (m n : Nat) (d : List (List Int)) : Prop where
  len : d.length = m
  row : ∀ i : Nat, i < m -> (ix d (i : Int)).length = n
  nn : ∀ i a : Nat, i < m -> a < n -> 0 <= ent d i a /\ ent d i a <= 99
def upd (d : List (List Int)) (i a : Nat) (v : Int) : List (List Int) := d.set i ((ix d (i : Int)).set a v)
theorem ent_upd {m n : Nat} {d : List (List Int)} (h : Sh m n d) {i a : Nat} (hi : i < m) (ha : a < n) (v : Int) (p q : Nat) : ent (upd d i a v) p q = if p = i /\ q = a then v else ent d p q := by
  unfold ent upd
  rw [ix_set _ _ (by rw [h.len]; exact hi)]
  by_cases e : p = i
  · subst e
    rw [if_pos rfl, ix_set _ _ (by rw [h.row p hi]; exact ha)]
    by_cases e2 : q = a
    · subst e2; simp
    · rw [if_neg e2, if_neg (fun h => e2 h.2)]
  · rw [if_neg e, if_neg (fun h => e h.1)]
theorem sh_upd {m n : Nat} {d : List (List Int)} (h : Sh m n d) {i a : Nat} (hi : i < m) (ha : a < n) {v : Int} (hv : 0 <= v /\ v <= 99) : Sh m n (upd d i a v) := by
  refine ⟨by simp [upd, h.len], fun p hp => ?_, fun p q hp hq => ?_⟩
  · unfold upd
    rw [ix_set _ _ (by rw [h.len]; exact hi)]
    split
    · rw [List.length_set]; exact h.row i hi
    · exact h.row p hp
  · rw [ent_upd h hi ha]
    split
    · exact hv
    · exact h.nn p q hp hq
theorem sh_ext {m n : Nat} {d e : List (List Int)} (hd : Sh m n d) (he : Sh m n e) (h : ∀ i a, i < m -> a < n -> ent d i a = ent e i a) : d = e := by
  refine ix_ext (by rw [hd.len, he.len]) (fun i hi => ?_)
  rw [hd.len] at hi
  refine ix_ext (by rw [hd.row i hi, he.row i hi]) (fun a ha => ?_)
  rw [hd.row i hi] at ha
  exact h i a hi ha
def LeM (m n : Nat) (e d : List (List Int)) : Prop := ∀ i a, i < m -> a < n -> ent e i a <= ent d i a
def MetM (m n : Nat) (d : List (List Int)) : Prop := ∀ i j a b, i < m -> j < m -> a < n -> b < n -> ent d i a <= ent d i b + ent d j b + ent d j a
structure Closes (m n : Nat) (d0 d : List (List Int)) : Prop where
  sh : Sh m n d
  le : LeM m n d d0
  up : ∀ e, MetM m n e -> LeM m n e d0 -> LeM m n e d
theorem closes_refl {m n : Nat} {d : List (List Int)} (h : Sh m n d) : Closes m n d d := ⟨h, fun _ _ _ _ => Int.le_refl _, fun _ _ h => h⟩
theorem closes_unique {m n : Nat} {d0 d e : List (List Int)} (hd : Closes m n d0 d) (he : Closes m n d0 e) (md : MetM m n d) (me : MetM m n e) : d = e :=
  sh_ext hd.sh he.sh (fun i a hi ha => Int.le_antisymm (he.up d md hd.le i a hi ha) (hd.up e me he.le i a hi ha))
def viaV (d : List (List Int)) (i j a b : Nat) : Int := ent d i b + ent d j b + ent d j a
theorem closes_upd {m n : Nat} {d0 d : List (List Int)} (h : Closes m n d0 d) {i j a b : Nat} (hi : i < m) (hj : j < m) (ha : a < n) (hb : b < n) (hv : viaV d i j a b <= ent d i a) : Closes m n d0 (upd d i a (viaV d i j a b)) := by
  have n1 := h.sh.nn i b hi hb
  have n2 := h.sh.nn j b hj hb
  have n3 := h.sh.nn j a hj ha
  have n4 := h.sh.nn i a hi ha
  have hvv : viaV d i j a b = ent d i b + ent d j b + ent d j a := rfl
  refine ⟨sh_upd h.sh hi ha (by omega), fun p q hp hq => ?_, fun e me le p q hp hq => ?_⟩
  · rw [ent_upd h.sh hi ha]
    split
    · rename_i e; obtain ⟨rfl, rfl⟩ := e; exact Int.le_trans hv (h.le p q hp hq)
    · exact h.le p q hp hq
  · rw [ent_upd h.sh hi ha]
    have u := h.up e me le
    split
    · rename_i e'; obtain ⟨rfl, rfl⟩ := e'
      have h1 := me p j q b hp hj hq hb
      have h2 := u p b hp hb
      have h3 := u j b hj hb
      have h4 := u j q hj hq
      omega
    · exact u p q hp hq
theorem upd_same {m n : Nat} {d : List (List Int)} (h : Sh m n d) {i a : Nat} (hi : i < m) (ha : a < n) : upd d i a (ent d i a) = d := by
  refine sh_ext (sh_upd h hi ha (h.nn i a hi ha)) h (fun p q hp hq => ?_)
  rw [ent_upd h hi ha]
  split
  · rename_i e; rw [e.1, e.2]
  · rfl
def msum (m n : Nat) (d : List (List Int)) : Int := sumN (fun i => sumN (fun a => ent d i a) n) m
theorem sumN_le {f g : Nat -> Int} : ∀ {n : Nat}, (∀ i, i < n -> f i <= g i) -> sumN f n <= sumN g n
  | 0, _ => Int.le_refl _
  | n + 1, h => by
    have := sumN_le (n := n) (fun i hi => h i (by omega))
    have := h n (by omega)
    simp only [sumN]; omega
theorem sumN_lt {f g : Nat -> Int} {k : Nat} : ∀ {n : Nat}, (∀ i, i < n -> f i <= g i) -> k < n -> f k < g k -> sumN f n < sumN g n
  | 0, _, hk, _ => by omega
  | n + 1, h, hk, hl => by
    simp only [sumN]
    by_cases e : k = n
    · subst e
      have := sumN_le (n := k) (fun i hi => h i (by omega))
      omega
    · have := sumN_lt (n := n) (fun i hi => h i (by omega)) (by omega) hl
      have := h n (by omega)
      omega
theorem msum_upd {m n : Nat} {d : List (List Int)} (h : Sh m n d) {i a : Nat} (hi : i < m) (ha : a < n) {v : Int} (hv : v < ent d i a) : msum m n (upd d i a v) < msum m n d := by
  unfold msum
  have key : ∀ p, p < m -> ∀ q, q < n -> ent (upd d i a v) p q <= ent d p q := fun p hp q hq => by
    rw [ent_upd h hi ha]
    split
    · rename_i e; rw [e.1, e.2]; omega
    · exact Int.le_refl _
  refine sumN_lt (k := i) (fun p hp => sumN_le (fun q hq => key p hp q hq)) hi ?_
  refine sumN_lt (k := a) (fun q hq => key i hi q hq) ha ?_
  rw [ent_upd h hi ha, if_pos ⟨rfl, rfl⟩]; exact hv
theorem msum_nn {m n : Nat} {d : List (List Int)} (h : Sh m n d) : 0 <= msum m n d := by
  have : sumN (fun _ => (0 : Int)) m <= msum m n d := sumN_le (fun i hi => by
    have : sumN (fun _ => (0 : Int)) n <= sumN (fun a => ent d i a) n := sumN_le (fun a ha => (h.nn i a hi ha).1)
    rw [sumN_zero (fun _ _ => rfl)] at this
    exact this)
  rw [sumN_zero (fun _ _ => rfl)] at this
  exact this
theorem msum_le {m n : Nat} {d : List (List Int)} (h : Sh m n d) (hm : m <= 7) (hn : n <= 7) : msum m n d <= 4851 := by
  have h1 := sumN_bd (f := fun i => sumN (fun a => ent d i a) n) (lo := 0) (hi := 693) (n := m) (fun i hi => by
    have := sumN_bd (f := fun a => ent d i a) (lo := 0) (hi := 99) (n := n) (fun a ha => h.nn i a hi ha)
    omega)
  unfold msum; omega
def relax (d : List (List Int)) (q : Nat × Nat × Nat × Nat) : List (List Int) := if viaV d q.1 q.2.1 q.2.2.1 q.2.2.2 < ent d q.1 q.2.2.1 then upd d q.1 q.2.2.1 (viaV d q.1 q.2.1 q.2.2.1 q.2.2.2) else d
theorem relax_fold {m n : Nat} {d0 : List (List Int)} : ∀ (Q : List (Nat × Nat × Nat × Nat)) (d : List (List Int)), (∀ q ∈ Q, q.1 < m /\ q.2.1 < m /\ q.2.2.1 < n /\ q.2.2.2 < n) -> Closes m n d0 d ->
    Closes m n d0 (Q.foldl relax d) /\ ((Q.foldl relax d = d /\ ∀ q ∈ Q, ent d q.1 q.2.2.1 <= viaV d q.1 q.2.1 q.2.2.1 q.2.2.2) \/ msum m n (Q.foldl relax d) < msum m n d)
  | [], d, _, h => ⟨h, .inl ⟨rfl, fun q hq => by cases hq⟩⟩
  | q :: Q, d, hQ, h => by
    obtain ⟨h1, h2, h3, h4⟩ := hQ q List.mem_cons_self
    have hQ' := fun q' hq' => hQ q' (List.mem_cons_of_mem _ hq')
    rw [List.foldl_cons]
    by_cases e : viaV d q.1 q.2.1 q.2.2.1 q.2.2.2 < ent d q.1 q.2.2.1
    · have hr : relax d q = upd d q.1 q.2.2.1 (viaV d q.1 q.2.1 q.2.2.1 q.2.2.2) := by unfold relax; rw [if_pos e]
      rw [hr]
      have hc := closes_upd h h1 h2 h3 h4 (Int.le_of_lt e)
      have hs := msum_upd h.sh h1 h3 e
      obtain ⟨g1, g2⟩ := relax_fold Q _ hQ' hc
      refine ⟨g1, .inr ?_⟩
      rcases g2 with ⟨g2, _⟩ | g2
      · rw [g2]; exact hs
      · omega
    · have hr : relax d q = d := by unfold relax; rw [if_neg e]
      rw [hr]
      obtain ⟨g1, g2⟩ := relax_fold Q d hQ' h
      refine ⟨g1, ?_⟩
      rcases g2 with ⟨g2, g3⟩ | g2
      · refine .inl ⟨g2, fun q' hq' => ?_⟩
        rcases List.mem_cons.1 hq' with rfl | hq'
        · omega
        · exact g3 q' hq'
      · exact .inr g2
def quads (m n : Nat) : List (Nat × Nat × Nat × Nat) := (List.range m).flatMap fun i => (List.range m).flatMap fun j => (List.range n).flatMap fun a => (List.range n).map fun b => (i, j, a, b)
theorem mem_quads {m n : Nat} {q : Nat × Nat × Nat × Nat} : q ∈ quads m n ↔ q.1 < m /\ q.2.1 < m /\ q.2.2.1 < n /\ q.2.2.2 < n := by
  obtain ⟨i, j, a, b⟩ := q
  simp only [quads, List.mem_flatMap, List.mem_map, List.mem_range, Prod.mk.injEq]
  exact ⟨fun ⟨_, h1, _, h2, _, h3, _, h4, e1, e2, e3, e4⟩ => by subst e1; subst e2; subst e3; subst e4; exact ⟨h1, h2, h3, h4⟩, fun ⟨h1, h2, h3, h4⟩ => ⟨_, h1, _, h2, _, h3, _, h4, rfl, rfl, rfl, rfl⟩⟩
def iterR (m n : Nat) (d : List (List Int)) : Nat -> List (List Int)
  | 0 => d
  | k + 1 => (quads m n).foldl relax (iterR m n d k)
theorem iterR_ok {m n : Nat} {d : List (List Int)} (h : Sh m n d) : ∀ k, Closes m n d (iterR m n d k)
  | 0 => closes_refl h
  | k + 1 => (relax_fold (quads m n) _ (fun q hq => mem_quads.1 hq) (iterR_ok h k)).1
def closeD (m n : Nat) (d : List (List Int)) : List (List Int) :=
  match (List.range 5000).find? (fun k => metric (iterR m n d k) n) with
  | some k => iterR m n d k
  | none => d
theorem metric_iff {m n : Nat} {d : List (List Int)} (h : d.length = m) : metric d n = true ↔ MetM m n d := by
  unfold metric
  rw [decide_eq_true_eq, h]
  exact ⟨fun h i j a b hi hj ha hb => h i hi j hj a ha b hb, fun h i hi j hj a ha b hb => h i j a b hi hj ha hb⟩
theorem closeD_ok {m n : Nat} {d : List (List Int)} (h : Sh m n d) (hm : m <= 7) (hn : n <= 7) : Closes m n d (closeD m n d) /\ MetM m n (closeD m n d) := by
  unfold closeD
  split
  · rename_i k hk
    have hc := iterR_ok h k
    have h2 := List.find?_some hk
    exact ⟨hc, (metric_iff hc.sh.len).1 h2⟩
  · rename_i hk
    exfalso
    rw [List.find?_eq_none] at hk
    obtain ⟨K, hK⟩ : ∃ K : Nat, K = 5000 := ⟨5000, rfl⟩
    have key : ∀ k, k <= K -> msum m n (iterR m n d k) + k <= msum m n d := by
      intro k
      induction k with
      | zero => intro _; simp [iterR]
      | succ k ih =>
        intro hk5
        have h1 := ih (by omega)
        have hc := iterR_ok h k
        have h2 := hk k (List.mem_range.2 (by omega))
        have h3 := (relax_fold (quads m n) _ (fun q hq => mem_quads.1 hq) hc).2
        rcases h3 with ⟨_, h3⟩ | h3
        · exact (h2 ((metric_iff hc.sh.len).2 (fun i j a b hi hj ha hb => h3 (i, j, a, b) (mem_quads.2 ⟨hi, hj, ha, hb⟩)))).elim
        · have e : iterR m n d (k + 1) = (quads m n).foldl relax (iterR m n d k) := rfl
          rw [e]; omega
    have h1 := key K (Nat.le_refl _)
    have h2 := msum_nn (iterR_ok h K).sh
    have h3 := msum_le h hm hn
    omega
theorem closeD_eq {m n : Nat} {d0 d : List (List Int)} (h : Sh m n d0) (hm : m <= 7) (hn : n <= 7) (hd : Closes m n d0 d) (md : MetM m n d) : closeD m n d0 = d :=
  closes_unique (closeD_ok h hm hn).1 hd (closeD_ok h hm hn).2 md
theorem FieldOK.sh {o : List Int} {d : List (List Int)} (h : FieldOK o d) : Sh d.length o.length d :=
  ⟨rfl, fun i hi => h.len _ (ix_mem d hi), fun i a hi ha => h.d_ix (by omega) (by omega) (by omega) (by omega)⟩
theorem Sh.field {o : List Int} {d0 d : List (List Int)} (hf : FieldOK o d0) (h : Sh d0.length o.length d) : FieldOK o d := by
  have hl := h.len
  refine ⟨hf.n1, hf.n7, hf.o99, by rw [hl]; exact hf.m7, fun r hr => ?_, fun r hr x hx => ?_⟩
  · obtain ⟨k, hk, rfl⟩ := List.mem_iff_getElem.1 hr
    have e := ix_some d hk
    rw [List.getElem?_eq_getElem hk] at e
    rw [Option.some.inj e]; exact h.row k (by omega)
  · obtain ⟨k, hk, rfl⟩ := List.mem_iff_getElem.1 hr
    have e := ix_some d hk
    rw [List.getElem?_eq_getElem hk] at e
    rw [Option.some.inj e] at hx
    obtain ⟨q, hq, rfl⟩ := mem_ix hx
    exact h.nn k q (by omega) (by rw [h.row k (by omega)] at hq; exact hq)
/-! ### One pass over all quadruples -/
def done4 (i j a b i' j' a' b' : Nat) : Prop := i' < i \/ (i' = i /\ (j' < j \/ (j' = j /\ (a' < a \/ (a' = a /\ b' < b)))))
def ProgB (m n : Nat) (D d : List (List Int)) (ch : Bool) (i j a b : Nat) : Prop :=
  (ch = false /\ d = D /\ ∀ i' j' a' b', i' < m -> j' < m -> a' < n -> b' < n -> done4 i j a b i' j' a' b' -> ent D i' a' <= viaV D i' j' a' b') \/ (ch = true /\ msum m n d < msum m n D)
theorem progB_start (m n : Nat) (D : List (List Int)) : ProgB m n D D false 0 0 0 0 := .inl ⟨rfl, rfl, fun i' j' a' b' _ _ _ _ h => by unfold done4 at h; omega⟩
theorem ProgB.mono {m n : Nat} {D d : List (List Int)} {ch : Bool} {i j a b i2 j2 a2 b2 : Nat} (h : ProgB m n D d ch i j a b)
    (hm : ∀ i' j' a' b', i' < m -> j' < m -> a' < n -> b' < n -> done4 i2 j2 a2 b2 i' j' a' b' -> done4 i j a b i' j' a' b') : ProgB m n D d ch i2 j2 a2 b2 := by
  rcases h with ⟨h1, h2, h3⟩ | h
  · exact .inl ⟨h1, h2, fun i' j' a' b' g1 g2 g3 g4 g5 => h3 i' j' a' b' g1 g2 g3 g4 (hm i' j' a' b' g1 g2 g3 g4 g5)⟩
  · exact .inr h
theorem ProgB.b {m n : Nat} {D d : List (List Int)} {ch : Bool} {i j a b : Nat} (h : ProgB m n D d ch i j a b) (hb : n <= b) : ProgB m n D d ch i j (a + 1) 0 := h.mono (fun i' j' a' b' _ _ _ _ g => by unfold done4 at *; omega)
theorem ProgB.a {m n : Nat} {D d : List (List Int)} {ch : Bool} {i j a : Nat} (h : ProgB m n D d ch i j a 0) (ha : n <= a) : ProgB m n D d ch i (j + 1) 0 0 := h.mono (fun i' j' a' b' _ _ _ _ g => by unfold done4 at *; omega)
theorem ProgB.j {m n : Nat} {D d : List (List Int)} {ch : Bool} {i j : Nat} (h : ProgB m n D d ch i j 0 0) (hj : m <= j) : ProgB m n D d ch (i + 1) 0 0 0 := h.mono (fun i' j' a' b' _ _ _ _ g => by unfold done4 at *; omega)
theorem ProgB.no {m n : Nat} {D d : List (List Int)} {ch : Bool} {i j a b : Nat} (h : ProgB m n D d ch i j a b) (hv : ent d i a <= viaV d i j a b) : ProgB m n D d ch i j a (b + 1) := by
  rcases h with ⟨h1, h2, h3⟩ | h
  · subst h2
    refine .inl ⟨h1, rfl, fun i' j' a' b' g1 g2 g3 g4 g5 => ?_⟩
    by_cases e : i' = i /\ j' = j /\ a' = a /\ b' = b
    · obtain ⟨rfl, rfl, rfl, rfl⟩ := e; exact hv
    · exact h3 i' j' a' b' g1 g2 g3 g4 (by unfold done4 at *; omega)
  · exact .inr h
theorem ProgB.yes {m n : Nat} {D d : List (List Int)} {ch : Bool} {i j a b : Nat} (hd : Sh m n d) (hi : i < m) (ha : a < n) (h : ProgB m n D d ch i j a b) {v : Int} (hv : v < ent d i a) {i2 j2 a2 b2 : Nat} : ProgB m n D (upd d i a v) true i2 j2 a2 b2 := by
  have := msum_upd hd hi ha hv
  rcases h with ⟨h1, h2, h3⟩ | h
  · subst h2; exact .inr ⟨rfl, this⟩
  · exact .inr ⟨rfl, by omega⟩
theorem ProgB.end {m n : Nat} {D d : List (List Int)} {ch : Bool} {i : Nat} (h : ProgB m n D d ch i 0 0 0) (hi : m <= i) : (ch = false /\ d = D /\ MetM m n d) \/ (ch = true /\ msum m n d < msum m n D) := by
  rcases h with ⟨h1, h2, h3⟩ | h
  · subst h2; exact .inl ⟨h1, rfl, fun i' j' a' b' g1 g2 g3 g4 => h3 i' j' a' b' g1 g2 g3 g4 (.inl (by omega))⟩
  · exact .inr h
theorem viaV_bd {m n : Nat} {d : List (List Int)} (h : Sh m n d) {i j a b : Nat} (hi : i < m) (hj : j < m) (ha : a < n) (hb : b < n) : (0 <= ent d i b /\ ent d i b <= 99) /\ (0 <= ent d j b /\ ent d j b <= 99) /\ (0 <= ent d j a /\ ent d j a <= 99) /\ 0 <= ent d i a /\ ent d i a <= 99 :=
  ⟨h.nn i b hi hb, h.nn j b hj hb, h.nn j a hj ha, h.nn i a hi ha⟩
end Go.Vc
namespace Go.Proofs.YteefjdbdknkcjaaGreatDoor
open Go.Vc
set_option maxRecDepth 100000
set_option linter.unusedSimpArgs false
set_option linter.unusedVariables false

def g_metS : List AV -> Prop × AV
  | [.agg [.ints o, .rows d]] => (FieldOK o d, .bool (metric d o.length))
  | _ => (False, .undef)
theorem g_metS_eq (o : List Int) (d : List (List Int)) : g_metS [.agg [.ints o, .rows d]] = (FieldOK o d, .bool (metric d o.length)) := (rfl)
theorem metS_ok (o : List Int) (d : List (List Int)) (hp : FieldOK o d) : SpecOK Tryz.prog 32 [.agg [.ints o, .rows d]] (.bool (metric d o.length)) [] := by
  refine fun_ok (C := []) (hint := hintX [] [] 0 [] [] [] []) (TabOK.nil _) mixed Tryz.func32 rfl (by kernel_rfl) rfl ?_
  show codeA _ _ _ _ _ _ _ _
  simp only [go_sem, Tryz.results32]
  have hn := hp.n7
  have hm := hp.m7
  refine loop_intro (fun i : Nat => [(3, .int .i64 i), (1, .iptr [.ints o, .rows d])]) (fun _ => []) 0 (fun i => i <= d.length /\ ∀ i', i' < i -> ∀ j, j < d.length -> ∀ a, a < o.length -> ∀ b, b < o.length -> metP d i' j a b) (fun i => d.length - i) 0 ⟨Nat.zero_le _, fun i' h => absurd h (Nat.not_lt_zero _)⟩ (Nat.zero_le _) ?_ ?_
  · simp only [go_sem]
    repeat' (first | refine fork_intro (fun hb => ?_) (fun hb => ?_) | refine partB_intro (fun hb => ?_) (fun hb => ?_) | refine And.intro ?_ ?_)
    all_goals first | trivial | rfl | omega
  · rintro i ⟨hi, ti⟩
    simp only [go_sem]
    refine fork_intro (fun bi => ?_) (fun bi => ?_)
    · obtain ⟨li, vi⟩ := row_of hp (k := i) (by omega)
      refine loop_intro (fun j : Nat => [(4, .int .i64 j), (3, .int .i64 i), (1, .iptr [.ints o, .rows d])]) (fun _ => []) 0 (fun j => j <= d.length /\ ∀ j', j' < j -> ∀ a, a < o.length -> ∀ b, b < o.length -> metP d i j' a b) (fun j => d.length - j) 0 ⟨Nat.zero_le _, fun i' h => absurd h (Nat.not_lt_zero _)⟩ (Nat.zero_le _) ?_ ?_
      · simp only [go_sem]
        repeat' (first | refine fork_intro (fun hb => ?_) (fun hb => ?_) | refine partB_intro (fun hb => ?_) (fun hb => ?_) | refine And.intro ?_ ?_)
        all_goals first | trivial | rfl | omega
      · rintro j ⟨hj, tj⟩
        simp only [go_sem]
        refine fork_intro (fun bj => ?_) (fun bj => ?_)
        · obtain ⟨lj, vj⟩ := row_of hp (k := j) (by omega)
          refine loop_intro (fun a : Nat => [(5, .int .i64 a), (4, .int .i64 j), (3, .int .i64 i), (1, .iptr [.ints o, .rows d])]) (fun _ => []) 0 (fun a => a <= o.length /\ ∀ a', a' < a -> ∀ b, b < o.length -> metP d i j a' b) (fun a => o.length - a) 0 ⟨Nat.zero_le _, fun i' h => absurd h (Nat.not_lt_zero _)⟩ (Nat.zero_le _) ?_ ?_
          · simp only [go_sem]
            repeat' (first | refine fork_intro (fun hb => ?_) (fun hb => ?_) | refine partB_intro (fun hb => ?_) (fun hb => ?_) | refine And.intro ?_ ?_)
            all_goals first | trivial | rfl | omega
          · rintro a ⟨ha, ta⟩
            simp only [go_sem]
            refine fork_intro (fun ba => ?_) (fun ba => ?_)
            · skip
              refine loop_intro (fun b : Nat => [(6, .int .i64 b), (5, .int .i64 a), (4, .int .i64 j), (3, .int .i64 i), (1, .iptr [.ints o, .rows d])]) (fun _ => []) 0 (fun b => b <= o.length /\ ∀ b', b' < b -> metP d i j a b') (fun b => o.length - b) 0 ⟨Nat.zero_le _, fun i' h => absurd h (Nat.not_lt_zero _)⟩ (Nat.zero_le _) ?_ ?_
              · simp only [go_sem]
                repeat' (first | refine fork_intro (fun hb => ?_) (fun hb => ?_) | refine partB_intro (fun hb => ?_) (fun hb => ?_) | refine And.intro ?_ ?_)
                all_goals first | trivial | rfl | omega
              · rintro b ⟨hb, tb⟩
                simp only [go_sem]
                refine fork_intro (fun bb => ?_) (fun bb => ?_)
                · obtain ⟨x1, x2⟩ := vi a (by omega)
                  obtain ⟨x3, x4⟩ := vi b (by omega)
                  obtain ⟨x5, x6⟩ := vj a (by omega)
                  obtain ⟨x7, x8⟩ := vj b (by omega)
                  refine ⟨by omega, by omega, by omega, by omega, by omega, by omega, by omega, by omega, by omega, by omega, fork_intro (fun hc => ?_) (fun hc => ?_)⟩
                  · have hz : metric d o.length = false := decide_eq_false (fun hz => by have := hz i (by omega) j (by omega) a (by omega) b (by omega); unfold metP at this; omega)
                    rw [hz]
                  · refine ⟨by omega, ?_⟩
                    refine LoopEnd.intro (b + 1) ⟨by omega, fun b' hb' => ?_⟩ (by omega) (Nat.zero_le _) ?_
                    · rcases Nat.lt_succ_iff_lt_or_eq.1 hb' with h | h
                      · exact tb b' h
                      · subst h; unfold metP; omega
                    · simp only [go_sem]
                      repeat' (first | refine fork_intro (fun hb => ?_) (fun hb => ?_) | refine partB_intro (fun hb => ?_) (fun hb => ?_) | refine And.intro ?_ ?_)
                      all_goals first | trivial | rfl | omega
                · refine ⟨by omega, ?_⟩
                  refine LoopEnd.intro (a + 1) ⟨by omega, fun a' ha' => ?_⟩ (by omega) (Nat.zero_le _) ?_
                  · rcases Nat.lt_succ_iff_lt_or_eq.1 ha' with h | h
                    · exact ta a' h
                    · subst h; have hq : b = o.length := by omega
                      exact hq ▸ tb
                  · simp only [go_sem]
                    repeat' (first | refine fork_intro (fun hb => ?_) (fun hb => ?_) | refine partB_intro (fun hb => ?_) (fun hb => ?_) | refine And.intro ?_ ?_)
                    all_goals first | trivial | rfl | omega
            · refine ⟨by omega, ?_⟩
              refine LoopEnd.intro (j + 1) ⟨by omega, fun j' hj' => ?_⟩ (by omega) (Nat.zero_le _) ?_
              · rcases Nat.lt_succ_iff_lt_or_eq.1 hj' with h | h
                · exact tj j' h
                · subst h; have hq : a = o.length := by omega
                  exact hq ▸ ta
              · simp only [go_sem]
                repeat' (first | refine fork_intro (fun hb => ?_) (fun hb => ?_) | refine partB_intro (fun hb => ?_) (fun hb => ?_) | refine And.intro ?_ ?_)
                all_goals first | trivial | rfl | omega
        · refine ⟨by omega, ?_⟩
          refine LoopEnd.intro (i + 1) ⟨by omega, fun i' hi' => ?_⟩ (by omega) (Nat.zero_le _) ?_
          · rcases Nat.lt_succ_iff_lt_or_eq.1 hi' with h | h
            · exact ti i' h
            · subst h; have hq : j = d.length := by omega
              exact hq ▸ tj
          · simp only [go_sem]
            repeat' (first | refine fork_intro (fun hb => ?_) (fun hb => ?_) | refine partB_intro (fun hb => ?_) (fun hb => ?_) | refine And.intro ?_ ?_)
            all_goals first | trivial | rfl | omega
    · have hz : metric d o.length = true := decide_eq_true (by rw [show d.length = i by omega]; exact (show d.length = i by omega) ▸ ti)
      rw [hz]
def t_metS : Table := [(32, pureC g_metS)]
theorem t_metS_ok : TabOK Tryz.prog t_metS := .cons Tryz.func32 (by kernel_rfl) (.pure (by intro args hp; unfold g_metS at hp ⊢; split at hp <;> first | exact hp.elim | exact metS_ok _ _ hp)) (.nil _)
attribute [go_sem] g_metS_eq t_metS
def g_metI : List AV -> Prop × AV
  | [.agg [.ints o, .rows d]] => (o.length <= 1048576000 /\ d.length <= 1048576000 /\ ∀ x ∈ d, x.length <= 1048576000, .tup [.bool (good o d && metric d o.length), .bool (good o d)])
  | _ => (False, .undef)
theorem g_metI_eq (o : List Int) (d : List (List Int)) : g_metI [.agg [.ints o, .rows d]] = (o.length <= 1048576000 /\ d.length <= 1048576000 /\ ∀ x ∈ d, x.length <= 1048576000, .tup [.bool (good o d && metric d o.length), .bool (good o d)]) := (rfl)
theorem metI_ok (o : List Int) (d : List (List Int)) (hp : o.length <= 1048576000 /\ d.length <= 1048576000 /\ ∀ x ∈ d, x.length <= 1048576000) : SpecOK Tryz.prog 9 [.agg [.ints o, .rows d]] (.tup [.bool (good o d && metric d o.length), .bool (good o d)]) [] := by
  refine fun_ok (C := t_isF) (hint := hintX [] [] 0 [] [] [] []) (t_isF_ok) mixed Tryz.func9 rfl (by kernel_rfl) rfl ?_
  show codeA _ _ _ _ _ _ _ _
  simp only [go_sem, Tryz.results9]
  refine ⟨hp, partB_intro (fun hg => ?_) (fun hg => ?_)⟩
  rotate_left
  · rw [hg]; exact ⟨rfl, rfl⟩
  rw [hg]
  have hp := good_iff.1 hg
  have hn := hp.n7
  have hm := hp.m7
  refine loop_intro (fun i : Nat => [(14, .rows d), (15, .int .i64 d.length), (16, .int .i64 i), (1, .iptr [.ints o, .rows d])]) (fun _ => []) 0 (fun i => i <= d.length /\ ∀ i', i' < i -> ∀ j, j < d.length -> ∀ a, a < o.length -> ∀ b, b < o.length -> metP d i' j a b) (fun i => d.length - i) 0 ⟨Nat.zero_le _, fun i' h => absurd h (Nat.not_lt_zero _)⟩ (Nat.zero_le _) ?_ ?_
  · simp only [go_sem]
    repeat' (first | refine fork_intro (fun hb => ?_) (fun hb => ?_) | refine partB_intro (fun hb => ?_) (fun hb => ?_) | refine And.intro ?_ ?_)
    all_goals first | trivial | rfl | omega
  · rintro i ⟨hi, ti⟩
    simp only [go_sem]
    refine fork_intro (fun bi => ?_) (fun bi => ?_)
    · obtain ⟨li, vi⟩ := row_of hp (k := i) (by omega)
      refine ⟨by omega, ?_⟩
      refine loop_intro (fun j : Nat => [(5, .ints (ix d i)), (21, .rows d), (22, .int .i64 d.length), (23, .int .i64 j), (14, .rows d), (15, .int .i64 d.length), (16, .int .i64 i), (1, .iptr [.ints o, .rows d])]) (fun _ => []) 0 (fun j => j <= d.length /\ ∀ j', j' < j -> ∀ a, a < o.length -> ∀ b, b < o.length -> metP d i j' a b) (fun j => d.length - j) 0 ⟨Nat.zero_le _, fun i' h => absurd h (Nat.not_lt_zero _)⟩ (Nat.zero_le _) ?_ ?_
      · simp only [go_sem]
        repeat' (first | refine fork_intro (fun hb => ?_) (fun hb => ?_) | refine partB_intro (fun hb => ?_) (fun hb => ?_) | refine And.intro ?_ ?_)
        all_goals first | trivial | rfl | omega
      · rintro j ⟨hj, tj⟩
        simp only [go_sem]
        refine fork_intro (fun bj => ?_) (fun bj => ?_)
        · obtain ⟨lj, vj⟩ := row_of hp (k := j) (by omega)
          refine ⟨by omega, ?_⟩
          refine loop_intro (fun a : Nat => [(7, .ints (ix d j)), (28, .ints o), (29, .int .i64 o.length), (30, .int .i64 a), (5, .ints (ix d i)), (21, .rows d), (22, .int .i64 d.length), (23, .int .i64 j), (14, .rows d), (15, .int .i64 d.length), (16, .int .i64 i), (1, .iptr [.ints o, .rows d])]) (fun _ => []) 0 (fun a => a <= o.length /\ ∀ a', a' < a -> ∀ b, b < o.length -> metP d i j a' b) (fun a => o.length - a) 0 ⟨Nat.zero_le _, fun i' h => absurd h (Nat.not_lt_zero _)⟩ (Nat.zero_le _) ?_ ?_
          · simp only [go_sem]
            repeat' (first | refine fork_intro (fun hb => ?_) (fun hb => ?_) | refine partB_intro (fun hb => ?_) (fun hb => ?_) | refine And.intro ?_ ?_)
            all_goals first | trivial | rfl | omega
          · rintro a ⟨ha, ta⟩
            simp only [go_sem]
            refine fork_intro (fun ba => ?_) (fun ba => ?_)
            · skip
              refine loop_intro (fun b : Nat => [(8, .int .i64 a), (34, .ints o), (35, .int .i64 o.length), (36, .int .i64 b), (7, .ints (ix d j)), (28, .ints o), (29, .int .i64 o.length), (30, .int .i64 a), (5, .ints (ix d i)), (21, .rows d), (22, .int .i64 d.length), (23, .int .i64 j), (14, .rows d), (15, .int .i64 d.length), (16, .int .i64 i), (1, .iptr [.ints o, .rows d])]) (fun _ => []) 0 (fun b => b <= o.length /\ ∀ b', b' < b -> metP d i j a b') (fun b => o.length - b) 0 ⟨Nat.zero_le _, fun i' h => absurd h (Nat.not_lt_zero _)⟩ (Nat.zero_le _) ?_ ?_
              · simp only [go_sem]
                repeat' (first | refine fork_intro (fun hb => ?_) (fun hb => ?_) | refine partB_intro (fun hb => ?_) (fun hb => ?_) | refine And.intro ?_ ?_)
                all_goals first | trivial | rfl | omega
              · rintro b ⟨hb, tb⟩
                simp only [go_sem]
                refine fork_intro (fun bb => ?_) (fun bb => ?_)
                · obtain ⟨x1, x2⟩ := vi a (by omega)
                  obtain ⟨x3, x4⟩ := vi b (by omega)
                  obtain ⟨x5, x6⟩ := vj a (by omega)
                  obtain ⟨x7, x8⟩ := vj b (by omega)
                  refine ⟨by omega, by omega, by omega, by omega, by omega, by omega, fork_intro (fun hc => ?_) (fun hc => ?_)⟩
                  · have hz : metric d o.length = false := decide_eq_false (fun hz => by have := hz i (by omega) j (by omega) a (by omega) b (by omega); unfold metP at this; omega)
                    rw [hz]
                  · refine ⟨by omega, ?_⟩
                    refine LoopEnd.intro (b + 1) ⟨by omega, fun b' hb' => ?_⟩ (by omega) (Nat.zero_le _) ?_
                    · rcases Nat.lt_succ_iff_lt_or_eq.1 hb' with h | h
                      · exact tb b' h
                      · subst h; unfold metP; omega
                    · simp only [go_sem]
                      repeat' (first | refine fork_intro (fun hb => ?_) (fun hb => ?_) | refine partB_intro (fun hb => ?_) (fun hb => ?_) | refine And.intro ?_ ?_)
                      all_goals first | trivial | rfl | omega
                · refine ⟨by omega, ?_⟩
                  refine LoopEnd.intro (a + 1) ⟨by omega, fun a' ha' => ?_⟩ (by omega) (Nat.zero_le _) ?_
                  · rcases Nat.lt_succ_iff_lt_or_eq.1 ha' with h | h
                    · exact ta a' h
                    · subst h; have hq : b = o.length := by omega
                      exact hq ▸ tb
                  · simp only [go_sem]
                    repeat' (first | refine fork_intro (fun hb => ?_) (fun hb => ?_) | refine partB_intro (fun hb => ?_) (fun hb => ?_) | refine And.intro ?_ ?_)
                    all_goals first | trivial | rfl | omega
            · refine ⟨by omega, ?_⟩
              refine LoopEnd.intro (j + 1) ⟨by omega, fun j' hj' => ?_⟩ (by omega) (Nat.zero_le _) ?_
              · rcases Nat.lt_succ_iff_lt_or_eq.1 hj' with h | h
                · exact tj j' h
                · subst h; have hq : a = o.length := by omega
                  exact hq ▸ ta
              · simp only [go_sem]
                repeat' (first | refine fork_intro (fun hb => ?_) (fun hb => ?_) | refine partB_intro (fun hb => ?_) (fun hb => ?_) | refine And.intro ?_ ?_)
                all_goals first | trivial | rfl | omega
        · refine ⟨by omega, ?_⟩
          refine LoopEnd.intro (i + 1) ⟨by omega, fun i' hi' => ?_⟩ (by omega) (Nat.zero_le _) ?_
          · rcases Nat.lt_succ_iff_lt_or_eq.1 hi' with h | h
            · exact ti i' h
            · subst h; have hq : j = d.length := by omega
              exact hq ▸ tj
          · simp only [go_sem]
            repeat' (first | refine fork_intro (fun hb => ?_) (fun hb => ?_) | refine partB_intro (fun hb => ?_) (fun hb => ?_) | refine And.intro ?_ ?_)
            all_goals first | trivial | rfl | omega
    · have hz : metric d o.length = true := decide_eq_true (by rw [show d.length = i by omega]; exact (show d.length = i by omega) ▸ ti)
      rw [hz]
def t_metI : Table := [(9, pureC g_metI)]
theorem t_metI_ok : TabOK Tryz.prog t_metI := .cons Tryz.func9 (by kernel_rfl) (.pure (by intro args hp; unfold g_metI at hp ⊢; split at hp <;> first | exact hp.elim | exact metI_ok _ _ hp)) (.nil _)
attribute [go_sem] g_metI_eq t_metI
def g_metSpec : List AV -> Prop × AV
  | [.agg [.ints o, .rows d]] => (o.length <= 1048576000 /\ d.length <= 1048576000 /\ ∀ x ∈ d, x.length <= 1048576000, .tup [.bool (good o d && metric d o.length), .bool (good o d)])
  | _ => (False, .undef)
theorem g_metSpec_eq (o : List Int) (d : List (List Int)) : g_metSpec [.agg [.ints o, .rows d]] = (o.length <= 1048576000 /\ d.length <= 1048576000 /\ ∀ x ∈ d, x.length <= 1048576000, .tup [.bool (good o d && metric d o.length), .bool (good o d)]) := (rfl)
theorem metSpec_ok (o : List Int) (d : List (List Int)) (hp : o.length <= 1048576000 /\ d.length <= 1048576000 /\ ∀ x ∈ d, x.length <= 1048576000) : SpecOK Tryz.prog 10 [.agg [.ints o, .rows d]] (.tup [.bool (good o d && metric d o.length), .bool (good o d)]) [] := by
  refine fun_ok (C := t_l2Good ++ t_metS) (hint := hintX [] [] 0 [] [] [] []) ((t_l2Good_ok).append t_metS_ok) mixed Tryz.func10 rfl (by kernel_rfl) rfl ?_
  show codeA _ _ _ _ _ _ _ _
  simp only [go_sem, Tryz.results10]
  refine ⟨hp, partB_intro (fun hg => ?_) (fun hg => ?_)⟩
  · exact ⟨good_iff.1 hg, by rw [hg]; exact ⟨rfl, rfl⟩⟩
  · rw [hg]; exact ⟨rfl, rfl⟩
def t_metSpec : Table := [(10, pureC g_metSpec)]
theorem t_metSpec_ok : TabOK Tryz.prog t_metSpec := .cons Tryz.func10 (by kernel_rfl) (.pure (by intro args hp; unfold g_metSpec at hp ⊢; split at hp <;> first | exact hp.elim | exact metSpec_ok _ _ hp)) (.nil _)
attribute [go_sem] g_metSpec_eq t_metSpec
end Go.Proofs.YteefjdbdknkcjaaGreatDoor
