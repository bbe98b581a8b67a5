/- Service, reach, total: both packages say the same. -/
import Derived.Test.YtgcbdpehnonghaaA5
import Derived.Test.YtgcbdpehnonghaaA6
namespace Go.Proofs.Ytgcbdpehnonghaa
open Go.Vc
set_option maxRecDepth 100000
set_option linter.unusedSimpArgs false
set_option linter.unusedVariables false

def g_siteS : List AV -> Prop × AV
  | [.agg [.ints o, .rows d], .int .i64 i, .ints set] => (OpenOK o d set /\ 0 <= i /\ i < d.length, .int .i64 (srv (ix d i) set))
  | _ => (False, .undef)
theorem g_siteS_eq (o : List Int) (d : List (List Int)) (i : Int) (set : List Int) : g_siteS [.agg [.ints o, .rows d], .int .i64 i, .ints set] = (OpenOK o d set /\ 0 <= i /\ i < d.length, .int .i64 (srv (ix d i) set)) := (rfl)
theorem siteS_ok (o : List Int) (d : List (List Int)) (i : Int) (set : List Int) (hp : OpenOK o d set /\ 0 <= i /\ i < d.length) : SpecOK Try.prog 98 [.agg [.ints o, .rows d], .int .i64 i, .ints set] (.int .i64 (srv (ix d i) set)) [] := by
  refine fun_ok (C := []) (hint := hintX [] [] 0 [] [] [] []) (TabOK.nil _) mixed Try.func98 rfl (by kernel_rfl) rfl ?_
  show codeA _ _ _ _ _ _ _ _
  simp only [go_sem, Try.results98]
  obtain ⟨h, h0, h1⟩ := hp
  have hpos := h.pos
  have hlen := h.len
  have hrow := h.f.d_len h0 h1
  refine ⟨by omega, ?_⟩
  refine loop_intro (fun k : Nat => [(7, .int .i64 (srvF (ix d i) (ix set 0) (set.take k))), (8, .int .i64 k), (1, .int .i64 i), (2, .ints set), (3, .iptr [.ints o, .rows d])]) (fun _ => []) 0 (fun k => 1 <= k /\ k <= set.length) (fun k => set.length - k) 1 (by omega) (by omega) ?_ ?_
  · have e := srvF_take (ix d i) set (ix set 0) hpos
    rw [Int.natCast_zero, List.take_zero, show srvF (ix d i) (ix set 0) [] = ix set 0 from rfl, ite_self] at e
    simp only [go_sem]
    repeat' (first | refine fork_intro (fun hb => ?_) (fun hb => ?_) | refine partB_intro (fun hb => ?_) (fun hb => ?_) | refine And.intro ?_ ?_)
    all_goals first | exact True.intro | omega | with_reducible rfl | exact congrArg (AV.int _) (by omega) | (first | rw [e])
  · rintro k ⟨hk, hk2⟩
    have hb := h.take (ix d i) k
    simp only [go_sem]
    refine fork_intro (fun hc => ?_) (fun hc => ?_)
    · have e := srvF_take (ix d i) set (ix set 0) (k := k) (by omega)
      have hx := h.xin k (by omega)
      refine ⟨by omega, by omega, by omega, by omega, by omega, fork_intro (fun hd => ?_) (fun hd => ?_)⟩
      · rw [if_pos hd] at e
        repeat' (first | refine fork_intro (fun hb => ?_) (fun hb => ?_) | refine partB_intro (fun hb => ?_) (fun hb => ?_) | refine And.intro ?_ ?_)
        all_goals first | exact True.intro | omega | with_reducible rfl | exact congrArg (AV.int _) (by omega) | (refine LoopEnd.intro (k + 1) (by first | omega) (by first | omega | (dsimp only; omega)) (by omega) ?_; simp only [go_sem]; (repeat' (first | refine fork_intro (fun hb => ?_) (fun hb => ?_) | refine partB_intro (fun hb => ?_) (fun hb => ?_) | refine And.intro ?_ ?_)); all_goals first | exact True.intro | omega | with_reducible rfl | exact congrArg (AV.int _) (by omega) | (first | rw [e])) | (first | rw [e])
      · rw [if_neg hd] at e
        repeat' (first | refine fork_intro (fun hb => ?_) (fun hb => ?_) | refine partB_intro (fun hb => ?_) (fun hb => ?_) | refine And.intro ?_ ?_)
        all_goals first | exact True.intro | omega | with_reducible rfl | exact congrArg (AV.int _) (by omega) | (refine LoopEnd.intro (k + 1) (by first | omega) (by first | omega | (dsimp only; omega)) (by omega) ?_; simp only [go_sem]; (repeat' (first | refine fork_intro (fun hb => ?_) (fun hb => ?_) | refine partB_intro (fun hb => ?_) (fun hb => ?_) | refine And.intro ?_ ?_)); all_goals first | exact True.intro | omega | with_reducible rfl | exact congrArg (AV.int _) (by omega) | (first | rw [e])) | (first | rw [e])
    · rw [show k = set.length by omega, List.take_length]; rfl
def t_siteS : Table := [(98, pureC g_siteS)]
theorem t_siteS_ok : TabOK Try.prog t_siteS := .cons Try.func98 (by kernel_rfl) (.pure (by intro args hp; unfold g_siteS at hp ⊢; split at hp <;> first | exact hp.elim | exact siteS_ok _ _ _ _ hp)) (.nil _)
attribute [go_sem] g_siteS_eq t_siteS
def g_nearS : List AV -> Prop × AV
  | [.agg [.ints o, .rows d], .int .i64 i, .ints set] => (OpenOK o d set /\ 0 <= i /\ i < d.length, .int .i64 (near (ix d i) set))
  | _ => (False, .undef)
theorem g_nearS_eq (o : List Int) (d : List (List Int)) (i : Int) (set : List Int) : g_nearS [.agg [.ints o, .rows d], .int .i64 i, .ints set] = (OpenOK o d set /\ 0 <= i /\ i < d.length, .int .i64 (near (ix d i) set)) := (rfl)
theorem nearS_ok (o : List Int) (d : List (List Int)) (i : Int) (set : List Int) (hp : OpenOK o d set /\ 0 <= i /\ i < d.length) : SpecOK Try.prog 85 [.agg [.ints o, .rows d], .int .i64 i, .ints set] (.int .i64 (near (ix d i) set)) [] := by
  refine fun_ok (C := t_siteS) (hint := hintX [] [] 0 [] [] [] []) (t_siteS_ok) mixed Try.func85 rfl (by kernel_rfl) rfl ?_
  show codeA _ _ _ _ _ _ _ _
  simp only [go_sem, Try.results85]
  obtain ⟨h, h0, h1⟩ := hp
  have hrow := h.f.d_len h0 h1
  have hs := h.srv (ix d i)
  repeat' (first | refine fork_intro (fun hb => ?_) (fun hb => ?_) | refine partB_intro (fun hb => ?_) (fun hb => ?_) | refine And.intro ?_ ?_)
  all_goals first | exact True.intro | omega | with_reducible rfl | exact congrArg (AV.int _) (by omega) | (first | exact ⟨h, h0, h1⟩ | exact h | rfl)
def t_nearS : Table := [(85, pureC g_nearS)]
theorem t_nearS_ok : TabOK Try.prog t_nearS := .cons Try.func85 (by kernel_rfl) (.pure (by intro args hp; unfold g_nearS at hp ⊢; split at hp <;> first | exact hp.elim | exact nearS_ok _ _ _ _ hp)) (.nil _)
attribute [go_sem] g_nearS_eq t_nearS
def g_serveS : List AV -> Prop × AV
  | [.agg [.ints o, .rows d], .ints set] => (OpenOK o d set, .int .i64 (svc d set))
  | _ => (False, .undef)
theorem g_serveS_eq (o : List Int) (d : List (List Int)) (set : List Int) : g_serveS [.agg [.ints o, .rows d], .ints set] = (OpenOK o d set, .int .i64 (svc d set)) := (rfl)
theorem serveS_ok (o : List Int) (d : List (List Int)) (set : List Int) (hp : OpenOK o d set) : SpecOK Try.prog 75 [.agg [.ints o, .rows d], .ints set] (.int .i64 (svc d set)) [] := by
  refine fun_ok (C := t_nearS) (hint := hintX [] [] 0 [] [] [] []) (t_nearS_ok) mixed Try.func75 rfl (by kernel_rfl) rfl ?_
  show codeA _ _ _ _ _ _ _ _
  simp only [go_sem, Try.results75]
  have hm := hp.f.m7
  refine loop_intro (fun i : Nat => [(5, .int .i64 (sumN (fun i => near (ix d (i : Int)) set) i)), (6, .int .i64 i), (1, .ints set), (2, .iptr [.ints o, .rows d])]) (fun _ => []) 0 (fun i => i <= d.length) (fun i => d.length - i) 0 (by omega) (by omega) ?_ ?_
  · simp only [go_sem]
    repeat' (first | refine fork_intro (fun hb => ?_) (fun hb => ?_) | refine partB_intro (fun hb => ?_) (fun hb => ?_) | refine And.intro ?_ ?_)
    all_goals first | exact True.intro | omega | with_reducible rfl | exact congrArg (AV.int _) (by omega) | (first | rfl)
  · intro i hi
    have hb := hp.svc hi
    simp only [go_sem]
    refine fork_intro (fun hc => ?_) (fun hc => ?_)
    · have hn := hp.near (i := (i : Int)) (by omega) (by omega)
      have e : sumN (fun i => near (ix d (i : Int)) set) (i + 1) = sumN (fun i => near (ix d (i : Int)) set) i + near (ix d (i : Int)) set := rfl
      refine ⟨⟨hp, by omega, by omega⟩, ?_⟩
      repeat' (first | refine fork_intro (fun hb => ?_) (fun hb => ?_) | refine partB_intro (fun hb => ?_) (fun hb => ?_) | refine And.intro ?_ ?_)
      all_goals first | exact True.intro | omega | with_reducible rfl | exact congrArg (AV.int _) (by omega) | (refine LoopEnd.intro (i + 1) (by first | omega) (by first | omega | (dsimp only; omega)) (by omega) ?_; simp only [go_sem]; (repeat' (first | refine fork_intro (fun hb => ?_) (fun hb => ?_) | refine partB_intro (fun hb => ?_) (fun hb => ?_) | refine And.intro ?_ ?_)); all_goals first | exact True.intro | omega | with_reducible rfl | exact congrArg (AV.int _) (by omega))
    · rw [show i = d.length by omega]; rfl
def t_serveS : Table := [(75, pureC g_serveS)]
theorem t_serveS_ok : TabOK Try.prog t_serveS := .cons Try.func75 (by kernel_rfl) (.pure (by intro args hp; unfold g_serveS at hp ⊢; split at hp <;> first | exact hp.elim | exact serveS_ok _ _ _ hp)) (.nil _)
attribute [go_sem] g_serveS_eq t_serveS
def g_totalS : List AV -> Prop × AV
  | [.agg [.ints o, .rows d], .ints set] => (OpenOK o d set, .int .i64 (total o d set))
  | _ => (False, .undef)
theorem g_totalS_eq (o : List Int) (d : List (List Int)) (set : List Int) : g_totalS [.agg [.ints o, .rows d], .ints set] = (OpenOK o d set, .int .i64 (total o d set)) := (rfl)
theorem totalS_ok (o : List Int) (d : List (List Int)) (set : List Int) (hp : OpenOK o d set) : SpecOK Try.prog 63 [.agg [.ints o, .rows d], .ints set] (.int .i64 (total o d set)) [] := by
  refine fun_ok (C := t_serveS ++ t_payS) (hint := hintX [] [] 0 [] [] [] []) ((t_serveS_ok).append t_payS_ok) mixed Try.func63 rfl (by kernel_rfl) rfl ?_
  show codeA _ _ _ _ _ _ _ _
  simp only [go_sem, Try.results63]
  have h1 := hp.svc (Nat.le_refl _)
  have h2 := hp.pay.bd (Nat.le_refl _)
  rw [List.take_length] at h2
  have e1 : sumN (fun i => near (ix d (i : Int)) set) d.length = svc d set := rfl
  have e2 : total o d set = pay o set + svc d set := rfl
  repeat' (first | refine fork_intro (fun hb => ?_) (fun hb => ?_) | refine partB_intro (fun hb => ?_) (fun hb => ?_) | refine And.intro ?_ ?_)
  all_goals first | exact True.intro | omega | with_reducible rfl | exact congrArg (AV.int _) (by omega) | (first | exact hp | exact hp.pay)
def t_totalS : Table := [(63, pureC g_totalS)]
theorem t_totalS_ok : TabOK Try.prog t_totalS := .cons Try.func63 (by kernel_rfl) (.pure (by intro args hp; unfold g_totalS at hp ⊢; split at hp <;> first | exact hp.elim | exact totalS_ok _ _ _ hp)) (.nil _)
attribute [go_sem] g_totalS_eq t_totalS
def g_serverI : List AV -> Prop × AV
  | [.agg [.ints o, .rows d], .int .i64 i, .ints set] => (OpenOK o d set /\ 0 <= i /\ i < d.length, .int .i64 (srv (ix d i) set))
  | _ => (False, .undef)
theorem g_serverI_eq (o : List Int) (d : List (List Int)) (i : Int) (set : List Int) : g_serverI [.agg [.ints o, .rows d], .int .i64 i, .ints set] = (OpenOK o d set /\ 0 <= i /\ i < d.length, .int .i64 (srv (ix d i) set)) := (rfl)
theorem serverI_ok (o : List Int) (d : List (List Int)) (i : Int) (set : List Int) (hp : OpenOK o d set /\ 0 <= i /\ i < d.length) : SpecOK Try.prog 104 [.agg [.ints o, .rows d], .int .i64 i, .ints set] (.int .i64 (srv (ix d i) set)) [] := by
  refine fun_ok (C := []) (hint := hintX [] [] 0 [] [] [] []) (TabOK.nil _) mixed Try.func104 rfl (by kernel_rfl) rfl ?_
  show codeA _ _ _ _ _ _ _ _
  simp only [go_sem, Try.results104]
  obtain ⟨h, h0, h1⟩ := hp
  have hpos := h.pos
  have hlen := h.len
  have hrow := h.f.d_len h0 h1
  refine ⟨by omega, ?_⟩
  refine loop_intro (fun k : Nat => [(7, .int .i64 (srvF (ix d i) (ix set 0) (set.take k))), (13, .ints set), (14, .int .i64 set.length), (15, .int .i64 k), (1, .int .i64 i), (3, .iptr [.ints o, .rows d])]) (fun _ => []) 0 (fun k => k <= set.length) (fun k => set.length - k) 0 (by omega) (by omega) ?_ ?_
  · simp only [go_sem]
    repeat' (first | refine fork_intro (fun hb => ?_) (fun hb => ?_) | refine partB_intro (fun hb => ?_) (fun hb => ?_) | refine And.intro ?_ ?_)
    all_goals first | exact True.intro | omega | with_reducible rfl | exact congrArg (AV.int _) (by omega) | (first | rfl)
  · intro k hk2
    have hb := h.take (ix d i) k
    simp only [go_sem]
    refine fork_intro (fun hc => ?_) (fun hc => ?_)
    · have e := srvF_take (ix d i) set (ix set 0) (k := k) (by omega)
      have hx := h.xin k (by omega)
      refine ⟨by omega, by omega, by omega, by omega, by omega, fork_intro (fun hd => ?_) (fun hd => ?_)⟩
      · rw [if_pos hd] at e
        repeat' (first | refine fork_intro (fun hb => ?_) (fun hb => ?_) | refine partB_intro (fun hb => ?_) (fun hb => ?_) | refine And.intro ?_ ?_)
        all_goals first | exact True.intro | omega | with_reducible rfl | exact congrArg (AV.int _) (by omega) | (refine LoopEnd.intro (k + 1) (by first | omega) (by first | omega | (dsimp only; omega)) (by omega) ?_; simp only [go_sem]; (repeat' (first | refine fork_intro (fun hb => ?_) (fun hb => ?_) | refine partB_intro (fun hb => ?_) (fun hb => ?_) | refine And.intro ?_ ?_)); all_goals first | exact True.intro | omega | with_reducible rfl | exact congrArg (AV.int _) (by omega) | (first | rw [e])) | (first | rw [e])
      · rw [if_neg hd] at e
        repeat' (first | refine fork_intro (fun hb => ?_) (fun hb => ?_) | refine partB_intro (fun hb => ?_) (fun hb => ?_) | refine And.intro ?_ ?_)
        all_goals first | exact True.intro | omega | with_reducible rfl | exact congrArg (AV.int _) (by omega) | (refine LoopEnd.intro (k + 1) (by first | omega) (by first | omega | (dsimp only; omega)) (by omega) ?_; simp only [go_sem]; (repeat' (first | refine fork_intro (fun hb => ?_) (fun hb => ?_) | refine partB_intro (fun hb => ?_) (fun hb => ?_) | refine And.intro ?_ ?_)); all_goals first | exact True.intro | omega | with_reducible rfl | exact congrArg (AV.int _) (by omega) | (first | rw [e])) | (first | rw [e])
    · rw [show k = set.length by omega, List.take_length]; rfl
def t_serverI : Table := [(104, pureC g_serverI)]
theorem t_serverI_ok : TabOK Try.prog t_serverI := .cons Try.func104 (by kernel_rfl) (.pure (by intro args hp; unfold g_serverI at hp ⊢; split at hp <;> first | exact hp.elim | exact serverI_ok _ _ _ _ hp)) (.nil _)
attribute [go_sem] g_serverI_eq t_serverI
def g_servedI : List AV -> Prop × AV × Heap
  | [.agg [.ints o, .rows d], .ints set] => (OpenOK o d set, .sl 0, [(0, .arr (.ints (servedL d set)))])
  | _ => (False, .undef, [])
theorem g_servedI_eq (o : List Int) (d : List (List Int)) (set : List Int) : g_servedI [.agg [.ints o, .rows d], .ints set] = (OpenOK o d set, .sl 0, [(0, .arr (.ints (servedL d set)))]) := (rfl)
theorem servedI_ok (o : List Int) (d : List (List Int)) (set : List Int) (hp : OpenOK o d set) : SpecOK Try.prog 96 [.agg [.ints o, .rows d], .ints set] (.sl 0) [(0, .arr (.ints (servedL d set)))] := by
  refine fun_ok (C := t_serverI) (hint := hintX [7] [] 0 [] [] [] []) (t_serverI_ok) mixed Try.func96 rfl (by kernel_rfl) rfl ?_
  show codeA _ _ _ _ _ _ _ _
  simp only [go_sem, Try.results96]
  have hm := hp.f.m7
  refine loop_intro (fun i : Nat => [(5, .sl 0), (10, .int .i64 d.length), (11, .int .i64 i), (1, .ints set), (2, .iptr [.ints o, .rows d])]) (fun i => [(0, .arr (.ints (tab i fun i => srv (ix d (i : Int)) set)))]) 1 (fun i => i <= d.length) (fun i => d.length - i) 0 (by omega) (by omega) ?_ ?_
  · simp only [go_sem]
    repeat' (first | refine fork_intro (fun hb => ?_) (fun hb => ?_) | refine partB_intro (fun hb => ?_) (fun hb => ?_) | refine And.intro ?_ ?_)
    all_goals first | exact True.intro | omega | with_reducible rfl | exact congrArg (AV.int _) (by omega) | (first | rfl)
  · intro i hi
    have hl : (tab i fun i => srv (ix d (i : Int)) set).length = i := tab_len _ _
    simp only [go_sem]
    refine fork_intro (fun hc => ?_) (fun hc => ?_)
    · have e := tab_succ i (fun i => srv (ix d (i : Int)) set)
      refine ⟨⟨hp, by omega, by omega⟩, ?_⟩
      repeat' (first | refine fork_intro (fun hb => ?_) (fun hb => ?_) | refine partB_intro (fun hb => ?_) (fun hb => ?_) | refine And.intro ?_ ?_)
      all_goals first | exact True.intro | omega | with_reducible rfl | exact congrArg (AV.int _) (by omega) | (refine LoopEnd.intro (i + 1) (by first | omega) (by first | omega | (dsimp only; omega)) (by omega) ?_; simp only [go_sem]; (repeat' (first | refine fork_intro (fun hb => ?_) (fun hb => ?_) | refine partB_intro (fun hb => ?_) (fun hb => ?_) | refine And.intro ?_ ?_)); all_goals first | exact True.intro | omega | with_reducible rfl | exact congrArg (AV.int _) (by omega) | (first | rw [e])) | (first | rw [e])
    · rw [show i = d.length by omega]; rfl
def t_servedI : Table := [(96, ownC g_servedI)]
theorem t_servedI_ok : TabOK Try.prog t_servedI := .cons Try.func96 (by kernel_rfl) (.own (by intro args hp; unfold g_servedI at hp ⊢; split at hp <;> first | exact hp.elim | exact ⟨servedI_ok _ _ _ hp, rfl⟩)) (.nil _)
attribute [go_sem] g_servedI_eq t_servedI
def g_lengthsI : List AV -> Prop × AV × Heap
  | [.agg [.ints o, .rows d], .ints set] => (OpenOK o d set, .sl 0, [(0, .arr (.ints (lengthsL d set)))])
  | _ => (False, .undef, [])
theorem g_lengthsI_eq (o : List Int) (d : List (List Int)) (set : List Int) : g_lengthsI [.agg [.ints o, .rows d], .ints set] = (OpenOK o d set, .sl 0, [(0, .arr (.ints (lengthsL d set)))]) := (rfl)
theorem lengthsI_ok (o : List Int) (d : List (List Int)) (set : List Int) (hp : OpenOK o d set) : SpecOK Try.prog 82 [.agg [.ints o, .rows d], .ints set] (.sl 0) [(0, .arr (.ints (lengthsL d set)))] := by
  refine fun_ok (C := t_servedI) (hint := hintX [8] [] 0 [] [] [] []) (t_servedI_ok) mixed Try.func82 rfl (by kernel_rfl) rfl ?_
  show codeA _ _ _ _ _ _ _ _
  simp only [go_sem, Try.results82]
  have hm := hp.f.m7
  have hsl : (servedL d set).length = d.length := tab_len _ _
  refine ⟨hp, ?_⟩
  refine loop_intro (fun i : Nat => [(5, .sl 0), (11, .ints (servedL d set)), (12, .int .i64 d.length), (13, .int .i64 i), (2, .iptr [.ints o, .rows d])]) (fun i => [(0, .arr (.ints (tab i fun i => near (ix d (i : Int)) set)))]) 1 (fun i => i <= d.length) (fun i => d.length - i) 0 (by omega) (by omega) ?_ ?_
  · simp only [go_sem]
    repeat' (first | refine fork_intro (fun hb => ?_) (fun hb => ?_) | refine partB_intro (fun hb => ?_) (fun hb => ?_) | refine And.intro ?_ ?_)
    all_goals first | exact True.intro | omega | with_reducible rfl | exact congrArg (AV.int _) (by omega) | (first | rfl | rw [hsl])
  · intro i hi
    have hl : (tab i fun i => near (ix d (i : Int)) set).length = i := tab_len _ _
    simp only [go_sem]
    refine fork_intro (fun hc => ?_) (fun hc => ?_)
    · have hrow := hp.f.d_len (k := (i : Int)) (by omega) (by omega)
      have hs := hp.srv (ix d (i : Int))
      have e1 : ix (servedL d set) (i : Int) = srv (ix d (i : Int)) set := tab_ix (by omega)
      have e := tab_succ i (fun i => near (ix d (i : Int)) set)
      rw [e1]
      repeat' (first | refine fork_intro (fun hb => ?_) (fun hb => ?_) | refine partB_intro (fun hb => ?_) (fun hb => ?_) | refine And.intro ?_ ?_)
      all_goals first | exact True.intro | omega | with_reducible rfl | exact congrArg (AV.int _) (by omega) | (refine LoopEnd.intro (i + 1) (by first | omega) (by first | omega | (dsimp only; omega)) (by omega) ?_; simp only [go_sem]; (repeat' (first | refine fork_intro (fun hb => ?_) (fun hb => ?_) | refine partB_intro (fun hb => ?_) (fun hb => ?_) | refine And.intro ?_ ?_)); all_goals first | exact True.intro | omega | with_reducible rfl | exact congrArg (AV.int _) (by omega) | (first | rw [e]; rfl)) | (first | rw [e]; rfl)
    · rw [show i = d.length by omega]; rfl
def t_lengthsI : Table := [(82, ownC g_lengthsI)]
theorem t_lengthsI_ok : TabOK Try.prog t_lengthsI := .cons Try.func82 (by kernel_rfl) (.own (by intro args hp; unfold g_lengthsI at hp ⊢; split at hp <;> first | exact hp.elim | exact ⟨lengthsI_ok _ _ _ hp, rfl⟩)) (.nil _)
attribute [go_sem] g_lengthsI_eq t_lengthsI
def g_sumI : List AV -> Prop × AV
  | [.ints xs] => (xs.length <= 1000000 /\ ∀ x ∈ xs, -1000000000 <= x /\ x <= 1000000000, .int .i64 xs.sum)
  | _ => (False, .undef)
theorem g_sumI_eq (xs : List Int) : g_sumI [.ints xs] = (xs.length <= 1000000 /\ ∀ x ∈ xs, -1000000000 <= x /\ x <= 1000000000, .int .i64 xs.sum) := (rfl)
theorem sumI_ok (xs : List Int) (hp : xs.length <= 1000000 /\ ∀ x ∈ xs, -1000000000 <= x /\ x <= 1000000000) : SpecOK Try.prog 81 [.ints xs] (.int .i64 xs.sum) [] := by
  refine fun_ok (C := []) (hint := hintX [] [] 0 [] [] [] []) (TabOK.nil _) mixed Try.func81 rfl (by kernel_rfl) rfl ?_
  show codeA _ _ _ _ _ _ _ _
  simp only [go_sem, Try.results81]
  obtain ⟨hl, hx⟩ := hp
  refine loop_intro (fun k : Nat => [(3, .int .i64 (xs.take k).sum), (6, .ints xs), (7, .int .i64 xs.length), (8, .int .i64 k)]) (fun _ => []) 0 (fun k => k <= xs.length /\ -1000000000 * (k : Int) <= (xs.take k).sum /\ (xs.take k).sum <= 1000000000 * (k : Int)) (fun k => xs.length - k) 0 (by simp) (by omega) ?_ ?_
  · simp only [go_sem]
    repeat' (first | refine fork_intro (fun hb => ?_) (fun hb => ?_) | refine partB_intro (fun hb => ?_) (fun hb => ?_) | refine And.intro ?_ ?_)
    all_goals first | exact True.intro | omega | with_reducible rfl | exact congrArg (AV.int _) (by omega) | (first | rfl)
  · rintro k ⟨hk, h1, h2⟩
    simp only [go_sem]
    refine fork_intro (fun hc => ?_) (fun hc => ?_)
    · have e := sum_take xs (k := k) (by omega)
      have hb := hx _ (ix_mem xs (k := k) (by omega))
      repeat' (first | refine fork_intro (fun hb => ?_) (fun hb => ?_) | refine partB_intro (fun hb => ?_) (fun hb => ?_) | refine And.intro ?_ ?_)
      all_goals first | exact True.intro | omega | with_reducible rfl | exact congrArg (AV.int _) (by omega) | (refine LoopEnd.intro (k + 1) (by first | omega) (by first | omega | (dsimp only; omega)) (by omega) ?_; simp only [go_sem]; (repeat' (first | refine fork_intro (fun hb => ?_) (fun hb => ?_) | refine partB_intro (fun hb => ?_) (fun hb => ?_) | refine And.intro ?_ ?_)); all_goals first | exact True.intro | omega | with_reducible rfl | exact congrArg (AV.int _) (by omega))
    · rw [show k = xs.length by omega, List.take_length]
def t_sumI : Table := [(81, pureC g_sumI)]
theorem t_sumI_ok : TabOK Try.prog t_sumI := .cons Try.func81 (by kernel_rfl) (.pure (by intro args hp; unfold g_sumI at hp ⊢; split at hp <;> first | exact hp.elim | exact sumI_ok _ hp)) (.nil _)
attribute [go_sem] g_sumI_eq t_sumI
def g_serviceI : List AV -> Prop × AV
  | [.agg [.ints o, .rows d], .ints set] => (OpenOK o d set, .int .i64 (svc d set))
  | _ => (False, .undef)
theorem g_serviceI_eq (o : List Int) (d : List (List Int)) (set : List Int) : g_serviceI [.agg [.ints o, .rows d], .ints set] = (OpenOK o d set, .int .i64 (svc d set)) := (rfl)
theorem serviceI_ok (o : List Int) (d : List (List Int)) (set : List Int) (hp : OpenOK o d set) : SpecOK Try.prog 67 [.agg [.ints o, .rows d], .ints set] (.int .i64 (svc d set)) [] := by
  refine fun_ok (C := t_lengthsI ++ t_sumI) (hint := hintX [] [] 0 [] [] [] []) ((t_lengthsI_ok).append t_sumI_ok) mixed Try.func67 rfl (by kernel_rfl) rfl ?_
  show codeA _ _ _ _ _ _ _ _
  simp only [go_sem, Try.results67]
  have hm := hp.f.m7
  have hl : (lengthsL d set).length = d.length := tab_len _ _
  refine ⟨hp, ⟨by omega, fun x hx => ?_⟩, ?_⟩
  · obtain ⟨k, hk, rfl⟩ := mem_tab.1 hx
    have := hp.near (i := (k : Int)) (by omega) (by omega)
    omega
  · rw [show (lengthsL d set).sum = svc d set from sum_tab _ _]
def t_serviceI : Table := [(67, pureC g_serviceI)]
theorem t_serviceI_ok : TabOK Try.prog t_serviceI := .cons Try.func67 (by kernel_rfl) (.pure (by intro args hp; unfold g_serviceI at hp ⊢; split at hp <;> first | exact hp.elim | exact serviceI_ok _ _ _ hp)) (.nil _)
attribute [go_sem] g_serviceI_eq t_serviceI
def g_totalI : List AV -> Prop × AV
  | [.agg [.ints o, .rows d], .ints set] => (OpenOK o d set, .int .i64 (total o d set))
  | _ => (False, .undef)
theorem g_totalI_eq (o : List Int) (d : List (List Int)) (set : List Int) : g_totalI [.agg [.ints o, .rows d], .ints set] = (OpenOK o d set, .int .i64 (total o d set)) := (rfl)
theorem totalI_ok (o : List Int) (d : List (List Int)) (set : List Int) (hp : OpenOK o d set) : SpecOK Try.prog 42 [.agg [.ints o, .rows d], .ints set] (.int .i64 (total o d set)) [] := by
  refine fun_ok (C := t_payI ++ t_serviceI) (hint := hintX [] [] 0 [] [] [] []) ((t_payI_ok).append t_serviceI_ok) mixed Try.func42 rfl (by kernel_rfl) rfl ?_
  show codeA _ _ _ _ _ _ _ _
  simp only [go_sem, Try.results42]
  have h1 := hp.svc (Nat.le_refl _)
  have h2 := hp.pay.bd (Nat.le_refl _)
  rw [List.take_length] at h2
  have e1 : sumN (fun i => near (ix d (i : Int)) set) d.length = svc d set := rfl
  have e2 : total o d set = pay o set + svc d set := rfl
  repeat' (first | refine fork_intro (fun hb => ?_) (fun hb => ?_) | refine partB_intro (fun hb => ?_) (fun hb => ?_) | refine And.intro ?_ ?_)
  all_goals first | exact True.intro | omega | with_reducible rfl | exact congrArg (AV.int _) (by omega) | (first | exact hp | exact hp.pay)
def t_totalI : Table := [(42, pureC g_totalI)]
theorem t_totalI_ok : TabOK Try.prog t_totalI := .cons Try.func42 (by kernel_rfl) (.pure (by intro args hp; unfold g_totalI at hp ⊢; split at hp <;> first | exact hp.elim | exact totalI_ok _ _ _ hp)) (.nil _)
attribute [go_sem] g_totalI_eq t_totalI
end Go.Proofs.Ytgcbdpehnonghaa
