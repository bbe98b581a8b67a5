/- Texts joined: A5 A9 A14 A8 PlB A16 PlD PlE A20b. -/
import Derived.Test.YteefjdbdknkcjaaGreatJ2
namespace Go.Proofs.YteefjdbdknkcjaaGreat
open Go.Vc
set_option maxRecDepth 100000
set_option linter.unusedSimpArgs false
set_option linter.unusedVariables false

def g_risI : List AV -> Prop × AV
  | [.ints xs, .int .i64 n] => (xs.length <= 1048576000 /\ 0 <= n /\ n <= 1048576000, .bool (ris 0 (n - 1) xs))
  | _ => (False, .undef)
theorem g_risI_eq (xs : List Int) (n : Int) : g_risI [.ints xs, .int .i64 n] = (xs.length <= 1048576000 /\ 0 <= n /\ n <= 1048576000, .bool (ris 0 (n - 1) xs)) := (rfl)
theorem risI_ok (xs : List Int) (n : Int) (hp : xs.length <= 1048576000 /\ 0 <= n /\ n <= 1048576000) : SpecOK Tryz.prog 68 [.ints xs, .int .i64 n] (.bool (ris 0 (n - 1) xs)) [] := by
  refine fun_ok (C := t_between) (hint := hintX [] [] 0 [] [] [] []) (t_between_ok) mixed Tryz.func68 rfl (by kernel_rfl) rfl ?_
  show codeA _ _ _ _ _ _ _ _
  simp only [go_sem, Tryz.results68]
  refine loop_intro (fun k : Nat => [(7, .ints xs), (8, .int .i64 xs.length), (9, .int .i64 k), (0, .ints xs), (1, .int .i64 n)]) (fun _ => []) 0 (fun k => k <= xs.length /\ ∀ k', k' < k -> (0 <= ix xs (k' : Int) /\ ix xs (k' : Int) <= n - 1) /\ (0 < k' -> ix xs ((k' : Int) - 1) < ix xs (k' : Int))) (fun k => xs.length - k) 0 ⟨Nat.zero_le _, fun i' h => absurd h (Nat.not_lt_zero _)⟩ (Nat.zero_le _) ?_ ?_
  · simp only [go_sem]
    repeat' (first | refine fork_intro (fun hb => ?_) (fun hb => ?_) | refine partB_intro (fun hb => ?_) (fun hb => ?_) | refine And.intro ?_ ?_)
    all_goals first | trivial | rfl | omega
  · rintro k ⟨hk, ht⟩
    simp only [go_sem]
    refine fork_intro (fun hb => ?_) (fun hb => ?_)
    · have hz : ∀ h : ¬((0 <= ix xs (k : Int) /\ ix xs (k : Int) <= n - 1) /\ (0 < k -> ix xs ((k : Int) - 1) < ix xs (k : Int))), ris 0 (n - 1) xs = false := fun h => decide_eq_false (fun hz => h (hz k (by omega)))
      have hs : ∀ h : ((0 <= ix xs (k : Int) /\ ix xs (k : Int) <= n - 1) /\ (0 < k -> ix xs ((k : Int) - 1) < ix xs (k : Int))), ∀ k', k' < k + 1 -> (0 <= ix xs (k' : Int) /\ ix xs (k' : Int) <= n - 1) /\ (0 < k' -> ix xs ((k' : Int) - 1) < ix xs (k' : Int)) := by
        intro h k' hk'
        rcases Nat.lt_succ_iff_lt_or_eq.1 hk' with h' | h'
        · exact ht k' h'
        · subst h'; exact h
      refine ⟨by omega, by omega, fork_intro (fun h1 => fork_intro (fun h2 => ⟨by omega, by omega, fork_intro (fun h3 => ?_) (fun h3 => ⟨by omega, ?_⟩)⟩) (fun h2 => ⟨by omega, ?_⟩)) (fun h1 => ?_)⟩
      · rw [hz (by omega)]
      · refine LoopEnd.intro (k + 1) ⟨by omega, hs ⟨by omega, fun _ => by omega⟩⟩ (by omega) (Nat.zero_le _) ?_
        simp only [go_sem]
        repeat' (first | refine fork_intro (fun hb => ?_) (fun hb => ?_) | refine partB_intro (fun hb => ?_) (fun hb => ?_) | refine And.intro ?_ ?_)
        all_goals first | trivial | rfl | omega
      · refine LoopEnd.intro (k + 1) ⟨by omega, hs ⟨by omega, fun h => by omega⟩⟩ (by omega) (Nat.zero_le _) ?_
        simp only [go_sem]
        repeat' (first | refine fork_intro (fun hb => ?_) (fun hb => ?_) | refine partB_intro (fun hb => ?_) (fun hb => ?_) | refine And.intro ?_ ?_)
        all_goals first | trivial | rfl | omega
      · rw [hz (by omega)]
    · rw [show ris 0 (n - 1) xs = true from decide_eq_true (fun k' hk' => ht k' (by omega))]
def t_risI : Table := [(68, pureC g_risI)]
theorem t_risI_ok : TabOK Tryz.prog t_risI := .cons Tryz.func68 (by kernel_rfl) (.pure (by intro args hp; unfold g_risI at hp ⊢; split at hp <;> first | exact hp.elim | exact risI_ok _ _ hp)) (.nil _)
attribute [go_sem] g_risI_eq t_risI
def g_payI : List AV -> Prop × AV
  | [.agg [.ints o, .rows d], .ints xs] => (PayOK o xs, .int .i64 (pay o xs))
  | _ => (False, .undef)
theorem g_payI_eq (o : List Int) (d : List (List Int)) (xs : List Int) : g_payI [.agg [.ints o, .rows d], .ints xs] = (PayOK o xs, .int .i64 (pay o xs)) := (rfl)
theorem payI_ok (o : List Int) (d : List (List Int)) (xs : List Int) (hp : PayOK o xs) : SpecOK Tryz.prog 69 [.agg [.ints o, .rows d], .ints xs] (.int .i64 (pay o xs)) [] := by
  refine fun_ok (C := []) (hint := hintX [] [] 0 [] [] [] []) (TabOK.nil _) mixed Tryz.func69 rfl (by kernel_rfl) rfl ?_
  show codeA _ _ _ _ _ _ _ _
  simp only [go_sem, Tryz.results69]
  have hl := hp.len
  refine loop_intro (fun k : Nat => [(5, .int .i64 (pay o (xs.take k))), (8, .ints xs), (9, .int .i64 xs.length), (10, .int .i64 k), (1, .ints xs), (2, .iptr [.ints o, .rows d])]) (fun _ => []) 0 (fun k => k <= xs.length) (fun k => xs.length - k) 0 (Nat.zero_le _) (Nat.zero_le _) ?_ ?_
  · simp only [go_sem]
    repeat' (first | refine fork_intro (fun hb => ?_) (fun hb => ?_) | refine partB_intro (fun hb => ?_) (fun hb => ?_) | refine And.intro ?_ ?_)
    all_goals first | trivial | rfl | omega
  · rintro k hk
    simp only [go_sem]
    refine fork_intro (fun hb => ?_) (fun hb => ?_)
    · have hx := hp.xin k (by omega)
      have hv := hp.o99 _ hx.1 hx.2
      have h1 := hp.bd hk
      refine ⟨by omega, by omega, by omega, by omega, ?_⟩
      refine LoopEnd.intro (k + 1) (by omega) (by omega) (Nat.zero_le _) ?_
      simp only [go_sem]
      rw [pay_take o xs (by omega)]
      repeat' (first | refine fork_intro (fun hb => ?_) (fun hb => ?_) | refine partB_intro (fun hb => ?_) (fun hb => ?_) | refine And.intro ?_ ?_)
      all_goals first | trivial | rfl | omega
    · rw [List.take_of_length_le (by omega)]
def t_payI : Table := [(69, pureC g_payI)]
theorem t_payI_ok : TabOK Tryz.prog t_payI := .cons Tryz.func69 (by kernel_rfl) (.pure (by intro args hp; unfold g_payI at hp ⊢; split at hp <;> first | exact hp.elim | exact payI_ok _ _ _ hp)) (.nil _)
attribute [go_sem] g_payI_eq t_payI
def g_payImp : List AV -> Prop × AV
  | [.agg [.ints o, .rows d], .ints xs] => ((o.length <= 1048576000 /\ d.length <= 1048576000 /\ ∀ x ∈ d, x.length <= 1048576000) /\ xs.length <= 1048576000, .tup [.int .i64 (if (good o d && ris 0 (o.length - 1) xs) = true then pay o xs else 0), .bool (good o d && ris 0 (o.length - 1) xs)])
  | _ => (False, .undef)
theorem g_payImp_eq (o : List Int) (d : List (List Int)) (xs : List Int) : g_payImp [.agg [.ints o, .rows d], .ints xs] = ((o.length <= 1048576000 /\ d.length <= 1048576000 /\ ∀ x ∈ d, x.length <= 1048576000) /\ xs.length <= 1048576000, .tup [.int .i64 (if (good o d && ris 0 (o.length - 1) xs) = true then pay o xs else 0), .bool (good o d && ris 0 (o.length - 1) xs)]) := (rfl)
theorem payImp_ok (o : List Int) (d : List (List Int)) (xs : List Int) (hp : (o.length <= 1048576000 /\ d.length <= 1048576000 /\ ∀ x ∈ d, x.length <= 1048576000) /\ xs.length <= 1048576000) : SpecOK Tryz.prog 24 [.agg [.ints o, .rows d], .ints xs] (.tup [.int .i64 (if (good o d && ris 0 (o.length - 1) xs) = true then pay o xs else 0), .bool (good o d && ris 0 (o.length - 1) xs)]) [] := by
  refine fun_ok (C := t_isF ++ t_risI ++ t_payI) (hint := hintX [] [] 0 [] [] [] []) (((t_isF_ok).append t_risI_ok).append t_payI_ok) mixed Tryz.func24 rfl (by kernel_rfl) rfl ?_
  show codeA _ _ _ _ _ _ _ _
  simp only [go_sem, Tryz.results24]
  refine ⟨hp.1, partB_intro (fun hg => ?_) (fun hg => ?_)⟩
  · refine ⟨⟨hp.2, by omega, by omega⟩, partB_intro (fun hr => ?_) (fun hr => ?_)⟩
    · refine ⟨payOK_of hg hr hp.2, ?_, ?_⟩ <;> simp [hg, hr]
    · refine ⟨?_, ?_⟩ <;> simp [hr]
  · refine ⟨?_, ?_⟩ <;> simp [hg]
def t_payImp : Table := [(24, pureC g_payImp)]
theorem t_payImp_ok : TabOK Tryz.prog t_payImp := .cons Tryz.func24 (by kernel_rfl) (.pure (by intro args hp; unfold g_payImp at hp ⊢; split at hp <;> first | exact hp.elim | exact payImp_ok _ _ _ hp)) (.nil _)
attribute [go_sem] g_payImp_eq t_payImp
end Go.Proofs.YteefjdbdknkcjaaGreat
namespace Go.Proofs.YteefjdbdknkcjaaGreat
open Go.Vc
set_option maxRecDepth 100000
set_option linter.unusedSimpArgs false
set_option linter.unusedVariables false

def g_isSetI : List AV -> Prop × AV
  | [.agg [.ints o, .rows d], .ints set] => (o.length <= 1048576000 /\ set.length <= 1048576000, .bool (ris 0 (o.length - 1) set && decide (0 < (set.length : Int))))
  | _ => (False, .undef)
theorem g_isSetI_eq (o : List Int) (d : List (List Int)) (set : List Int) : g_isSetI [.agg [.ints o, .rows d], .ints set] = (o.length <= 1048576000 /\ set.length <= 1048576000, .bool (ris 0 (o.length - 1) set && decide (0 < (set.length : Int)))) := (rfl)
theorem isSetI_ok (o : List Int) (d : List (List Int)) (set : List Int) (hp : o.length <= 1048576000 /\ set.length <= 1048576000) : SpecOK Tryz.prog 96 [.agg [.ints o, .rows d], .ints set] (.bool (ris 0 (o.length - 1) set && decide (0 < (set.length : Int)))) [] := by
  refine fun_ok (C := t_risI) (hint := hintX [] [] 0 [] [] [] []) (t_risI_ok) mixed Tryz.func96 rfl (by kernel_rfl) rfl ?_
  show codeA _ _ _ _ _ _ _ _
  simp only [go_sem, Tryz.results96]
  refine fork_intro (fun h => ⟨by omega, ?_⟩) (fun h => ?_)
  · rw [decide_eq_true h, Bool.and_true]
  · rw [decide_eq_false h, Bool.and_false]
def t_isSetI : Table := [(96, pureC g_isSetI)]
theorem t_isSetI_ok : TabOK Tryz.prog t_isSetI := .cons Tryz.func96 (by kernel_rfl) (.pure (by intro args hp; unfold g_isSetI at hp ⊢; split at hp <;> first | exact hp.elim | exact isSetI_ok _ _ _ hp)) (.nil _)
attribute [go_sem] g_isSetI_eq t_isSetI
def g_openI : List AV -> Prop × AV
  | [.agg [.ints o, .rows d], .ints set] => ((o.length <= 1048576000 /\ d.length <= 1048576000 /\ ∀ x ∈ d, x.length <= 1048576000) /\ set.length <= 1048576000, .bool (opened o d set))
  | _ => (False, .undef)
theorem g_openI_eq (o : List Int) (d : List (List Int)) (set : List Int) : g_openI [.agg [.ints o, .rows d], .ints set] = ((o.length <= 1048576000 /\ d.length <= 1048576000 /\ ∀ x ∈ d, x.length <= 1048576000) /\ set.length <= 1048576000, .bool (opened o d set)) := (rfl)
theorem openI_ok (o : List Int) (d : List (List Int)) (set : List Int) (hp : (o.length <= 1048576000 /\ d.length <= 1048576000 /\ ∀ x ∈ d, x.length <= 1048576000) /\ set.length <= 1048576000) : SpecOK Tryz.prog 70 [.agg [.ints o, .rows d], .ints set] (.bool (opened o d set)) [] := by
  refine fun_ok (C := t_isF ++ t_isSetI) (hint := hintX [] [] 0 [] [] [] []) ((t_isF_ok).append t_isSetI_ok) mixed Tryz.func70 rfl (by kernel_rfl) rfl ?_
  show codeA _ _ _ _ _ _ _ _
  simp only [go_sem, Tryz.results70]
  refine ⟨hp.1, partB_intro (fun hg => ⟨by omega, ?_⟩) (fun hg => ?_)⟩
  · rw [opened, hg]; rfl
  · rw [opened, hg]; rfl
def t_openI : Table := [(70, pureC g_openI)]
theorem t_openI_ok : TabOK Tryz.prog t_openI := .cons Tryz.func70 (by kernel_rfl) (.pure (by intro args hp; unfold g_openI at hp ⊢; split at hp <;> first | exact hp.elim | exact openI_ok _ _ _ hp)) (.nil _)
attribute [go_sem] g_openI_eq t_openI
def g_serverI : List AV -> Prop × AV
  | [.agg [.ints o, .rows d], .int .i64 i, .ints set] => (OpenOK o d set /\ 0 <= i /\ i < d.length, .int .i64 (srv (ix d i) set))
  | _ => (False, .undef)
theorem g_serverI_eq (o : List Int) (d : List (List Int)) (i : Int) (set : List Int) : g_serverI [.agg [.ints o, .rows d], .int .i64 i, .ints set] = (OpenOK o d set /\ 0 <= i /\ i < d.length, .int .i64 (srv (ix d i) set)) := (rfl)
theorem serverI_ok (o : List Int) (d : List (List Int)) (i : Int) (set : List Int) (hp : OpenOK o d set /\ 0 <= i /\ i < d.length) : SpecOK Tryz.prog 146 [.agg [.ints o, .rows d], .int .i64 i, .ints set] (.int .i64 (srv (ix d i) set)) [] := by
  refine fun_ok (C := []) (hint := hintX [] [] 0 [] [] [] []) (TabOK.nil _) mixed Tryz.func146 rfl (by kernel_rfl) rfl ?_
  show codeA _ _ _ _ _ _ _ _
  simp only [go_sem, Tryz.results146]
  obtain ⟨h, h0, h1⟩ := hp
  have hpos := h.pos
  have hlen := h.len
  have hrow := h.f.d_len h0 h1
  refine ⟨by omega, ?_⟩
  refine loop_intro (fun k : Nat => [(7, .int .i64 (srvF (ix d i) (ix set 0) (set.take k))), (13, .ints set), (14, .int .i64 set.length), (15, .int .i64 k), (1, .int .i64 i), (3, .iptr [.ints o, .rows d])]) (fun _ => []) 0 (fun k => k <= set.length) (fun k => set.length - k) 0 (by omega) (by omega) ?_ ?_
  · simp only [go_sem]
    repeat' (first | refine fork_intro (fun hb => ?_) (fun hb => ?_) | refine partB_intro (fun hb => ?_) (fun hb => ?_) | refine And.intro ?_ ?_)
    all_goals first | exact True.intro | omega | with_reducible rfl | exact congrArg (AV.int _) (by omega) | (first | rfl)
  · intro k hk2
    have hb := h.take (ix d i) k
    simp only [go_sem]
    refine fork_intro (fun hc => ?_) (fun hc => ?_)
    · have e := srvF_take (ix d i) set (ix set 0) (k := k) (by omega)
      have hx := h.xin k (by omega)
      refine ⟨by omega, by omega, by omega, by omega, by omega, fork_intro (fun hd => ?_) (fun hd => ?_)⟩
      · rw [if_pos hd] at e
        repeat' (first | refine fork_intro (fun hb => ?_) (fun hb => ?_) | refine partB_intro (fun hb => ?_) (fun hb => ?_) | refine And.intro ?_ ?_)
        all_goals first | exact True.intro | omega | with_reducible rfl | exact congrArg (AV.int _) (by omega) | (refine LoopEnd.intro (k + 1) (by first | omega) (by first | omega | (dsimp only; omega)) (by omega) ?_; simp only [go_sem]; (repeat' (first | refine fork_intro (fun hb => ?_) (fun hb => ?_) | refine partB_intro (fun hb => ?_) (fun hb => ?_) | refine And.intro ?_ ?_)); all_goals first | exact True.intro | omega | with_reducible rfl | exact congrArg (AV.int _) (by omega) | (first | rw [e])) | (first | rw [e])
      · rw [if_neg hd] at e
        repeat' (first | refine fork_intro (fun hb => ?_) (fun hb => ?_) | refine partB_intro (fun hb => ?_) (fun hb => ?_) | refine And.intro ?_ ?_)
        all_goals first | exact True.intro | omega | with_reducible rfl | exact congrArg (AV.int _) (by omega) | (refine LoopEnd.intro (k + 1) (by first | omega) (by first | omega | (dsimp only; omega)) (by omega) ?_; simp only [go_sem]; (repeat' (first | refine fork_intro (fun hb => ?_) (fun hb => ?_) | refine partB_intro (fun hb => ?_) (fun hb => ?_) | refine And.intro ?_ ?_)); all_goals first | exact True.intro | omega | with_reducible rfl | exact congrArg (AV.int _) (by omega) | (first | rw [e])) | (first | rw [e])
    · rw [show k = set.length by omega, List.take_length]; rfl
def t_serverI : Table := [(146, pureC g_serverI)]
theorem t_serverI_ok : TabOK Tryz.prog t_serverI := .cons Tryz.func146 (by kernel_rfl) (.pure (by intro args hp; unfold g_serverI at hp ⊢; split at hp <;> first | exact hp.elim | exact serverI_ok _ _ _ _ hp)) (.nil _)
attribute [go_sem] g_serverI_eq t_serverI
def g_servedI : List AV -> Prop × AV × Heap
  | [.agg [.ints o, .rows d], .ints set] => (OpenOK o d set, .sl 0, [(0, .arr (.ints (servedL d set)))])
  | _ => (False, .undef, [])
theorem g_servedI_eq (o : List Int) (d : List (List Int)) (set : List Int) : g_servedI [.agg [.ints o, .rows d], .ints set] = (OpenOK o d set, .sl 0, [(0, .arr (.ints (servedL d set)))]) := (rfl)
theorem servedI_ok (o : List Int) (d : List (List Int)) (set : List Int) (hp : OpenOK o d set) : SpecOK Tryz.prog 102 [.agg [.ints o, .rows d], .ints set] (.sl 0) [(0, .arr (.ints (servedL d set)))] := by
  refine fun_ok (C := t_serverI) (hint := hintX [7] [] 0 [] [] [] []) (t_serverI_ok) mixed Tryz.func102 rfl (by kernel_rfl) rfl ?_
  show codeA _ _ _ _ _ _ _ _
  simp only [go_sem, Tryz.results102]
  have hm := hp.f.m7
  refine loop_intro (fun i : Nat => [(5, .sl 0), (10, .int .i64 d.length), (11, .int .i64 i), (1, .ints set), (2, .iptr [.ints o, .rows d])]) (fun i => [(0, .arr (.ints (tab i fun i => srv (ix d (i : Int)) set)))]) 1 (fun i => i <= d.length) (fun i => d.length - i) 0 (by omega) (by omega) ?_ ?_
  · simp only [go_sem]
    repeat' (first | refine fork_intro (fun hb => ?_) (fun hb => ?_) | refine partB_intro (fun hb => ?_) (fun hb => ?_) | refine And.intro ?_ ?_)
    all_goals first | exact True.intro | omega | with_reducible rfl | exact congrArg (AV.int _) (by omega) | (first | rfl)
  · intro i hi
    have hl : (tab i fun i => srv (ix d (i : Int)) set).length = i := tab_len _ _
    simp only [go_sem]
    refine fork_intro (fun hc => ?_) (fun hc => ?_)
    · have e := tab_succ i (fun i => srv (ix d (i : Int)) set)
      refine ⟨⟨hp, by omega, by omega⟩, ?_⟩
      repeat' (first | refine fork_intro (fun hb => ?_) (fun hb => ?_) | refine partB_intro (fun hb => ?_) (fun hb => ?_) | refine And.intro ?_ ?_)
      all_goals first | exact True.intro | omega | with_reducible rfl | exact congrArg (AV.int _) (by omega) | (refine LoopEnd.intro (i + 1) (by first | omega) (by first | omega | (dsimp only; omega)) (by omega) ?_; simp only [go_sem]; (repeat' (first | refine fork_intro (fun hb => ?_) (fun hb => ?_) | refine partB_intro (fun hb => ?_) (fun hb => ?_) | refine And.intro ?_ ?_)); all_goals first | exact True.intro | omega | with_reducible rfl | exact congrArg (AV.int _) (by omega) | (first | rw [e])) | (first | rw [e])
    · rw [show i = d.length by omega]; rfl
def t_servedI : Table := [(102, ownC g_servedI)]
theorem t_servedI_ok : TabOK Tryz.prog t_servedI := .cons Tryz.func102 (by kernel_rfl) (.own (by intro args hp; unfold g_servedI at hp ⊢; split at hp <;> first | exact hp.elim | exact ⟨servedI_ok _ _ _ hp, rfl⟩)) (.nil _)
attribute [go_sem] g_servedI_eq t_servedI
def g_lengthsI : List AV -> Prop × AV × Heap
  | [.agg [.ints o, .rows d], .ints set] => (OpenOK o d set, .sl 0, [(0, .arr (.ints (lengthsL d set)))])
  | _ => (False, .undef, [])
theorem g_lengthsI_eq (o : List Int) (d : List (List Int)) (set : List Int) : g_lengthsI [.agg [.ints o, .rows d], .ints set] = (OpenOK o d set, .sl 0, [(0, .arr (.ints (lengthsL d set)))]) := (rfl)
theorem lengthsI_ok (o : List Int) (d : List (List Int)) (set : List Int) (hp : OpenOK o d set) : SpecOK Tryz.prog 130 [.agg [.ints o, .rows d], .ints set] (.sl 0) [(0, .arr (.ints (lengthsL d set)))] := by
  refine fun_ok (C := t_servedI) (hint := hintX [8] [] 0 [] [] [] []) (t_servedI_ok) mixed Tryz.func130 rfl (by kernel_rfl) rfl ?_
  show codeA _ _ _ _ _ _ _ _
  simp only [go_sem, Tryz.results130]
  have hm := hp.f.m7
  have hsl : (servedL d set).length = d.length := tab_len _ _
  refine ⟨hp, ?_⟩
  refine loop_intro (fun i : Nat => [(5, .sl 0), (11, .ints (servedL d set)), (12, .int .i64 d.length), (13, .int .i64 i), (2, .iptr [.ints o, .rows d])]) (fun i => [(0, .arr (.ints (tab i fun i => near (ix d (i : Int)) set)))]) 1 (fun i => i <= d.length) (fun i => d.length - i) 0 (by omega) (by omega) ?_ ?_
  · simp only [go_sem]
    repeat' (first | refine fork_intro (fun hb => ?_) (fun hb => ?_) | refine partB_intro (fun hb => ?_) (fun hb => ?_) | refine And.intro ?_ ?_)
    all_goals first | exact True.intro | omega | with_reducible rfl | exact congrArg (AV.int _) (by omega) | (first | rfl | rw [hsl])
  · intro i hi
    have hl : (tab i fun i => near (ix d (i : Int)) set).length = i := tab_len _ _
    simp only [go_sem]
    refine fork_intro (fun hc => ?_) (fun hc => ?_)
    · have hrow := hp.f.d_len (k := (i : Int)) (by omega) (by omega)
      have hs := hp.srv (ix d (i : Int))
      have e1 : ix (servedL d set) (i : Int) = srv (ix d (i : Int)) set := tab_ix (by omega)
      have e := tab_succ i (fun i => near (ix d (i : Int)) set)
      rw [e1]
      repeat' (first | refine fork_intro (fun hb => ?_) (fun hb => ?_) | refine partB_intro (fun hb => ?_) (fun hb => ?_) | refine And.intro ?_ ?_)
      all_goals first | exact True.intro | omega | with_reducible rfl | exact congrArg (AV.int _) (by omega) | (refine LoopEnd.intro (i + 1) (by first | omega) (by first | omega | (dsimp only; omega)) (by omega) ?_; simp only [go_sem]; (repeat' (first | refine fork_intro (fun hb => ?_) (fun hb => ?_) | refine partB_intro (fun hb => ?_) (fun hb => ?_) | refine And.intro ?_ ?_)); all_goals first | exact True.intro | omega | with_reducible rfl | exact congrArg (AV.int _) (by omega) | (first | rw [e]; rfl)) | (first | rw [e]; rfl)
    · rw [show i = d.length by omega]; rfl
def t_lengthsI : Table := [(130, ownC g_lengthsI)]
theorem t_lengthsI_ok : TabOK Tryz.prog t_lengthsI := .cons Tryz.func130 (by kernel_rfl) (.own (by intro args hp; unfold g_lengthsI at hp ⊢; split at hp <;> first | exact hp.elim | exact ⟨lengthsI_ok _ _ _ hp, rfl⟩)) (.nil _)
attribute [go_sem] g_lengthsI_eq t_lengthsI
def g_sumI : List AV -> Prop × AV
  | [.ints xs] => (xs.length <= 1000000 /\ ∀ x ∈ xs, -1000000000 <= x /\ x <= 1000000000, .int .i64 xs.sum)
  | _ => (False, .undef)
theorem g_sumI_eq (xs : List Int) : g_sumI [.ints xs] = (xs.length <= 1000000 /\ ∀ x ∈ xs, -1000000000 <= x /\ x <= 1000000000, .int .i64 xs.sum) := (rfl)
theorem sumI_ok (xs : List Int) (hp : xs.length <= 1000000 /\ ∀ x ∈ xs, -1000000000 <= x /\ x <= 1000000000) : SpecOK Tryz.prog 97 [.ints xs] (.int .i64 xs.sum) [] := by
  refine fun_ok (C := []) (hint := hintX [] [] 0 [] [] [] []) (TabOK.nil _) mixed Tryz.func97 rfl (by kernel_rfl) rfl ?_
  show codeA _ _ _ _ _ _ _ _
  simp only [go_sem, Tryz.results97]
  obtain ⟨hl, hx⟩ := hp
  refine loop_intro (fun k : Nat => [(3, .int .i64 (xs.take k).sum), (6, .ints xs), (7, .int .i64 xs.length), (8, .int .i64 k)]) (fun _ => []) 0 (fun k => k <= xs.length /\ -1000000000 * (k : Int) <= (xs.take k).sum /\ (xs.take k).sum <= 1000000000 * (k : Int)) (fun k => xs.length - k) 0 (by simp) (by omega) ?_ ?_
  · simp only [go_sem]
    repeat' (first | refine fork_intro (fun hb => ?_) (fun hb => ?_) | refine partB_intro (fun hb => ?_) (fun hb => ?_) | refine And.intro ?_ ?_)
    all_goals first | exact True.intro | omega | with_reducible rfl | exact congrArg (AV.int _) (by omega) | (first | rfl)
  · rintro k ⟨hk, h1, h2⟩
    simp only [go_sem]
    refine fork_intro (fun hc => ?_) (fun hc => ?_)
    · have e := sum_take xs (k := k) (by omega)
      have hb := hx _ (ix_mem xs (k := k) (by omega))
      repeat' (first | refine fork_intro (fun hb => ?_) (fun hb => ?_) | refine partB_intro (fun hb => ?_) (fun hb => ?_) | refine And.intro ?_ ?_)
      all_goals first | exact True.intro | omega | with_reducible rfl | exact congrArg (AV.int _) (by omega) | (refine LoopEnd.intro (k + 1) (by first | omega) (by first | omega | (dsimp only; omega)) (by omega) ?_; simp only [go_sem]; (repeat' (first | refine fork_intro (fun hb => ?_) (fun hb => ?_) | refine partB_intro (fun hb => ?_) (fun hb => ?_) | refine And.intro ?_ ?_)); all_goals first | exact True.intro | omega | with_reducible rfl | exact congrArg (AV.int _) (by omega))
    · rw [show k = xs.length by omega, List.take_length]
def t_sumI : Table := [(97, pureC g_sumI)]
theorem t_sumI_ok : TabOK Tryz.prog t_sumI := .cons Tryz.func97 (by kernel_rfl) (.pure (by intro args hp; unfold g_sumI at hp ⊢; split at hp <;> first | exact hp.elim | exact sumI_ok _ hp)) (.nil _)
attribute [go_sem] g_sumI_eq t_sumI
def g_serviceI : List AV -> Prop × AV
  | [.agg [.ints o, .rows d], .ints set] => (OpenOK o d set, .int .i64 (svc d set))
  | _ => (False, .undef)
theorem g_serviceI_eq (o : List Int) (d : List (List Int)) (set : List Int) : g_serviceI [.agg [.ints o, .rows d], .ints set] = (OpenOK o d set, .int .i64 (svc d set)) := (rfl)
theorem serviceI_ok (o : List Int) (d : List (List Int)) (set : List Int) (hp : OpenOK o d set) : SpecOK Tryz.prog 71 [.agg [.ints o, .rows d], .ints set] (.int .i64 (svc d set)) [] := by
  refine fun_ok (C := t_lengthsI ++ t_sumI) (hint := hintX [] [] 0 [] [] [] []) ((t_lengthsI_ok).append t_sumI_ok) mixed Tryz.func71 rfl (by kernel_rfl) rfl ?_
  show codeA _ _ _ _ _ _ _ _
  simp only [go_sem, Tryz.results71]
  have hm := hp.f.m7
  have hl : (lengthsL d set).length = d.length := tab_len _ _
  refine ⟨hp, ⟨by omega, fun x hx => ?_⟩, ?_⟩
  · obtain ⟨k, hk, rfl⟩ := mem_tab.1 hx
    have := hp.near (i := (k : Int)) (by omega) (by omega)
    omega
  · rw [show (lengthsL d set).sum = svc d set from sum_tab _ _]
def t_serviceI : Table := [(71, pureC g_serviceI)]
theorem t_serviceI_ok : TabOK Tryz.prog t_serviceI := .cons Tryz.func71 (by kernel_rfl) (.pure (by intro args hp; unfold g_serviceI at hp ⊢; split at hp <;> first | exact hp.elim | exact serviceI_ok _ _ _ hp)) (.nil _)
attribute [go_sem] g_serviceI_eq t_serviceI
def g_totalI : List AV -> Prop × AV
  | [.agg [.ints o, .rows d], .ints set] => (OpenOK o d set, .int .i64 (total o d set))
  | _ => (False, .undef)
theorem g_totalI_eq (o : List Int) (d : List (List Int)) (set : List Int) : g_totalI [.agg [.ints o, .rows d], .ints set] = (OpenOK o d set, .int .i64 (total o d set)) := (rfl)
theorem totalI_ok (o : List Int) (d : List (List Int)) (set : List Int) (hp : OpenOK o d set) : SpecOK Tryz.prog 67 [.agg [.ints o, .rows d], .ints set] (.int .i64 (total o d set)) [] := by
  refine fun_ok (C := t_payI ++ t_serviceI) (hint := hintX [] [] 0 [] [] [] []) ((t_payI_ok).append t_serviceI_ok) mixed Tryz.func67 rfl (by kernel_rfl) rfl ?_
  show codeA _ _ _ _ _ _ _ _
  simp only [go_sem, Tryz.results67]
  have h1 := hp.svc (Nat.le_refl _)
  have h2 := hp.pay.bd (Nat.le_refl _)
  rw [List.take_length] at h2
  have e1 : sumN (fun i => near (ix d (i : Int)) set) d.length = svc d set := rfl
  have e2 : total o d set = pay o set + svc d set := rfl
  repeat' (first | refine fork_intro (fun hb => ?_) (fun hb => ?_) | refine partB_intro (fun hb => ?_) (fun hb => ?_) | refine And.intro ?_ ?_)
  all_goals first | exact True.intro | omega | with_reducible rfl | exact congrArg (AV.int _) (by omega) | (first | exact hp | exact hp.pay)
def t_totalI : Table := [(67, pureC g_totalI)]
theorem t_totalI_ok : TabOK Tryz.prog t_totalI := .cons Tryz.func67 (by kernel_rfl) (.pure (by intro args hp; unfold g_totalI at hp ⊢; split at hp <;> first | exact hp.elim | exact totalI_ok _ _ _ hp)) (.nil _)
attribute [go_sem] g_totalI_eq t_totalI
def g_serviceOfI : List AV -> Prop × AV
  | [.agg [.ints o, .rows d], .ints set] => ((o.length <= 1048576000 /\ d.length <= 1048576000 /\ ∀ x ∈ d, x.length <= 1048576000) /\ set.length <= 1048576000, .tup [.int .i64 (bif opened o d set then svc d set else 0), .bool (opened o d set)])
  | _ => (False, .undef)
theorem g_serviceOfI_eq (o : List Int) (d : List (List Int)) (set : List Int) : g_serviceOfI [.agg [.ints o, .rows d], .ints set] = ((o.length <= 1048576000 /\ d.length <= 1048576000 /\ ∀ x ∈ d, x.length <= 1048576000) /\ set.length <= 1048576000, .tup [.int .i64 (bif opened o d set then svc d set else 0), .bool (opened o d set)]) := (rfl)
theorem serviceOfI_ok (o : List Int) (d : List (List Int)) (set : List Int) (hp : (o.length <= 1048576000 /\ d.length <= 1048576000 /\ ∀ x ∈ d, x.length <= 1048576000) /\ set.length <= 1048576000) : SpecOK Tryz.prog 25 [.agg [.ints o, .rows d], .ints set] (.tup [.int .i64 (bif opened o d set then svc d set else 0), .bool (opened o d set)]) [] := by
  refine fun_ok (C := t_openI ++ t_serviceI) (hint := hintX [] [] 0 [] [] [] []) ((t_openI_ok).append t_serviceI_ok) mixed Tryz.func25 rfl (by kernel_rfl) rfl ?_
  show codeA _ _ _ _ _ _ _ _
  simp only [go_sem, Tryz.results25]
  refine ⟨hp, partB_intro (fun hg => ?_) (fun hg => ?_)⟩
  · rw [hg]; exact ⟨opened_iff hp.2 hg, rfl, rfl⟩
  · rw [hg]; first | rfl | exact ⟨rfl, rfl⟩
def t_serviceOfI : Table := [(25, pureC g_serviceOfI)]
theorem t_serviceOfI_ok : TabOK Tryz.prog t_serviceOfI := .cons Tryz.func25 (by kernel_rfl) (.pure (by intro args hp; unfold g_serviceOfI at hp ⊢; split at hp <;> first | exact hp.elim | exact serviceOfI_ok _ _ _ hp)) (.nil _)
attribute [go_sem] g_serviceOfI_eq t_serviceOfI
end Go.Proofs.YteefjdbdknkcjaaGreat
namespace Go.Proofs.YteefjdbdknkcjaaGreat
open Go.Vc
set_option maxRecDepth 100000
set_option linter.unusedSimpArgs false
set_option linter.unusedVariables false

def fairOK (o : List Int) (d : List (List Int)) (ps : List Int) : Bool := pricesOK o d ps && fairB o d ps
def sumP (o : List Int) (d : List (List Int)) (ps : List Int) : Prop := ps.length <= 1000000 /\ ∀ x ∈ ps, -1000000000 <= x /\ x <= 1000000000
def closedOK (o : List Int) (d : List (List Int)) (ps : List Int) (v : Int) : Bool := fairOK o d ps && decide (0 <= v /\ v <= 1400)
def closedL (o : List Int) (d : List (List Int)) (ps : List Int) (v : Int) : List Int := sel (fun a => decide (v < ps.sum + (ix o (a : Int) - clm d ps 1 (a : Int)))) o.length

end Go.Proofs.YteefjdbdknkcjaaGreat
namespace Go.Proofs.YteefjdbdknkcjaaGreat
open Go.Vc
set_option maxRecDepth 100000
set_option linter.unusedSimpArgs false
set_option linter.unusedVariables false

end Go.Proofs.YteefjdbdknkcjaaGreat
namespace Go.Vc
set_option linter.unusedSimpArgs false
set_option linter.unusedVariables false

/-! rising lists -/
def Up (xs : List Int) : Prop := xs.Pairwise (· < ·)
theorem up_ext : ∀ {xs ys : List Int}, Up xs -> Up ys -> (∀ a, a ∈ xs ↔ a ∈ ys) -> xs = ys
  | [], [], _, _, _ => rfl
  | [], y :: ys, _, _, h => by have := (h y).2 List.mem_cons_self; cases this
  | x :: xs, [], _, _, h => by have := (h x).1 List.mem_cons_self; cases this
  | x :: xs, y :: ys, h1, h2, h => by
    obtain ⟨h3, h4⟩ := List.pairwise_cons.1 h1
    obtain ⟨h5, h6⟩ := List.pairwise_cons.1 h2
    have e : x = y := by
      rcases List.mem_cons.1 ((h x).1 List.mem_cons_self) with e | e
      · exact e
      · rcases List.mem_cons.1 ((h y).2 List.mem_cons_self) with e' | e'
        · exact e'.symm
        · have := h5 x e; have := h3 y e'; omega
    subst e
    congr 1
    refine up_ext h4 h6 (fun a => ⟨fun ha => ?_, fun ha => ?_⟩)
    · rcases List.mem_cons.1 ((h a).1 (List.mem_cons_of_mem _ ha)) with e | e
      · subst e; have := h3 a ha; omega
      · exact e
    · rcases List.mem_cons.1 ((h a).2 (List.mem_cons_of_mem _ ha)) with e | e
      · subst e; have := h5 a ha; omega
      · exact e
theorem up_sel (p : Nat -> Bool) : ∀ n, Up (sel p n)
  | 0 => List.Pairwise.nil
  | n + 1 => by
    unfold sel
    split
    · refine List.pairwise_append.2 ⟨up_sel p n, List.pairwise_singleton _ _, fun a ha b hb => ?_⟩
      obtain ⟨k, hk, _, rfl⟩ := mem_sel.1 ha
      simp at hb; subst hb; omega
    · exact up_sel p n
theorem up_ris {lo hi : Int} {xs : List Int} (h : Up xs) (hb : ∀ x ∈ xs, lo <= x /\ x <= hi) : ris lo hi xs = true := by
  refine decide_eq_true (fun k hk => ⟨hb _ (ix_mem xs hk), fun h0 => ?_⟩)
  obtain ⟨j, rfl⟩ : ∃ j, k = j + 1 := ⟨k - 1, by omega⟩
  rw [show (((j + 1 : Nat) : Int) - 1) = (j : Int) by omega]
  have h2 := List.pairwise_iff_getElem.1 h j (j + 1) (by omega) hk (by omega)
  have e1 := ix_some xs (show j < xs.length by omega)
  have e2 := ix_some xs hk
  rw [List.getElem?_eq_getElem (by omega)] at e1
  rw [List.getElem?_eq_getElem hk] at e2
  rw [<- Option.some.inj e1, <- Option.some.inj e2]; exact h2
def hasB (xs : List Int) (a : Nat) : Bool := decide ((a : Int) ∈ xs)
theorem up_eq_sel {xs : List Int} {n : Nat} (h : Up xs) (hb : ∀ x ∈ xs, 0 <= x /\ x < n) : xs = sel (hasB xs) n :=
  up_ext h (up_sel _ _) (fun a => by
    rw [mem_sel]
    constructor
    · intro ha
      have := hb a ha
      exact ⟨a.toNat, by omega, by unfold hasB; exact decide_eq_true (by rw [show ((a.toNat : Nat) : Int) = a by omega]; exact ha), by omega⟩
    · rintro ⟨k, _, h2, rfl⟩
      exact of_decide_eq_true h2)
theorem sel_ext {p q : Nat -> Bool} {n m : Nat} (h : ∀ k, (k < n /\ p k = true) ↔ (k < m /\ q k = true)) : sel p n = sel q m :=
  up_ext (up_sel _ _) (up_sel _ _) (fun a => by
    rw [mem_sel, mem_sel]
    constructor
    · rintro ⟨k, h1, h2, h3⟩; have := (h k).1 ⟨h1, h2⟩; exact ⟨k, this.1, this.2, h3⟩
    · rintro ⟨k, h1, h2, h3⟩; have := (h k).2 ⟨h1, h2⟩; exact ⟨k, this.1, this.2, h3⟩)

/-! one number less, one more -/
def without (xs : List Int) (a : Int) : List Int := xs.filter fun x => decide (x ≠ a)
theorem mem_without {xs : List Int} {a x : Int} : x ∈ without xs a ↔ x ∈ xs /\ x ≠ a := by simp [without]
theorem up_without {xs : List Int} (h : Up xs) (a : Int) : Up (without xs a) := List.Pairwise.filter _ h
def putF : List Int -> Int -> List Int
  | [], n => [n]
  | x :: r, n => if x < n then x :: putF r n else if x = n then x :: r else n :: x :: r
theorem mem_putF {n a : Int} : ∀ {xs : List Int}, a ∈ putF xs n ↔ a = n \/ a ∈ xs
  | [] => by simp [putF]
  | x :: r => by
    unfold putF
    split
    · rw [List.mem_cons, mem_putF (xs := r), List.mem_cons]
      constructor
      · rintro (h | h | h) <;> simp [h]
      · rintro (h | h | h) <;> simp [h]
    · split
      · rename_i h; subst h; simp
      · simp
theorem up_putF {n : Int} : ∀ {xs : List Int}, Up xs -> Up (putF xs n)
  | [], _ => List.pairwise_singleton _ _
  | x :: r, h => by
    obtain ⟨h1, h2⟩ := List.pairwise_cons.1 h
    unfold putF
    split
    · refine List.pairwise_cons.2 ⟨fun a ha => ?_, up_putF h2⟩
      rcases mem_putF.1 ha with e | e
      · omega
      · exact h1 a e
    · split
      · exact h
      · refine List.pairwise_cons.2 ⟨fun a ha => ?_, h⟩
        rcases List.mem_cons.1 ha with e | e
        · omega
        · have := h1 a e; omega
def swapL (xs : List Int) (a b : Int) : List Int := putF (without xs a) b
theorem up_swap {xs : List Int} (h : Up xs) (a b : Int) : Up (swapL xs a b) := up_putF (up_without h a)
/-! bits -/
def bagF : List Int -> Nat -> Nat
  | [], b => b
  | x :: r, b => bagF r (b ||| (1 * 2 ^ x.toNat))
def bag (xs : List Int) : Nat := bagF xs 0
def bagL (b : Nat) : List Int := sel b.testBit 64
theorem bit_lt {b n k : Nat} (hb : b < 2 ^ n) (h : b.testBit k = true) : k < n := by
  refine Nat.lt_of_not_le (fun hk => ?_)
  rw [Nat.testBit_lt_two_pow (Nat.lt_of_lt_of_le hb (Nat.pow_le_pow_right (by omega) hk))] at h
  cases h
theorem bagL_eq {b n : Nat} (hb : b < 2 ^ n) (hn : n <= 64) : bagL b = sel b.testBit n :=
  sel_ext (fun k => ⟨fun h => ⟨bit_lt hb h.2, h.2⟩, fun h => ⟨by omega, h.2⟩⟩)
theorem mem_bagL {b n : Nat} (hb : b < 2 ^ n) (hn : n <= 64) {x : Int} : x ∈ bagL b ↔ 0 <= x /\ b.testBit x.toNat = true := by
  unfold bagL
  rw [mem_sel]
  constructor
  · rintro ⟨k, h1, h2, rfl⟩; exact ⟨by omega, by simpa using h2⟩
  · intro h
    have := bit_lt hb h.2
    exact ⟨x.toNat, by omega, h.2, by omega⟩
theorem bitN_and (x y : Nat) : bitN .and x y = x &&& y := rfl
theorem shr_pos (b x : Nat) : 0 < (b : Int) / 2 ^ x ↔ 2 ^ x <= b := by
  have e : (b : Int) / 2 ^ x = ((b / 2 ^ x : Nat) : Int) := by simp
  rw [e]
  have h : 0 < b / 2 ^ x ↔ 2 ^ x <= b := Nat.div_pos_iff.trans ⟨fun h => h.2, fun h => ⟨Nat.two_pow_pos x, h⟩⟩
  omega
theorem shr_nat (b x : Nat) : ((b : Int) / 2 ^ x).toNat = b / 2 ^ x := by
  have e : (b : Int) / 2 ^ x = ((b / 2 ^ x : Nat) : Int) := by simp
  rw [e]; rfl
theorem shr_le (b x : Nat) : 0 <= (b : Int) / 2 ^ x /\ (b : Int) / 2 ^ x <= b := by
  have e : (b : Int) / 2 ^ x = ((b / 2 ^ x : Nat) : Int) := by simp
  rw [e]
  exact ⟨Int.natCast_nonneg _, Int.ofNat_le.2 (Nat.div_le_self _ _)⟩
theorem bit_one (b x : Nat) : decide ((((b / 2 ^ x) &&& 1 : Nat) : Int) = 1) = b.testBit x := by
  rw [Nat.testBit_eq_decide_div_mod_eq, Nat.and_one_is_mod]
  exact decide_eq_decide.2 (by omega)
theorem lt_pow7 {b x : Nat} (hb : b < 128) (hx : 2 ^ x <= b) : x < 7 := by
  refine Nat.lt_of_not_le (fun h => ?_)
  have : 2 ^ 7 <= 2 ^ x := Nat.pow_le_pow_right (by omega) h
  omega
theorem srvF_mem (row : List Int) : ∀ (xs : List Int) (b : Int), srvF row b xs = b \/ srvF row b xs ∈ xs
  | [], b => .inl rfl
  | x :: r, b => by
    rw [srvF]
    rcases srvF_mem row r (if ix row x < ix row b then x else b) with h | h
    · by_cases e : ix row x < ix row b
      · rw [if_pos e] at h ⊢; exact .inr (by rw [h]; exact List.mem_cons_self)
      · rw [if_neg e] at h ⊢; exact .inl h
    · exact .inr (List.mem_cons_of_mem _ h)
theorem srv_mem (row : List Int) {set : List Int} (h : 0 < set.length) : srv row set ∈ set := by
  unfold srv
  rcases srvF_mem row set (ix set 0) with e | e
  · rw [e]; exact ix_mem set h
  · exact e
def clientsL (d : List (List Int)) (set : List Int) (s : Int) : List Int := sel (fun i => decide (srv (ix d (i : Int)) set = s)) d.length
def idleL (d : List (List Int)) (set : List Int) : List Int := set.filter fun s => decide ((clientsL d set s).length = 0)
/-! prices that meet a set -/
def meet1 (d : List (List Int)) (set : List Int) (p : Int) (j : Nat) : Bool :=
  decide (near (ix d (j : Int)) set <= p) && allN (fun i => !(decide (ix set (i : Int) ≠ srv (ix d (j : Int)) set) && decide (ix (ix d (j : Int)) (ix set (i : Int)) < p))) set.length
def meetT (o : List Int) (d : List (List Int)) (ps set : List Int) (i : Nat) : Bool := decide (clm d ps 1 (ix set (i : Int)) = ix o (ix set (i : Int)))
def meetB (o : List Int) (d : List (List Int)) (ps set : List Int) : Bool := allN (meetT o d ps set) set.length && allN (fun j => meet1 d set (ix ps (j : Int)) j) d.length
def meetK (d : List (List Int)) (set : List Int) (p : Int) (j i : Nat) : Bool :=
  !((decide (ix set (i : Int) = srv (ix d (j : Int)) set) && decide (p < ix (ix d (j : Int)) (ix set (i : Int)))) || (decide (ix set (i : Int) ≠ srv (ix d (j : Int)) set) && decide (ix (ix d (j : Int)) (ix set (i : Int)) < p)))
end Go.Vc
namespace Go.Proofs.YteefjdbdknkcjaaGreat
open Go.Vc
set_option maxRecDepth 100000
set_option linter.unusedSimpArgs false
set_option linter.unusedVariables false

def g_hasI : List AV -> Prop × AV
  | [.int .u64 b, .int .i64 x] => ((0 <= b /\ b < 128) /\ 0 <= x /\ x <= 63, .bool (b.toNat.testBit x.toNat))
  | _ => (False, .undef)
theorem g_hasI_eq (b x : Int) : g_hasI [.int .u64 b, .int .i64 x] = ((0 <= b /\ b < 128) /\ 0 <= x /\ x <= 63, .bool (b.toNat.testBit x.toNat)) := (rfl)
theorem hasI_ok (b x : Int) (hp : (0 <= b /\ b < 128) /\ 0 <= x /\ x <= 63) : SpecOK Tryz.prog 169 [.int .u64 b, .int .i64 x] (.bool (b.toNat.testBit x.toNat)) [] := by
  refine fun_ok (C := []) (hint := hintX [] [] 0 [] [] [] []) (TabOK.nil _) mixed Tryz.func169 rfl (by kernel_rfl) rfl ?_
  show codeA _ _ _ _ _ _ _ _
  simp only [go_sem, Tryz.results169]
  obtain ⟨⟨h0, h1⟩, h2, h3⟩ := hp
  obtain ⟨b, rfl⟩ : ∃ n : Nat, b = n := ⟨b.toNat, by omega⟩
  obtain ⟨x, rfl⟩ : ∃ n : Nat, x = n := ⟨x.toNat, by omega⟩
  have hs := shr_le b x
  simp only [Int.toNat_natCast, shr_nat, bitN_and]
  have hb := bit_one b x
  repeat' (first | refine fork_intro (fun hb => ?_) (fun hb => ?_) | refine partB_intro (fun hb => ?_) (fun hb => ?_) | refine And.intro ?_ ?_)
  all_goals first | exact True.intro | omega | with_reducible rfl | exact congrArg (AV.int _) (by omega) | (first | (rw [<- hb]; rfl) | (show _ <= _; decide) | decide)
def t_hasI : Table := [(169, pureC g_hasI)]
theorem t_hasI_ok : TabOK Tryz.prog t_hasI := .cons Tryz.func169 (by kernel_rfl) (.pure (by intro args hp; unfold g_hasI at hp ⊢; split at hp <;> first | exact hp.elim | exact hasI_ok _ _ hp)) (.nil _)
attribute [go_sem] g_hasI_eq t_hasI
def g_listI : List AV -> Prop × AV × Heap
  | [.int .u64 b] => (0 <= b /\ b < 128, .sl 0, [(0, .arr (.ints (bagL b.toNat)))])
  | _ => (False, .undef, [])
theorem g_listI_eq (b : Int) : g_listI [.int .u64 b] = (0 <= b /\ b < 128, .sl 0, [(0, .arr (.ints (bagL b.toNat)))]) := (rfl)
theorem listI_ok (b : Int) (hp : 0 <= b /\ b < 128) : SpecOK Tryz.prog 135 [.int .u64 b] (.sl 0) [(0, .arr (.ints (bagL b.toNat)))] := by
  refine fun_ok (C := t_hasI) (hint := hintX [5] [] 0 [] [] [] []) (t_hasI_ok) mixed Tryz.func135 rfl (by kernel_rfl) rfl ?_
  show codeA _ _ _ _ _ _ _ _
  simp only [go_sem, Tryz.results135]
  obtain ⟨h0, h1⟩ := hp
  obtain ⟨b, rfl⟩ : ∃ n : Nat, b = n := ⟨b.toNat, by omega⟩
  simp only [Int.toNat_natCast]
  refine loop_intro (fun x : Nat => [(3, .sl 0), (4, .int .i64 x), (0, .int .u64 b)]) (fun x => [(0, .arr (.ints (sel b.testBit x)))]) 1 (fun x => x <= 7) (fun x => 7 - x) 0 (by omega) (by omega) ?_ ?_
  · simp only [go_sem]
    repeat' (first | refine fork_intro (fun hb => ?_) (fun hb => ?_) | refine partB_intro (fun hb => ?_) (fun hb => ?_) | refine And.intro ?_ ?_)
    all_goals first | exact True.intro | omega | with_reducible rfl | exact congrArg (AV.int _) (by omega) | (first | rfl)
  · intro x hx
    have hs := shr_le b x
    have hsl := sel_len b.testBit x
    have hpos := shr_pos b x
    simp only [go_sem]
    refine ⟨by omega, fork_intro (fun hc => ?_) (fun hc => ?_)⟩
    · have hx7 := lt_pow7 (show b < 128 by omega) (hpos.1 hc)
      refine ⟨⟨by omega, by omega⟩, partB_intro (fun hd => ?_) (fun hd => ?_)⟩
      · have e := sel_t (p := b.testBit) (n := x) hd
        repeat' (first | refine fork_intro (fun hb => ?_) (fun hb => ?_) | refine partB_intro (fun hb => ?_) (fun hb => ?_) | refine And.intro ?_ ?_)
        all_goals first | exact True.intro | omega | with_reducible rfl | exact congrArg (AV.int _) (by omega) | (refine LoopEnd.intro (x + 1) (by first | omega) (by first | omega | (dsimp only; omega)) (by omega) ?_; simp only [go_sem]; (repeat' (first | refine fork_intro (fun hb => ?_) (fun hb => ?_) | refine partB_intro (fun hb => ?_) (fun hb => ?_) | refine And.intro ?_ ?_)); all_goals first | exact True.intro | omega | with_reducible rfl | exact congrArg (AV.int _) (by omega) | (first | rw [e])) | (first | rw [e])
      · have e := sel_f (p := b.testBit) (n := x) hd
        repeat' (first | refine fork_intro (fun hb => ?_) (fun hb => ?_) | refine partB_intro (fun hb => ?_) (fun hb => ?_) | refine And.intro ?_ ?_)
        all_goals first | exact True.intro | omega | with_reducible rfl | exact congrArg (AV.int _) (by omega) | (refine LoopEnd.intro (x + 1) (by first | omega) (by first | omega | (dsimp only; omega)) (by omega) ?_; simp only [go_sem]; (repeat' (first | refine fork_intro (fun hb => ?_) (fun hb => ?_) | refine partB_intro (fun hb => ?_) (fun hb => ?_) | refine And.intro ?_ ?_)); all_goals first | exact True.intro | omega | with_reducible rfl | exact congrArg (AV.int _) (by omega) | (first | rw [e])) | (first | rw [e])
    · have hlt : b < 2 ^ x := Nat.lt_of_not_le (fun h => hc (hpos.2 h))
      rw [bagL_eq hlt (by omega)]
      repeat' (first | refine fork_intro (fun hb => ?_) (fun hb => ?_) | refine partB_intro (fun hb => ?_) (fun hb => ?_) | refine And.intro ?_ ?_)
      all_goals first | exact True.intro | omega | with_reducible rfl | exact congrArg (AV.int _) (by omega) | (first | rfl)
def t_listI : Table := [(135, ownC g_listI)]
theorem t_listI_ok : TabOK Tryz.prog t_listI := .cons Tryz.func135 (by kernel_rfl) (.own (by intro args hp; unfold g_listI at hp ⊢; split at hp <;> first | exact hp.elim | exact ⟨listI_ok _ hp, rfl⟩)) (.nil _)
attribute [go_sem] g_listI_eq t_listI
end Go.Proofs.YteefjdbdknkcjaaGreat
namespace Go.Vc
set_option linter.unusedSimpArgs false
set_option linter.unusedVariables false

theorem cutL_pre {α : Type} (xs : List α) (k : Nat) : cutL xs 0 (k : Int) = xs.take k := by simp [cutL]
theorem cutL_suf {α : Type} (xs : List α) (k : Nat) : cutL xs (k : Int) (xs.length : Int) = xs.drop k := by simp [cutL]
theorem putF_at {n : Int} : ∀ {xs : List Int} {k : Nat}, k <= xs.length -> (∀ j : Nat, j < k -> ix xs (j : Int) < n) -> (k < xs.length -> n <= ix xs (k : Int)) -> putF xs n = if k < xs.length /\ ix xs (k : Int) = n then xs else xs.take k ++ n :: xs.drop k
  | [], k, hk, _, _ => by
    have : k = 0 := by simpa using hk
    subst this; simp [putF]
  | x :: r, 0, _, _, h2 => by
    have h := h2 (by simp)
    have e0 : ix (x :: r) ((0 : Nat) : Int) = x := rfl
    rw [e0] at h ⊢
    unfold putF
    rw [if_neg (by omega)]
    by_cases e : x = n
    · rw [if_pos e, if_pos ⟨by simp, e⟩]
    · rw [if_neg e, if_neg (fun h => e h.2)]; rfl
  | x :: r, k + 1, hk, h1, h2 => by
    have hx : x < n := h1 0 (by omega)
    have ih := putF_at (n := n) (xs := r) (k := k) (by simpa using hk) (fun j hj => by have := h1 (j + 1) (by omega); rwa [ix_cons_succ] at this) (fun hk => by have := h2 (by simpa using hk); rwa [ix_cons_succ] at this)
    rw [putF, if_pos hx, ih, ix_cons_succ]
    by_cases e : k < r.length /\ ix r (k : Int) = n
    · rw [if_pos e, if_pos ⟨by simpa using e.1, e.2⟩]
    · rw [if_neg e, if_neg (fun h => e ⟨by simpa using h.1, h.2⟩)]; rfl
theorem up_len {xs : List Int} {n : Nat} (h : Up xs) (hb : ∀ x ∈ xs, 0 <= x /\ x < n) : xs.length <= n := by
  rw [up_eq_sel h hb]; exact sel_len _ _
theorem OpenOK.mem {o : List Int} {d : List (List Int)} {set : List Int} (h : OpenOK o d set) {x : Int} (hx : x ∈ set) : 0 <= x /\ x < o.length := by
  obtain ⟨k, hk, rfl⟩ := mem_ix hx
  exact h.xin k hk
theorem openOf {o : List Int} {d : List (List Int)} {set : List Int} (hf : FieldOK o d) (hp : 0 < set.length) (hu : Up set) (hm : ∀ x ∈ set, 0 <= x /\ x < o.length) : OpenOK o d set :=
  ⟨hf, hp, by have := up_len hu hm; have := hf.n7; omega, fun k hk => hm _ (ix_mem set hk)⟩
theorem OpenOK.put {o : List Int} {d : List (List Int)} {set : List Int} (hf : FieldOK o d) (hu : Up set) (hm : ∀ x ∈ set, 0 <= x /\ x < o.length) {a : Int} (ha : 0 <= a /\ a < o.length) : OpenOK o d (putF set a) := by
  refine openOf hf ?_ (up_putF hu) (fun x hx => ?_)
  · have : a ∈ putF set a := mem_putF.2 (.inl rfl)
    exact List.length_pos_of_mem this
  · rcases mem_putF.1 hx with e | e
    · subst e; exact ha
    · exact hm x e
theorem OpenOK.swap {o : List Int} {d : List (List Int)} {set : List Int} (h : OpenOK o d set) (hu : Up set) (a : Int) {b : Int} (hb : 0 <= b /\ b < o.length) : OpenOK o d (swapL set a b) :=
  OpenOK.put h.f (up_without hu a) (fun x hx => h.mem (mem_without.1 hx).1) hb
/-! swaps -/
def swapB (o : List Int) (d : List (List Int)) (set : List Int) (a b : Int) : Bool := opened o d set && (decide (a ∈ set) && (!decide (b ∈ set) && decide (0 <= b /\ b <= (o.length : Int) - 1)))
def gain (d : List (List Int)) (set : List Int) (a b : Int) : Int := svc d set - svc d (swapL set a b)
theorem OpenOK.svc_bd {o : List Int} {d : List (List Int)} {set : List Int} (h : OpenOK o d set) : 0 <= Go.Vc.svc d set /\ Go.Vc.svc d set <= 693 := h.svc (Nat.le_refl _)
def stepSw (d : List (List Int)) (set : List Int) (a b : Int) (s : Int × Int × Int) : Int × Int × Int := if b ∈ set then s else if s.2.2 < gain d set a b then (a, b, gain d set a b) else s
def rowG (d : List (List Int)) (set : List Int) (a : Int) : Nat -> Int × Int × Int -> Int × Int × Int
  | 0, s => s
  | n + 1, s => stepSw d set a (n : Int) (rowG d set a n s)
def findG (o : List Int) (d : List (List Int)) (set : List Int) : Nat -> Int × Int × Int
  | 0 => (0, 0, 0)
  | k + 1 => rowG d set (ix set (k : Int)) o.length (findG o d set k)
/-! the greedy set -/
def medB (o : List Int) (d : List (List Int)) (k : Int) : Bool := good o d && decide (1 <= k /\ k <= (o.length : Int))
def bestG (d : List (List Int)) (set : List Int) : Nat -> Int
  | 0 => -1
  | n + 1 => if (n : Int) ∉ set /\ (bestG d set n < 0 \/ svc d (putF set (n : Int)) < svc d (putF set (bestG d set n))) then (n : Int) else bestG d set n
def greedy (o : List Int) (d : List (List Int)) : Nat -> List Int × List Int
  | 0 => ([], [])
  | k + 1 => ((greedy o d k).1 ++ [bestG d (greedy o d k).2 o.length], putF (greedy o d k).2 (bestG d (greedy o d k).2 o.length))
structure GreedyOK (o : List Int) (s : List Int × List Int) (k : Nat) : Prop where
  len : s.1.length = k
  up : Up s.2
  mem : ∀ x ∈ s.2, 0 <= x /\ x < o.length
  len2 : s.2.length = k
end Go.Vc
namespace Go.Vc
set_option linter.unusedSimpArgs false
set_option linter.unusedVariables false

/-! swaps until none gains -/
def FoundG (o : List Int) (d : List (List Int)) (set : List Int) (s : Int × Int × Int) : Prop := s.2.2 = 0 \/ (s.1 ∈ set /\ (0 <= s.2.1 /\ s.2.1 < o.length) /\ s.2.2 = gain d set s.1 s.2.1 /\ 0 < s.2.2)
theorem rowG_found {o : List Int} {d : List (List Int)} {set : List Int} {a : Int} (ha : a ∈ set) : ∀ (n : Nat) (s : Int × Int × Int), n <= o.length -> (FoundG o d set s /\ 0 <= s.2.2) -> FoundG o d set (rowG d set a n s) /\ 0 <= (rowG d set a n s).2.2
  | 0, s, _, h => h
  | n + 1, s, hn, h => by
    have ih := rowG_found ha n s (by omega) h
    unfold rowG stepSw
    split
    · exact ih
    · split
      · rename_i h2
        refine ⟨.inr ⟨ha, ⟨by dsimp only; omega, by dsimp only; omega⟩, rfl, ?_⟩, ?_⟩
        · dsimp only; omega
        · dsimp only; omega
      · exact ih
theorem findG_found {o : List Int} {d : List (List Int)} {set : List Int} : ∀ k : Nat, k <= set.length -> FoundG o d set (findG o d set k) /\ 0 <= (findG o d set k).2.2
  | 0, _ => ⟨.inl rfl, by unfold findG; decide⟩
  | k + 1, hk => rowG_found (ix_mem set (by omega)) _ _ (Nat.le_refl _) (findG_found k (by omega))
def medIter (o : List Int) (d : List (List Int)) : Nat -> List Int -> Nat -> List Int × Nat
  | 0, s, c => (s, c)
  | n + 1, s, c => if (findG o d s s.length).2.2 = 0 then (s, c) else medIter o d n (swapL s (findG o d s s.length).1 (findG o d s s.length).2.1) (c + 1)
structure MedAt (o : List Int) (d : List (List Int)) (set : List Int) (s : List Int) (c : Nat) : Prop where
  ok : OpenOK o d s
  up : Up s
  rest : ∃ n : Nat, svc d s < n /\ n + c = 700 /\ medIter o d 700 set 0 = medIter o d n s c
theorem MedAt.start {o : List Int} {d : List (List Int)} {set : List Int} (h : OpenOK o d set) (hu : Up set) : MedAt o d set set 0 := by
  have := h.svc_bd
  exact ⟨h, hu, 700, by omega, rfl, rfl⟩
theorem MedAt.step {o : List Int} {d : List (List Int)} {set s : List Int} {c : Nat} (h : MedAt o d set s c) (hg : ¬ (findG o d s s.length).2.2 = 0) : MedAt o d set (swapL s (findG o d s s.length).1 (findG o d s s.length).2.1) (c + 1) /\
    svc d (swapL s (findG o d s s.length).1 (findG o d s s.length).2.1) < svc d s := by
  rcases (findG_found (o := o) (d := d) (set := s) s.length (Nat.le_refl _)).1 with h1 | ⟨h1, h2, h3, h4⟩
  · exact (hg h1).elim
  · have hs := h.ok.swap h.up (findG o d s s.length).1 h2
    have hb := hs.svc_bd
    have hl : svc d (swapL s (findG o d s s.length).1 (findG o d s s.length).2.1) < svc d s := by unfold gain at h3; omega
    refine ⟨⟨hs, up_swap h.up _ _, ?_⟩, hl⟩
    obtain ⟨n, g1, g2, g3⟩ := h.rest
    obtain ⟨m, rfl⟩ : ∃ m, n = m + 1 := ⟨n - 1, by omega⟩
    exact ⟨m, by omega, by omega, by rw [g3, medIter, if_neg hg]⟩
theorem MedAt.end {o : List Int} {d : List (List Int)} {set s : List Int} {c : Nat} (h : MedAt o d set s c) (hg : (findG o d s s.length).2.2 = 0) : medIter o d 700 set 0 = (s, c) := by
  obtain ⟨n, g1, g2, g3⟩ := h.rest
  have hb := h.ok.svc_bd
  obtain ⟨m, rfl⟩ : ∃ m, n = m + 1 := ⟨n - 1, by omega⟩
  rw [g3, medIter, if_pos hg]
/-! closing sites one by one -/
def bestR (d : List (List Int)) (set : List Int) : Nat -> Int
  | 0 => -1
  | k + 1 => if bestR d set k < 0 \/ svc d (without set (ix set (k : Int))) < svc d (without set (bestR d set k)) then ix set (k : Int) else bestR d set k
def revL (o : List Int) (d : List (List Int)) : Nat -> List Int
  | 0 => sel (fun _ => true) o.length
  | k + 1 => without (revL o d k) (bestR d (revL o d k) (revL o d k).length)
structure RevOK (o : List Int) (s : List Int) (k : Nat) : Prop where
  up : Up s
  mem : ∀ x ∈ s, 0 <= x /\ x < o.length
  len : s.length + k = o.length
/-! sums in 64 bits -/
theorem v_addu (x y : Int) : arithV .add (.int .u64 x) (.int .u64 y) = .int .u64 (IntKind.u64.wrap (x + y)) := (rfl)
theorem p_addu (P : Program) (t : TypeId) (x y : Int) : arithP P t .add (.int .u64 x) (.int .u64 y) = True := by show (_ = _) = _; simp
/-! the number of bits, as the library reckons it -/
def s1 (b : Nat) : Nat := ((b / 2) &&& 6148914691236517205) + (b &&& 6148914691236517205)
def s2 (b : Nat) : Nat := ((s1 b / 4) &&& 3689348814741910323) + (s1 b &&& 3689348814741910323)
def s3 (b : Nat) : Nat := (s2 b / 16 + s2 b) &&& 1085102592571150095
def s4 (b : Nat) : Nat := s3 b + s3 b / 256
def s5 (b : Nat) : Nat := s4 b + s4 b / 65536
def s6 (b : Nat) : Nat := s5 b + s5 b / 4294967296
theorem wrap_nat {x : Nat} (h : x < 18446744073709551616) : IntKind.u64.wrap (x : Int) = x := by
  have : IntKind.u64.wrap (x : Int) = (x : Int) % (2 ^ 64 : Int) := rfl
  rw [this]; omega
end Go.Vc
namespace Go.Proofs.YteefjdbdknkcjaaGreat
open Go.Vc
set_option maxRecDepth 100000
set_option linter.unusedSimpArgs false
set_option linter.unusedVariables false

end Go.Proofs.YteefjdbdknkcjaaGreat
