/- The law package's helpers keep their contracts: sizes, copies, comparisons, marks. -/
import Derived.Test.YtjnongegddnobaaDoorTy
import Derived.Test.YtjnongegddnobaaDoorPl
namespace Go.Proofs.YtjnongegddnobaaDoor
open Go.Vc
set_option maxRecDepth 100000
set_option linter.unusedSimpArgs false
set_option linter.unusedVariables false

def g_toI : List AV -> Prop × AV × Heap
  | [.ints xs] => (xs.length <= 1048576, .sl 0, [(0, .arr (.ints xs))])
  | _ => (False, .undef, [])
theorem g_toI_eq (xs : List Int) : g_toI [.ints xs] = (xs.length <= 1048576, .sl 0, [(0, .arr (.ints xs))]) := (rfl)
theorem toI_ok (xs : List Int) (hp : xs.length <= 1048576) : SpecOK Tryd.prog 49 [.ints xs] (.sl 0) [(0, .arr (.ints xs))] := by
  refine fun_ok (C := []) (hint := hintX [7] [] 0 [] [] [] []) (TabOK.nil _) mixed Tryd.func49 rfl (by kernel_rfl) rfl ?_
  show codeA _ _ _ _ _ _ _ _
  simp only [go_sem, Tryd.results49]
  refine ⟨⟨⟨by omega, by omega⟩, by omega⟩, ?_⟩
  refine loop_intro (fun k : Nat => [(3, .sl 0), (4, .int .i64 k), (0, .ints xs)]) (fun k => [(0, .arr (.ints (fill 0 xs k)))]) 1 (fun k => k <= xs.length) (fun k => xs.length - k) 0 (Nat.zero_le _) (Nat.zero_le _) ?_ ?_
  · simp only [go_sem]
    repeat' (first | refine fork_intro (fun hb => ?_) (fun hb => ?_) | refine partB_intro (fun hb => ?_) (fun hb => ?_) | refine And.intro ?_ ?_)
    all_goals first | trivial | rfl | omega | (rw [fill_zero]; rfl)
  · intro k hk
    simp only [go_sem]
    have hl := fill_len 0 xs hk
    refine fork_intro (fun hb => ?_) (fun hb => ?_)
    · refine ⟨by omega, by omega, by omega, ?_⟩
      refine LoopEnd.intro (k + 1) ?_ ?_ (Nat.zero_le _) ?_ <;> (try omega)
      have hfs := fill_set 0 xs (show k < xs.length by omega)
      simp only [go_sem, hfs]
      repeat' (first | refine fork_intro (fun hb => ?_) (fun hb => ?_) | refine partB_intro (fun hb => ?_) (fun hb => ?_) | refine And.intro ?_ ?_)
      all_goals first | trivial | rfl | omega
    · rw [show k = xs.length by omega, fill_end]
def t_toI : Table := [(49, ownC g_toI)]
theorem t_toI_ok : TabOK Tryd.prog t_toI := .cons Tryd.func49 (by kernel_rfl) (.own (by intro args hp; unfold g_toI at hp ⊢; split at hp <;> first | exact hp.elim | exact ⟨toI_ok _ hp, rfl⟩)) (.nil _)
attribute [go_sem] g_toI_eq t_toI
def g_szI : List AV -> Prop × AV
  | [.ints xs, .int .i64 l] => (xs.length <= 9223372036854775807 /\ 0 <= l /\ l <= 1048576, .int .i64 (szI xs l))
  | _ => (False, .undef)
theorem g_szI_eq (xs : List Int) (l : Int) : g_szI [.ints xs, .int .i64 l] = (xs.length <= 9223372036854775807 /\ 0 <= l /\ l <= 1048576, .int .i64 (szI xs l)) := (rfl)
theorem szI_ok (xs : List Int) (l : Int) (hp : xs.length <= 9223372036854775807 /\ 0 <= l /\ l <= 1048576) : SpecOK Tryd.prog 45 [.ints xs, .int .i64 l] (.int .i64 (szI xs l)) [] := by
  refine fun_ok (C := []) (hint := hintX [] [] 0 [] [] [] []) (TabOK.nil _) mixed Tryd.func45 rfl (by kernel_rfl) rfl ?_
  show codeA _ _ _ _ _ _ _ _
  simp only [go_sem, Tryd.results45]
  obtain ⟨hxs, hl⟩ := hp
  refine ⟨by omega, ?_⟩
  refine fork_intro (fun hb => ?_) (fun hb => ?_)
  · rw [szI, if_pos hb]
  · rw [szI, if_neg hb]
def t_szI : Table := [(45, pureC g_szI)]
theorem t_szI_ok : TabOK Tryd.prog t_szI := .cons Tryd.func45 (by kernel_rfl) (.pure (by intro args hp; unfold g_szI at hp ⊢; split at hp <;> first | exact hp.elim | exact szI_ok _ _ hp)) (.nil _)
attribute [go_sem] g_szI_eq t_szI
def g_eqI : List AV -> Prop × AV
  | [.ints xs, .ints ys] => (xs.length <= 1048576000, .bool (decide (xs = ys)))
  | _ => (False, .undef)
theorem g_eqI_eq (xs ys : List Int) : g_eqI [.ints xs, .ints ys] = (xs.length <= 1048576000, .bool (decide (xs = ys))) := (rfl)
theorem eqI_ok (xs ys : List Int) (hp : xs.length <= 1048576000) : SpecOK Tryd.prog 54 [.ints xs, .ints ys] (.bool (decide (xs = ys))) [] := by
  refine fun_ok (C := []) (hint := hintX [] [] 0 [] [] [] []) (TabOK.nil _) mixed Tryd.func54 rfl (by kernel_rfl) rfl ?_
  show codeA _ _ _ _ _ _ _ _
  simp only [go_sem, Tryd.results54]
  refine fork_intro (fun hb => ?_) (fun hb => ?_)
  · have hlen : xs.length = ys.length := by omega
    refine loop_intro (fun k : Nat => [(5, .int .i64 k), (0, .ints xs), (1, .ints ys)]) (fun _ => []) 0 (fun k => k <= xs.length /\ xs.take k = ys.take k) (fun k => xs.length - k) 0 ⟨Nat.zero_le _, rfl⟩ (Nat.zero_le _) ?_ ?_
    · simp only [go_sem]
      repeat' (first | refine fork_intro (fun hb => ?_) (fun hb => ?_) | refine partB_intro (fun hb => ?_) (fun hb => ?_) | refine And.intro ?_ ?_)
      all_goals first | trivial | rfl | omega
    · rintro k ⟨hk, ht⟩
      simp only [go_sem]
      refine fork_intro (fun hb => ?_) (fun hb => ?_)
      · refine ⟨by omega, by omega, ?_⟩
        have e := take_eq ht (ix_some xs (by omega)) (ix_some ys (show k < ys.length by omega))
        refine fork_intro (fun hc => ?_) (fun hc => ?_)
        · refine ⟨by omega, ?_⟩
          refine LoopEnd.intro (k + 1) ⟨by omega, e.2 hc⟩ (by omega) (Nat.zero_le _) ?_
          simp only [go_sem]
          repeat' (first | refine fork_intro (fun hb => ?_) (fun hb => ?_) | refine partB_intro (fun hb => ?_) (fun hb => ?_) | refine And.intro ?_ ?_)
          all_goals first | trivial | rfl | omega
        · rw [decide_eq_false]
          rintro rfl
          exact hc (e.1 rfl)
      · rw [decide_eq_true]
        rw [show k = xs.length by omega] at ht
        rw [List.take_length, hlen, List.take_length] at ht
        exact ht
  · rw [decide_eq_false]
    rintro rfl
    exact hb rfl
def t_eqI : Table := [(54, pureC g_eqI)]
theorem t_eqI_ok : TabOK Tryd.prog t_eqI := .cons Tryd.func54 (by kernel_rfl) (.pure (by intro args hp; unfold g_eqI at hp ⊢; split at hp <;> first | exact hp.elim | exact eqI_ok _ _ hp)) (.nil _)
attribute [go_sem] g_eqI_eq t_eqI
def g_szII : List AV -> Prop × AV
  | [.rows xs, .int .i64 l] => ((xs.length <= 9223372036854775807 /\ ∀ x ∈ xs, x.length <= 9223372036854775807) /\ 0 <= l /\ l <= 1048576, .int .i64 (szII xs l))
  | _ => (False, .undef)
theorem g_szII_eq (xs : List (List Int)) (l : Int) : g_szII [.rows xs, .int .i64 l] = ((xs.length <= 9223372036854775807 /\ ∀ x ∈ xs, x.length <= 9223372036854775807) /\ 0 <= l /\ l <= 1048576, .int .i64 (szII xs l)) := (rfl)
theorem szII_ok (xs : List (List Int)) (l : Int) (hp : (xs.length <= 9223372036854775807 /\ ∀ x ∈ xs, x.length <= 9223372036854775807) /\ 0 <= l /\ l <= 1048576) : SpecOK Tryd.prog 46 [.rows xs, .int .i64 l] (.int .i64 (szII xs l)) [] := by
  refine fun_ok (C := t_szI) (hint := hintX [] [] 0 [] [] [] []) (t_szI_ok) mixed Tryd.func46 rfl (by kernel_rfl) rfl ?_
  show codeA _ _ _ _ _ _ _ _
  simp only [go_sem, Tryd.results46]
  obtain ⟨⟨hxs, hr⟩, hl⟩ := hp
  refine ⟨by omega, ?_⟩
  refine fork_intro (fun hb => ?_) (fun hb => ?_)
  · rw [szII, if_pos hb]
  · refine loop_intro (fun g : Nat × Int => [(5, .int .i64 g.1), (0, .rows xs), (1, .int .i64 g.2)]) (fun _ => []) 0 (fun g => (g.1 <= xs.length /\ 0 <= g.2 /\ g.2 <= 1048576) /\ szR (xs.drop g.1) g.2 = szII xs l) (fun g => xs.length - g.1) (0, l - xs.length) ⟨⟨Nat.zero_le _, by omega, by omega⟩, by rw [szII, if_neg hb]; rfl⟩ (Nat.zero_le _) ?_ ?_
    · simp only [go_sem]
      repeat' (first | refine fork_intro (fun hb => ?_) (fun hb => ?_) | refine partB_intro (fun hb => ?_) (fun hb => ?_) | refine And.intro ?_ ?_)
      all_goals first | trivial | rfl | omega
    · rintro ⟨k, m⟩ ⟨⟨hk, hm⟩, ht⟩
      simp only at hk hm ht
      simp only [go_sem]
      refine fork_intro (fun hb => ?_) (fun hb => ?_)
      · have hmem := ix_mem xs (show k < xs.length by omega)
        have hbd := szI_bd (ix xs (k : Int)) hm
        rw [drop_ix xs (show k < xs.length by omega), szR] at ht
        refine ⟨by omega, ⟨hr _ hmem, hm⟩, ?_⟩
        refine fork_intro (fun hc => ?_) (fun hc => ?_)
        · rw [if_pos hc] at ht; rw [ht]
        · rw [if_neg hc] at ht
          refine ⟨by omega, ?_⟩
          refine LoopEnd.intro (k + 1, szI (ix xs (k : Int)) m) ⟨⟨by show k + 1 <= xs.length; omega, by show 0 <= szI _ _; omega, hbd.2⟩, ht⟩ (by show xs.length - (k + 1) < xs.length - k; omega) (Nat.zero_le _) ?_
          simp only [go_sem]
          repeat' (first | refine fork_intro (fun hb => ?_) (fun hb => ?_) | refine partB_intro (fun hb => ?_) (fun hb => ?_) | refine And.intro ?_ ?_)
          all_goals first | trivial | rfl | omega
      · rw [show k = xs.length by omega, List.drop_length] at ht
        rw [<- ht]; rfl
def t_szII : Table := [(46, pureC g_szII)]
theorem t_szII_ok : TabOK Tryd.prog t_szII := .cons Tryd.func46 (by kernel_rfl) (.pure (by intro args hp; unfold g_szII at hp ⊢; split at hp <;> first | exact hp.elim | exact szII_ok _ _ hp)) (.nil _)
attribute [go_sem] g_szII_eq t_szII
def g_toII : List AV -> Prop × AV × Heap
  | [.rows xs] => (xs.length <= 1048576 /\ ∀ x ∈ xs, x.length <= 1048576, .mt 0, [(0, .mat xs)])
  | _ => (False, .undef, [])
theorem g_toII_eq (xs : List (List Int)) : g_toII [.rows xs] = (xs.length <= 1048576 /\ ∀ x ∈ xs, x.length <= 1048576, .mt 0, [(0, .mat xs)]) := (rfl)
theorem toII_ok (xs : List (List Int)) (hp : xs.length <= 1048576 /\ ∀ x ∈ xs, x.length <= 1048576) : SpecOK Tryd.prog 50 [.rows xs] (.mt 0) [(0, .mat xs)] := by
  refine fun_ok (C := t_toI) (hint := hintX [20] [] 0 [] [7] [] []) (t_toI_ok) mixed Tryd.func50 rfl (by kernel_rfl) rfl ?_
  show codeA _ _ _ _ _ _ _ _
  simp only [go_sem, Tryd.results50]
  obtain ⟨hxs, hr⟩ := hp
  refine ⟨⟨by omega, by omega⟩, ?_⟩
  refine loop_intro (fun k : Nat => [(3, .mt 0), (4, .int .i64 k), (0, .rows xs)]) (fun k => [(0, .mat (fill [] xs k))]) 1 (fun k => k <= xs.length) (fun k => xs.length - k) 0 (Nat.zero_le _) (Nat.zero_le _) ?_ ?_
  · simp only [go_sem]
    repeat' (first | refine fork_intro (fun hb => ?_) (fun hb => ?_) | refine partB_intro (fun hb => ?_) (fun hb => ?_) | refine And.intro ?_ ?_)
    all_goals first | trivial | rfl | omega | (rw [fill_zero]; rfl)
  · intro k hk
    simp only [go_sem]
    have hl := fill_len [] xs hk
    refine fork_intro (fun hb => ?_) (fun hb => ?_)
    · have hmem := ix_mem xs (show k < xs.length by omega)
      refine ⟨by omega, hr _ hmem, by omega, by omega, ?_⟩
      refine LoopEnd.intro (k + 1) ?_ ?_ (Nat.zero_le _) ?_ <;> (try omega)
      have hfs := fill_set [] xs (show k < xs.length by omega)
      simp only [go_sem, hfs]
      repeat' (first | refine fork_intro (fun hb => ?_) (fun hb => ?_) | refine partB_intro (fun hb => ?_) (fun hb => ?_) | refine And.intro ?_ ?_)
      all_goals first | trivial | rfl | omega
    · rw [show k = xs.length by omega, fill_end]
def t_toII : Table := [(50, ownC g_toII)]
theorem t_toII_ok : TabOK Tryd.prog t_toII := .cons Tryd.func50 (by kernel_rfl) (.own (by intro args hp; unfold g_toII at hp ⊢; split at hp <;> first | exact hp.elim | exact ⟨toII_ok _ hp, rfl⟩)) (.nil _)
attribute [go_sem] g_toII_eq t_toII
def g_eqII : List AV -> Prop × AV
  | [.rows xs, .rows ys] => (xs.length <= 1048576000 /\ ∀ x ∈ xs, x.length <= 1048576000, .bool (decide (xs = ys)))
  | _ => (False, .undef)
theorem g_eqII_eq (xs ys : List (List Int)) : g_eqII [.rows xs, .rows ys] = (xs.length <= 1048576000 /\ ∀ x ∈ xs, x.length <= 1048576000, .bool (decide (xs = ys))) := (rfl)
theorem eqII_ok (xs ys : List (List Int)) (hp : xs.length <= 1048576000 /\ ∀ x ∈ xs, x.length <= 1048576000) : SpecOK Tryd.prog 55 [.rows xs, .rows ys] (.bool (decide (xs = ys))) [] := by
  refine fun_ok (C := t_eqI) (hint := hintX [] [] 0 [] [] [] []) (t_eqI_ok) mixed Tryd.func55 rfl (by kernel_rfl) rfl ?_
  show codeA _ _ _ _ _ _ _ _
  simp only [go_sem, Tryd.results55]
  obtain ⟨hxs, hr⟩ := hp
  refine fork_intro (fun hb => ?_) (fun hb => ?_)
  · have hlen : xs.length = ys.length := by omega
    refine loop_intro (fun k : Nat => [(5, .int .i64 k), (0, .rows xs), (1, .rows ys)]) (fun _ => []) 0 (fun k => k <= xs.length /\ xs.take k = ys.take k) (fun k => xs.length - k) 0 ⟨Nat.zero_le _, rfl⟩ (Nat.zero_le _) ?_ ?_
    · simp only [go_sem]
      repeat' (first | refine fork_intro (fun hb => ?_) (fun hb => ?_) | refine partB_intro (fun hb => ?_) (fun hb => ?_) | refine And.intro ?_ ?_)
      all_goals first | trivial | rfl | omega
    · rintro k ⟨hk, ht⟩
      simp only [go_sem]
      refine fork_intro (fun hb => ?_) (fun hb => ?_)
      · have hmem := ix_mem xs (show k < xs.length by omega)
        refine ⟨by omega, by omega, hr _ hmem, ?_⟩
        have e := take_eq ht (ix_some xs (by omega)) (ix_some ys (show k < ys.length by omega))
        refine fork_intro (fun hc => ?_) (fun hc => ?_)
        · refine ⟨by omega, ?_⟩
          refine LoopEnd.intro (k + 1) ⟨by omega, e.2 hc⟩ (by omega) (Nat.zero_le _) ?_
          simp only [go_sem]
          repeat' (first | refine fork_intro (fun hb => ?_) (fun hb => ?_) | refine partB_intro (fun hb => ?_) (fun hb => ?_) | refine And.intro ?_ ?_)
          all_goals first | trivial | rfl | omega
        · rw [decide_eq_false]
          rintro rfl
          exact hc (e.1 rfl)
      · rw [decide_eq_true]
        rw [show k = xs.length by omega] at ht
        rw [List.take_length, hlen, List.take_length] at ht
        exact ht
  · rw [decide_eq_false]
    rintro rfl
    exact hb rfl
def t_eqII : Table := [(55, pureC g_eqII)]
theorem t_eqII_ok : TabOK Tryd.prog t_eqII := .cons Tryd.func55 (by kernel_rfl) (.pure (by intro args hp; unfold g_eqII at hp ⊢; split at hp <;> first | exact hp.elim | exact eqII_ok _ _ hp)) (.nil _)
attribute [go_sem] g_eqII_eq t_eqII
def g_toF : List AV -> Prop × AV × Heap
  | [.agg [.ints o, .rows d]] => (o.length <= 1048576 /\ d.length <= 1048576 /\ ∀ x ∈ d, x.length <= 1048576, .agg [.sl 2, .mt 3], [(2, .arr (.ints o)), (3, .mat d)])
  | _ => (False, .undef, [])
theorem g_toF_eq (o : List Int) (d : List (List Int)) : g_toF [.agg [.ints o, .rows d]] = (o.length <= 1048576 /\ d.length <= 1048576 /\ ∀ x ∈ d, x.length <= 1048576, .agg [.sl 2, .mt 3], [(2, .arr (.ints o)), (3, .mat d)]) := (rfl)
theorem toF_ok (o : List Int) (d : List (List Int)) (hp : o.length <= 1048576 /\ d.length <= 1048576 /\ ∀ x ∈ d, x.length <= 1048576) : SpecOK Tryd.prog 25 [.agg [.ints o, .rows d]] (.agg [.sl 2, .mt 3]) [(2, .arr (.ints o)), (3, .mat d)] := by
  refine fun_ok (C := t_toI ++ t_toII) (hint := hintX [2, 3, 6, 10] [] 0 [] [] [] []) ((t_toI_ok).append t_toII_ok) mixed Tryd.func25 rfl (by kernel_rfl) rfl ?_
  show codeA _ _ _ _ _ _ _ _
  simp only [go_sem, Tryd.results25]
  exact hp
def t_toF : Table := [(25, ownC g_toF)]
theorem t_toF_ok : TabOK Tryd.prog t_toF := .cons Tryd.func25 (by kernel_rfl) (.own (by intro args hp; unfold g_toF at hp ⊢; split at hp <;> first | exact hp.elim | exact ⟨toF_ok _ _ hp, rfl⟩)) (.nil _)
attribute [go_sem] g_toF_eq t_toF
def g_szF : List AV -> Prop × AV
  | [.agg [.ints o, .rows d], .int .i64 l] => ((o.length <= 9223372036854775807 /\ d.length <= 9223372036854775807 /\ ∀ x ∈ d, x.length <= 9223372036854775807) /\ 0 <= l /\ l <= 1048576, .int .i64 (szF o d l))
  | _ => (False, .undef)
theorem g_szF_eq (o : List Int) (d : List (List Int)) (l : Int) : g_szF [.agg [.ints o, .rows d], .int .i64 l] = ((o.length <= 9223372036854775807 /\ d.length <= 9223372036854775807 /\ ∀ x ∈ d, x.length <= 9223372036854775807) /\ 0 <= l /\ l <= 1048576, .int .i64 (szF o d l)) := (rfl)
theorem szF_ok (o : List Int) (d : List (List Int)) (l : Int) (hp : (o.length <= 9223372036854775807 /\ d.length <= 9223372036854775807 /\ ∀ x ∈ d, x.length <= 9223372036854775807) /\ 0 <= l /\ l <= 1048576) : SpecOK Tryd.prog 23 [.agg [.ints o, .rows d], .int .i64 l] (.int .i64 (szF o d l)) [] := by
  refine fun_ok (C := t_szI ++ t_szII) (hint := hintX [] [] 0 [] [] [] []) ((t_szI_ok).append t_szII_ok) mixed Tryd.func23 rfl (by kernel_rfl) rfl ?_
  show codeA _ _ _ _ _ _ _ _
  simp only [go_sem, Tryd.results23]
  obtain ⟨⟨ho, hd, hr⟩, hl⟩ := hp
  have hb := szI_bd o hl
  refine ⟨⟨ho, hl⟩, ?_⟩
  refine fork_intro (fun h1 => ?_) (fun h1 => ?_)
  · rw [szF, if_pos h1]
  · refine ⟨⟨⟨hd, hr⟩, by omega, hb.2⟩, ?_⟩
    refine fork_intro (fun h2 => ?_) (fun h2 => ?_)
    · rw [szF, if_neg h1, if_pos h2]
    · rw [szF, if_neg h1, if_neg h2]
def t_szF : Table := [(23, pureC g_szF)]
theorem t_szF_ok : TabOK Tryd.prog t_szF := .cons Tryd.func23 (by kernel_rfl) (.pure (by intro args hp; unfold g_szF at hp ⊢; split at hp <;> first | exact hp.elim | exact szF_ok _ _ _ hp)) (.nil _)
attribute [go_sem] g_szF_eq t_szF
def g_eqF : List AV -> Prop × AV
  | [.agg [.ints o, .rows d], .agg [.ints o', .rows d']] => (o.length <= 1048576000 /\ d.length <= 1048576000 /\ ∀ x ∈ d, x.length <= 1048576000, .bool (decide (o = o' /\ d = d')))
  | _ => (False, .undef)
theorem g_eqF_eq (o o' : List Int) (d d' : List (List Int)) : g_eqF [.agg [.ints o, .rows d], .agg [.ints o', .rows d']] = (o.length <= 1048576000 /\ d.length <= 1048576000 /\ ∀ x ∈ d, x.length <= 1048576000, .bool (decide (o = o' /\ d = d'))) := (rfl)
theorem eqF_ok (o o' : List Int) (d d' : List (List Int)) (hp : o.length <= 1048576000 /\ d.length <= 1048576000 /\ ∀ x ∈ d, x.length <= 1048576000) : SpecOK Tryd.prog 27 [.agg [.ints o, .rows d], .agg [.ints o', .rows d']] (.bool (decide (o = o' /\ d = d'))) [] := by
  refine fun_ok (C := t_eqI ++ t_eqII) (hint := hintX [] [] 0 [] [] [] []) ((t_eqI_ok).append t_eqII_ok) mixed Tryd.func27 rfl (by kernel_rfl) rfl ?_
  show codeA _ _ _ _ _ _ _ _
  simp only [go_sem, Tryd.results27]
  obtain ⟨ho, hd, hr⟩ := hp
  refine ⟨ho, ?_⟩
  refine fork_intro (fun h1 => ?_) (fun h1 => ?_)
  · refine ⟨⟨hd, hr⟩, ?_⟩
    refine fork_intro (fun h2 => ?_) (fun h2 => ?_)
    · rw [decide_eq_true ⟨h1, h2⟩]
    · rw [decide_eq_false (fun h => h2 h.2)]
  · rw [decide_eq_false (fun h => h1 h.1)]
def t_eqF : Table := [(27, pureC g_eqF)]
theorem t_eqF_ok : TabOK Tryd.prog t_eqF := .cons Tryd.func27 (by kernel_rfl) (.pure (by intro args hp; unfold g_eqF at hp ⊢; split at hp <;> first | exact hp.elim | exact eqF_ok _ _ _ _ hp)) (.nil _)
attribute [go_sem] g_eqF_eq t_eqF

def g_markI : List AV -> Heap -> Prop × AV × Heap
  | [.sl 0, .int .i64 k], [(0, .arr (.ints xs))] => (xs.length <= 1048576000 /\ 0 <= k /\ k <= 1048576000000, .int .i64 (k + xs.length), [(0, .arr (.ints (upF k xs.length)))])
  | _, _ => (False, .undef, [])
theorem g_markI_eq (xs : List Int) (k : Int) : g_markI [.sl 0, .int .i64 k] [(0, .arr (.ints xs))] = (xs.length <= 1048576000 /\ 0 <= k /\ k <= 1048576000000, .int .i64 (k + xs.length), [(0, .arr (.ints (upF k xs.length)))]) := (rfl)
theorem markI_ok (xs : List Int) (k : Int) (hp : xs.length <= 1048576000 /\ 0 <= k /\ k <= 1048576000000) : SpecM Tryd.prog 58 [.sl 0, .int .i64 k] [(0, .arr (.ints xs))] 1 (.int .i64 (k + xs.length)) [(0, .arr (.ints (upF k xs.length)))] := by
  refine fun_okM (C := []) (hint := hintX [] [] 1 [] [] [] []) (TabOK.nil _) mixed Tryd.func58 rfl (by kernel_rfl) rfl (Nat.le_refl _) (upTo_look rfl) (shapes ?_) ?_
  · exact ⟨fun k' h => by cases h; exact ss_ints (upF_len _ _).symm, trivial⟩
  show codeA _ _ _ _ _ _ _ _
  simp only [go_sem, Tryd.results58]
  obtain ⟨hx, hk⟩ := hp
  have hl := upF_len k xs.length
  refine loop_intro (fun j : Nat => [(1, .int .i64 (k + j)), (5, .int .i64 j), (0, .sl 0)]) (fun j => [(0, .arr (.ints (over (upF k xs.length) xs j)))]) 1 (fun j => j <= xs.length) (fun j => xs.length - j) 0 (Nat.zero_le _) (Nat.le_refl _) ?_ ?_
  · simp only [go_sem]
    repeat' (first | refine fork_intro (fun hb => ?_) (fun hb => ?_) | refine partB_intro (fun hb => ?_) (fun hb => ?_) | refine And.intro ?_ ?_)
    all_goals first | trivial | rfl | omega | simp [over_zero]
  · intro j hj
    have hol := over_len (upF k xs.length) xs hl.symm hj
    simp only [go_sem]
    refine fork_intro (fun hb => ?_) (fun hb => ?_)
    · have hfs := over_set (upF k xs.length) xs hl.symm (show j < xs.length by omega)
      rw [upF_ix k xs.length j (by omega)] at hfs
      refine ⟨by omega, by omega, by omega, ?_⟩
      refine LoopEnd.intro (j + 1) ?_ ?_ (Nat.le_refl _) ?_ <;> (try omega)
      simp only [go_sem, hfs]
      repeat' (first | refine fork_intro (fun hb => ?_) (fun hb => ?_) | refine partB_intro (fun hb => ?_) (fun hb => ?_) | refine And.intro ?_ ?_)
      all_goals first | trivial | rfl | omega | (congr 1; omega)
    · rw [show j = xs.length by omega, over_end _ _ hl.symm]
      repeat' (first | refine fork_intro (fun hb => ?_) (fun hb => ?_) | refine partB_intro (fun hb => ?_) (fun hb => ?_) | refine And.intro ?_ ?_)
      all_goals first | trivial | rfl
def t_markI : Table := [(58, mutC 1 g_markI)]
theorem t_markI_ok : TabOK Tryd.prog t_markI := .cons Tryd.func58 (by kernel_rfl) (.mut (by intro args pre _ hp; unfold g_markI at hp ⊢; split at hp <;> first | exact hp.elim | exact markI_ok _ _ hp)) (.nil _)
attribute [go_sem] g_markI_eq t_markI
def g_heldI : List AV -> Prop × AV
  | [.ints xs, .int .i64 k] => (xs.length <= 1048576000 /\ 0 <= k /\ k <= 1048576000000, .int .i64 (if xs = upF k xs.length then k + xs.length else -1))
  | _ => (False, .undef)
theorem g_heldI_eq (xs : List Int) (k : Int) : g_heldI [.ints xs, .int .i64 k] = (xs.length <= 1048576000 /\ 0 <= k /\ k <= 1048576000000, .int .i64 (if xs = upF k xs.length then k + xs.length else -1)) := (rfl)
theorem heldI_ok (xs : List Int) (k : Int) (hp : xs.length <= 1048576000 /\ 0 <= k /\ k <= 1048576000000) : SpecOK Tryd.prog 60 [.ints xs, .int .i64 k] (.int .i64 (if xs = upF k xs.length then k + xs.length else -1)) [] := by
  refine fun_ok (C := []) (hint := hintX [] [] 0 [] [] [] []) (TabOK.nil _) mixed Tryd.func60 rfl (by kernel_rfl) rfl ?_
  show codeA _ _ _ _ _ _ _ _
  simp only [go_sem, Tryd.results60]
  obtain ⟨hx, hk⟩ := hp
  have hl := upF_len k xs.length
  refine loop_intro (fun j : Nat => [(1, .int .i64 (k + j)), (5, .int .i64 j), (0, .ints xs)]) (fun _ => []) 0 (fun j => j <= xs.length /\ xs.take j = (upF k xs.length).take j) (fun j => xs.length - j) 0 ⟨Nat.zero_le _, rfl⟩ (Nat.le_refl _) ?_ ?_
  · simp only [go_sem]
    repeat' (first | refine fork_intro (fun hb => ?_) (fun hb => ?_) | refine partB_intro (fun hb => ?_) (fun hb => ?_) | refine And.intro ?_ ?_)
    all_goals first | trivial | rfl | omega | simp
  · rintro j ⟨hj, ht⟩
    simp only [go_sem]
    refine fork_intro (fun hb => ?_) (fun hb => ?_)
    · have e := take_eq ht (ix_some xs (show j < xs.length by omega)) (ix_some (upF k xs.length) (show j < (upF k xs.length).length by omega))
      rw [upF_ix k xs.length j (by omega)] at e
      refine ⟨by omega, ?_⟩
      refine fork_intro (fun hc => ?_) (fun hc => ?_)
      · refine ⟨by omega, by omega, ?_⟩
        refine LoopEnd.intro (j + 1) ⟨by omega, e.2 hc⟩ (by omega) (Nat.le_refl _) ?_
        simp only [go_sem]
        repeat' (first | refine fork_intro (fun hb => ?_) (fun hb => ?_) | refine partB_intro (fun hb => ?_) (fun hb => ?_) | refine And.intro ?_ ?_)
        all_goals first | trivial | rfl | omega | (congr 1; omega)
      · rw [if_neg]
        intro h
        exact hc (e.1 (by rw [<- h]))
    · rw [show j = xs.length by omega, List.take_length] at ht
      have h2 : xs = upF k xs.length := ht.trans (by rw [List.take_of_length_le (by omega)])
      rw [if_pos h2, show j = xs.length by omega]
def t_heldI : Table := [(60, pureC g_heldI)]
theorem t_heldI_ok : TabOK Tryd.prog t_heldI := .cons Tryd.func60 (by kernel_rfl) (.pure (by intro args hp; unfold g_heldI at hp ⊢; split at hp <;> first | exact hp.elim | exact heldI_ok _ _ hp)) (.nil _)
attribute [go_sem] g_heldI_eq t_heldI
def g_markII : List AV -> Heap -> Prop × AV × Heap
  | [.mt 0, .int .i64 k], [(0, .mat xs)] => ((xs.length <= 1048576000 /\ sumLen xs <= 1048576000) /\ 0 <= k /\ k <= 1048576000, .int .i64 (k + sumLen xs), [(0, .mat (markR k xs))])
  | _, _ => (False, .undef, [])
theorem g_markII_eq (xs : List (List Int)) (k : Int) : g_markII [.mt 0, .int .i64 k] [(0, .mat xs)] = ((xs.length <= 1048576000 /\ sumLen xs <= 1048576000) /\ 0 <= k /\ k <= 1048576000, .int .i64 (k + sumLen xs), [(0, .mat (markR k xs))]) := (rfl)
theorem markII_ok (xs : List (List Int)) (k : Int) (hp : (xs.length <= 1048576000 /\ sumLen xs <= 1048576000) /\ 0 <= k /\ k <= 1048576000) : SpecM Tryd.prog 59 [.mt 0, .int .i64 k] [(0, .mat xs)] 1 (.int .i64 (k + sumLen xs)) [(0, .mat (markR k xs))] := by
  refine fun_okM (C := t_markI) (hint := hintX [] [] 1 [58] [] [] []) (t_markI_ok) mixed Tryd.func59 rfl (by kernel_rfl) rfl (Nat.le_refl _) (upTo_look rfl) (shapes ?_) ?_
  · exact ⟨fun k' h => by cases h; exact ss_mat (markR_lens _ _).symm, trivial⟩
  show codeA _ _ _ _ _ _ _ _
  simp only [go_sem, Tryd.results59]
  obtain ⟨⟨hx, hs⟩, hk⟩ := hp
  have hl := markR_len k xs
  refine loop_intro (fun j : Nat => [(1, .int .i64 (k + (sumLen xs - sumLen (xs.drop j)))), (5, .int .i64 j), (0, .mt 0)]) (fun j => [(0, .mat (over (markR k xs) xs j))]) 1 (fun j => j <= xs.length) (fun j => xs.length - j) 0 (Nat.zero_le _) (Nat.le_refl _) ?_ ?_
  · simp only [go_sem]
    repeat' (first | refine fork_intro (fun hb => ?_) (fun hb => ?_) | refine partB_intro (fun hb => ?_) (fun hb => ?_) | refine And.intro ?_ ?_)
    all_goals first | trivial | rfl | omega | simp [over_zero]
  · intro j hj
    have hol := over_len (markR k xs) xs hl.symm hj
    have hdl := sumLen_drop_le xs j
    have hdn := sumLen_nonneg (xs.drop j)
    simp only [go_sem]
    refine fork_intro (fun hb => ?_) (fun hb => ?_)
    · have hox := over_ix (markR k xs) xs hl.symm (show j < xs.length by omega)
      have hsd := sumLen_drop xs (show j < xs.length by omega)
      have hdn2 := sumLen_nonneg (xs.drop (j + 1))
      have hfs := over_set (markR k xs) xs hl.symm (show j < xs.length by omega)
      rw [markR_ix xs k (show j < xs.length by omega)] at hfs
      rw [hox]
      refine ⟨by omega, ⟨by omega, by omega⟩, by omega, ?_⟩
      refine LoopEnd.intro (j + 1) ?_ ?_ (Nat.le_refl _) ?_ <;> (try omega)
      simp only [go_sem, hfs]
      repeat' (first | refine fork_intro (fun hb => ?_) (fun hb => ?_) | refine partB_intro (fun hb => ?_) (fun hb => ?_) | refine And.intro ?_ ?_)
      all_goals first | trivial | rfl | omega | (congr 1; omega)
    · rw [show j = xs.length by omega, over_end _ _ hl.symm, List.drop_length]
      repeat' (first | refine fork_intro (fun hb => ?_) (fun hb => ?_) | refine partB_intro (fun hb => ?_) (fun hb => ?_) | refine And.intro ?_ ?_)
      all_goals first | trivial | rfl | simp [sumLen]
def t_markII : Table := [(59, mutC 1 g_markII)]
theorem t_markII_ok : TabOK Tryd.prog t_markII := .cons Tryd.func59 (by kernel_rfl) (.mut (by intro args pre _ hp; unfold g_markII at hp ⊢; split at hp <;> first | exact hp.elim | exact markII_ok _ _ hp)) (.nil _)
attribute [go_sem] g_markII_eq t_markII
def g_heldII : List AV -> Prop × AV
  | [.rows xs, .int .i64 k] => ((xs.length <= 1048576000 /\ sumLen xs <= 1048576000) /\ 0 <= k /\ k <= 1048576000, .int .i64 (if xs = markR k xs then k + sumLen xs else -1))
  | _ => (False, .undef)
theorem g_heldII_eq (xs : List (List Int)) (k : Int) : g_heldII [.rows xs, .int .i64 k] = ((xs.length <= 1048576000 /\ sumLen xs <= 1048576000) /\ 0 <= k /\ k <= 1048576000, .int .i64 (if xs = markR k xs then k + sumLen xs else -1)) := (rfl)
theorem heldII_ok (xs : List (List Int)) (k : Int) (hp : (xs.length <= 1048576000 /\ sumLen xs <= 1048576000) /\ 0 <= k /\ k <= 1048576000) : SpecOK Tryd.prog 61 [.rows xs, .int .i64 k] (.int .i64 (if xs = markR k xs then k + sumLen xs else -1)) [] := by
  refine fun_ok (C := t_heldI) (hint := hintX [] [] 0 [] [] [] []) (t_heldI_ok) mixed Tryd.func61 rfl (by kernel_rfl) rfl ?_
  show codeA _ _ _ _ _ _ _ _
  simp only [go_sem, Tryd.results61]
  obtain ⟨⟨hx, hs⟩, hk⟩ := hp
  have hl := markR_len k xs
  refine loop_intro (fun j : Nat => [(1, .int .i64 (k + (sumLen xs - sumLen (xs.drop j)))), (5, .int .i64 j), (0, .rows xs)]) (fun _ => []) 0 (fun j => j <= xs.length /\ xs.take j = (markR k xs).take j) (fun j => xs.length - j) 0 ⟨Nat.zero_le _, rfl⟩ (Nat.le_refl _) ?_ ?_
  · simp only [go_sem]
    repeat' (first | refine fork_intro (fun hb => ?_) (fun hb => ?_) | refine partB_intro (fun hb => ?_) (fun hb => ?_) | refine And.intro ?_ ?_)
    all_goals first | trivial | rfl | omega | simp
  · rintro j ⟨hj, ht⟩
    have hdl := sumLen_drop_le xs j
    have hdn := sumLen_nonneg (xs.drop j)
    simp only [go_sem]
    refine fork_intro (fun hb => ?_) (fun hb => ?_)
    · have hsd := sumLen_drop xs (show j < xs.length by omega)
      have hdn2 := sumLen_nonneg (xs.drop (j + 1))
      have e := take_eq ht (ix_some xs (show j < xs.length by omega)) (ix_some (markR k xs) (show j < (markR k xs).length by omega))
      rw [markR_ix xs k (by omega)] at e
      refine ⟨by omega, ⟨by omega, by omega⟩, ?_⟩
      by_cases hc : ix xs (j : Int) = upF (k + (sumLen xs - sumLen (xs.drop j))) (ix xs (j : Int)).length
      · rw [if_pos hc]
        refine fork_intro (fun hd => ?_) (fun hd => ?_)
        · exfalso; omega
        · refine ⟨by omega, ?_⟩
          refine LoopEnd.intro (j + 1) ⟨by omega, e.2 hc⟩ (by omega) (Nat.le_refl _) ?_
          simp only [go_sem]
          repeat' (first | refine fork_intro (fun hb => ?_) (fun hb => ?_) | refine partB_intro (fun hb => ?_) (fun hb => ?_) | refine And.intro ?_ ?_)
          all_goals first | trivial | rfl | omega | (congr 1; omega)
      · rw [if_neg hc]
        refine fork_intro (fun hd => ?_) (fun hd => ?_)
        · rw [if_neg]
          intro h
          exact hc (e.1 (by rw [<- h]))
        · exfalso; omega
    · rw [show j = xs.length by omega, List.take_length] at ht
      have h2 : xs = markR k xs := ht.trans (by rw [List.take_of_length_le (by omega)])
      rw [if_pos h2, show j = xs.length by omega, List.drop_length]
      simp [sumLen]
def t_heldII : Table := [(61, pureC g_heldII)]
theorem t_heldII_ok : TabOK Tryd.prog t_heldII := .cons Tryd.func61 (by kernel_rfl) (.pure (by intro args hp; unfold g_heldII at hp ⊢; split at hp <;> first | exact hp.elim | exact heldII_ok _ _ hp)) (.nil _)
attribute [go_sem] g_heldII_eq t_heldII
def g_markF : List AV -> Heap -> Prop × AV × Heap
  | [.agg [.sl 0, .mt 1], .int .i64 k], [(0, .arr (.ints o)), (1, .mat d)] => ((o.length <= 2000000 /\ d.length <= 2000000 /\ sumLen d <= 2000000) /\ 0 <= k /\ k <= 100000000, .int .i64 (k + o.length + sumLen d), [(0, .arr (.ints (upF k o.length))), (1, .mat (markR (k + o.length) d))])
  | _, _ => (False, .undef, [])
theorem g_markF_eq (o : List Int) (d : List (List Int)) (k : Int) : g_markF [.agg [.sl 0, .mt 1], .int .i64 k] [(0, .arr (.ints o)), (1, .mat d)] = ((o.length <= 2000000 /\ d.length <= 2000000 /\ sumLen d <= 2000000) /\ 0 <= k /\ k <= 100000000, .int .i64 (k + o.length + sumLen d), [(0, .arr (.ints (upF k o.length))), (1, .mat (markR (k + o.length) d))]) := (rfl)
theorem markF_ok (o : List Int) (d : List (List Int)) (k : Int) (hp : (o.length <= 2000000 /\ d.length <= 2000000 /\ sumLen d <= 2000000) /\ 0 <= k /\ k <= 100000000) : SpecM Tryd.prog 30 [.agg [.sl 0, .mt 1], .int .i64 k] [(0, .arr (.ints o)), (1, .mat d)] 2 (.int .i64 (k + o.length + sumLen d)) [(0, .arr (.ints (upF k o.length))), (1, .mat (markR (k + o.length) d))] := by
  refine fun_okM (C := t_markI ++ t_markII) (hint := hintX [2] [] 2 [58, 59] [] [] []) ((t_markI_ok).append t_markII_ok) mixed Tryd.func30 rfl (by kernel_rfl) rfl (Nat.le_refl _) (upTo_look rfl) (shapes ?_) ?_
  · exact ⟨fun k' h => by cases h; exact ss_ints (upF_len _ _).symm, fun k' h => by cases h; exact ss_mat (markR_lens _ _).symm, trivial⟩
  show codeA _ _ _ _ _ _ _ _
  simp only [go_sem, Tryd.results30]
  omega
def t_markF : Table := [(30, mutC 2 g_markF)]
theorem t_markF_ok : TabOK Tryd.prog t_markF := .cons Tryd.func30 (by kernel_rfl) (.mut (by intro args pre _ hp; unfold g_markF at hp ⊢; split at hp <;> first | exact hp.elim | exact markF_ok _ _ _ hp)) (.nil _)
attribute [go_sem] g_markF_eq t_markF
def g_heldF : List AV -> Prop × AV
  | [.agg [.ints o, .rows d], .int .i64 k] => ((o.length <= 2000000 /\ d.length <= 2000000 /\ sumLen d <= 2000000) /\ 0 <= k /\ k <= 100000000, .int .i64 (if o = upF k o.length /\ d = markR (k + o.length) d then k + o.length + sumLen d else -1))
  | _ => (False, .undef)
theorem g_heldF_eq (o : List Int) (d : List (List Int)) (k : Int) : g_heldF [.agg [.ints o, .rows d], .int .i64 k] = ((o.length <= 2000000 /\ d.length <= 2000000 /\ sumLen d <= 2000000) /\ 0 <= k /\ k <= 100000000, .int .i64 (if o = upF k o.length /\ d = markR (k + o.length) d then k + o.length + sumLen d else -1)) := (rfl)
theorem heldF_ok (o : List Int) (d : List (List Int)) (k : Int) (hp : (o.length <= 2000000 /\ d.length <= 2000000 /\ sumLen d <= 2000000) /\ 0 <= k /\ k <= 100000000) : SpecOK Tryd.prog 31 [.agg [.ints o, .rows d], .int .i64 k] (.int .i64 (if o = upF k o.length /\ d = markR (k + o.length) d then k + o.length + sumLen d else -1)) [] := by
  refine fun_ok (C := t_heldI ++ t_heldII) (hint := hintX [] [] 0 [] [] [] []) ((t_heldI_ok).append t_heldII_ok) mixed Tryd.func31 rfl (by kernel_rfl) rfl ?_
  show codeA _ _ _ _ _ _ _ _
  simp only [go_sem, Tryd.results31]
  refine ⟨by omega, ?_⟩
  have hn := sumLen_nonneg d
  by_cases h1 : o = upF k o.length
  · rw [if_pos h1]
    refine fork_intro (fun hb => ?_) (fun hb => ?_)
    · omega
    · refine ⟨by omega, ?_⟩
      by_cases h2 : d = markR (k + o.length) d
      · rw [if_pos h2, if_pos ⟨h1, h2⟩]
        exact fork_intro (fun hb => by omega) (fun hb => rfl)
      · rw [if_neg h2, if_neg (fun h => h2 h.2)]
        exact fork_intro (fun hb => rfl) (fun hb => by omega)
  · rw [if_neg h1, if_neg (fun h => h1 h.1)]
    exact fork_intro (fun hb => rfl) (fun hb => by omega)
def t_heldF : Table := [(31, pureC g_heldF)]
theorem t_heldF_ok : TabOK Tryd.prog t_heldF := .cons Tryd.func31 (by kernel_rfl) (.pure (by intro args hp; unfold g_heldF at hp ⊢; split at hp <;> first | exact hp.elim | exact heldF_ok _ _ _ hp)) (.nil _)
attribute [go_sem] g_heldF_eq t_heldF
end Go.Proofs.YtjnongegddnobaaDoor
