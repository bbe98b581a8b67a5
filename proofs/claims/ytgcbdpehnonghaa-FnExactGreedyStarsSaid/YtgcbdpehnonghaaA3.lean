/- Checks of lists and fields: both packages say the same. -/
import Derived.Test.YtgcbdpehnonghaaA2
namespace Go.Proofs.Ytgcbdpehnonghaa
open Go.Vc
set_option maxRecDepth 100000
set_option linter.unusedSimpArgs false
set_option linter.unusedVariables false

def g_l1In : List AV -> Prop × AV
  | [.int .i64 x, .int .i64 a, .int .i64 b] => (True, .bool (decide (a <= x /\ x <= b)))
  | _ => (False, .undef)
theorem g_l1In_eq (x a b : Int) : g_l1In [.int .i64 x, .int .i64 a, .int .i64 b] = (True, .bool (decide (a <= x /\ x <= b))) := (rfl)
theorem l1In_ok (x a b : Int) (hp : True) : SpecOK Try.prog 49 [.int .i64 x, .int .i64 a, .int .i64 b] (.bool (decide (a <= x /\ x <= b))) [] := by
  refine fun_ok (C := []) (hint := hintX [] [] 0 [] [] [] []) (TabOK.nil _) mixed Try.func49 rfl (by kernel_rfl) rfl ?_
  show codeA _ _ _ _ _ _ _ _
  simp only [go_sem, Try.results49]
  refine fork_intro (fun h1 => ?_) (fun h1 => ?_) <;> simp [h1]
def t_l1In : Table := [(49, pureC g_l1In)]
theorem t_l1In_ok : TabOK Try.prog t_l1In := .cons Try.func49 (by kernel_rfl) (.pure (by intro args hp; unfold g_l1In at hp ⊢; split at hp <;> first | exact hp.elim | exact l1In_ok _ _ _ hp)) (.nil _)
attribute [go_sem] g_l1In_eq t_l1In
def g_between : List AV -> Prop × AV
  | [.int .i64 x, .int .i64 a, .int .i64 b] => (True, .bool (decide (a <= x /\ x <= b)))
  | _ => (False, .undef)
theorem g_between_eq (x a b : Int) : g_between [.int .i64 x, .int .i64 a, .int .i64 b] = (True, .bool (decide (a <= x /\ x <= b))) := (rfl)
theorem between_ok (x a b : Int) (hp : True) : SpecOK Try.prog 52 [.int .i64 x, .int .i64 a, .int .i64 b] (.bool (decide (a <= x /\ x <= b))) [] := by
  refine fun_ok (C := []) (hint := hintX [] [] 0 [] [] [] []) (TabOK.nil _) mixed Try.func52 rfl (by kernel_rfl) rfl ?_
  show codeA _ _ _ _ _ _ _ _
  simp only [go_sem, Try.results52]
  refine fork_intro (fun h1 => ?_) (fun h1 => ?_) <;> simp [h1]
def t_between : Table := [(52, pureC g_between)]
theorem t_between_ok : TabOK Try.prog t_between := .cons Try.func52 (by kernel_rfl) (.pure (by intro args hp; unfold g_between at hp ⊢; split at hp <;> first | exact hp.elim | exact between_ok _ _ _ hp)) (.nil _)
attribute [go_sem] g_between_eq t_between
def g_btw1 : List AV -> Prop × AV
  | [.int .i64 x, .iptr [.int .i64 a], .iptr [.int .i64 b]] => (True, .bool (!decide (a <= x /\ x <= b)))
  | _ => (False, .undef)
theorem g_btw1_eq (x a b : Int) : g_btw1 [.int .i64 x, .iptr [.int .i64 a], .iptr [.int .i64 b]] = (True, .bool (!decide (a <= x /\ x <= b))) := (rfl)
theorem btw1_ok (x a b : Int) (hp : True) : SpecOK Try.prog 69 [.int .i64 x, .iptr [.int .i64 a], .iptr [.int .i64 b]] (.bool (!decide (a <= x /\ x <= b))) [] := by
  refine fun_ok (C := t_between) (hint := hintX [] [] 0 [] [] [] []) (t_between_ok) mixed Try.func69 rfl (by kernel_rfl) rfl ?_
  show codeA _ _ _ _ _ _ _ _
  simp only [go_sem, Try.results69]

def t_btw1 : Table := [(69, pureC g_btw1)]
theorem t_btw1_ok : TabOK Try.prog t_btw1 := .cons Try.func69 (by kernel_rfl) (.pure (by intro args hp; unfold g_btw1 at hp ⊢; split at hp <;> first | exact hp.elim | exact btw1_ok _ _ _ hp)) (.nil _)
attribute [go_sem] g_btw1_eq t_btw1
def g_idxBtw : List AV -> Prop × AV
  | [.ints xs, .fn 69 [.iptr [.int .i64 a], .iptr [.int .i64 b]]] => (xs.length <= 1048576000, .int .i64 (idxG (fun x => !decide (a <= x /\ x <= b)) xs 0))
  | _ => (False, .undef)
theorem g_idxBtw_eq (xs : List Int) (a b : Int) : g_idxBtw [.ints xs, .fn 69 [.iptr [.int .i64 a], .iptr [.int .i64 b]]] = (xs.length <= 1048576000, .int .i64 (idxG (fun x => !decide (a <= x /\ x <= b)) xs 0)) := (rfl)
theorem idxBtw_ok (xs : List Int) (a b : Int) (hp : xs.length <= 1048576000) : SpecOK Try.prog 61 [.ints xs, .fn 69 [.iptr [.int .i64 a], .iptr [.int .i64 b]]] (.int .i64 (idxG (fun x => !decide (a <= x /\ x <= b)) xs 0)) [] := by
  refine fun_ok (C := t_btw1) (hint := hintX [] [] 0 [] [] [] []) (t_btw1_ok) mixed Try.func61 rfl (by kernel_rfl) rfl ?_
  show codeA _ _ _ _ _ _ _ _
  simp only [go_sem, Try.results61]
  refine loop_intro (fun k : Nat => [(8, .int .i64 k), (7, .int .i64 xs.length), (0, .ints xs), (1, .fn 69 [.iptr [.int .i64 a], .iptr [.int .i64 b]])]) (fun _ => []) 0 (fun k => k <= xs.length /\ idxG (fun x => !decide (a <= x /\ x <= b)) (xs.drop k) k = idxG (fun x => !decide (a <= x /\ x <= b)) xs 0) (fun k => xs.length - k) 0 ⟨Nat.zero_le _, rfl⟩ (Nat.zero_le _) ?_ ?_
  · simp only [go_sem]
    repeat' (first | refine fork_intro (fun hb => ?_) (fun hb => ?_) | refine partB_intro (fun hb => ?_) (fun hb => ?_) | refine And.intro ?_ ?_)
    all_goals first | trivial | rfl | omega
  · rintro k ⟨hk, ht⟩
    simp only [go_sem]
    refine fork_intro (fun hb => ?_) (fun hb => ?_)
    · rw [drop_ix xs (show k < xs.length by omega), idxG] at ht
      refine ⟨by omega, fork_intro (fun hc => ?_) (fun hc => ?_)⟩
      · rw [if_neg (by simp [hc])] at ht
        refine ⟨by omega, ?_⟩
        refine LoopEnd.intro (k + 1) ⟨by omega, ht⟩ (by omega) (Nat.zero_le _) ?_
        simp only [go_sem]
        repeat' (first | refine fork_intro (fun hb => ?_) (fun hb => ?_) | refine partB_intro (fun hb => ?_) (fun hb => ?_) | refine And.intro ?_ ?_)
        all_goals first | trivial | rfl | omega
      · rw [if_pos (by simp [hc])] at ht
        rw [<- ht]
    · rw [show k = xs.length by omega, List.drop_length] at ht
      rw [<- ht]; rfl
def t_idxBtw : Table := [(61, pureC g_idxBtw)]
theorem t_idxBtw_ok : TabOK Try.prog t_idxBtw := .cons Try.func61 (by kernel_rfl) (.pure (by intro args hp; unfold g_idxBtw at hp ⊢; split at hp <;> first | exact hp.elim | exact idxBtw_ok _ _ _ hp)) (.nil _)
attribute [go_sem] g_idxBtw_eq t_idxBtw
def g_ctnBtw : List AV -> Prop × AV
  | [.ints xs, .fn 69 [.iptr [.int .i64 a], .iptr [.int .i64 b]]] => (xs.length <= 1048576000, .bool (xs.any fun x => !decide (a <= x /\ x <= b)))
  | _ => (False, .undef)
theorem g_ctnBtw_eq (xs : List Int) (a b : Int) : g_ctnBtw [.ints xs, .fn 69 [.iptr [.int .i64 a], .iptr [.int .i64 b]]] = (xs.length <= 1048576000, .bool (xs.any fun x => !decide (a <= x /\ x <= b))) := (rfl)
theorem ctnBtw_ok (xs : List Int) (a b : Int) (hp : xs.length <= 1048576000) : SpecOK Try.prog 68 [.ints xs, .fn 69 [.iptr [.int .i64 a], .iptr [.int .i64 b]]] (.bool (xs.any fun x => !decide (a <= x /\ x <= b))) [] := by
  refine fun_ok (C := t_idxBtw) (hint := hintX [] [] 0 [] [] [] []) (t_idxBtw_ok) mixed Try.func68 rfl (by kernel_rfl) rfl ?_
  show codeA _ _ _ _ _ _ _ _
  simp only [go_sem, Try.results68]
  refine ⟨hp, ?_⟩
  rw [<- idxG_any _ xs 0 (by omega)]
def t_ctnBtw : Table := [(68, pureC g_ctnBtw)]
theorem t_ctnBtw_ok : TabOK Try.prog t_ctnBtw := .cons Try.func68 (by kernel_rfl) (.pure (by intro args hp; unfold g_ctnBtw at hp ⊢; split at hp <;> first | exact hp.elim | exact ctnBtw_ok _ _ _ hp)) (.nil _)
attribute [go_sem] g_ctnBtw_eq t_ctnBtw
def g_areBtw : List AV -> Prop × AV
  | [.ints xs, .int .i64 a, .int .i64 b] => (xs.length <= 1048576000, .bool (xs.all fun x => decide (a <= x /\ x <= b)))
  | _ => (False, .undef)
theorem g_areBtw_eq (xs : List Int) (a b : Int) : g_areBtw [.ints xs, .int .i64 a, .int .i64 b] = (xs.length <= 1048576000, .bool (xs.all fun x => decide (a <= x /\ x <= b))) := (rfl)
theorem areBtw_ok (xs : List Int) (a b : Int) (hp : xs.length <= 1048576000) : SpecOK Try.prog 53 [.ints xs, .int .i64 a, .int .i64 b] (.bool (xs.all fun x => decide (a <= x /\ x <= b))) [] := by
  refine fun_ok (C := t_ctnBtw) (hint := hintX [] [] 0 [] [] [] []) (t_ctnBtw_ok) mixed Try.func53 rfl (by kernel_rfl) rfl ?_
  show codeA _ _ _ _ _ _ _ _
  simp only [go_sem, Try.results53]
  refine ⟨hp, ?_⟩
  congr 1
  rw [List.all_eq_not_any_not]
def t_areBtw : Table := [(53, pureC g_areBtw)]
theorem t_areBtw_ok : TabOK Try.prog t_areBtw := .cons Try.func53 (by kernel_rfl) (.pure (by intro args hp; unfold g_areBtw at hp ⊢; split at hp <;> first | exact hp.elim | exact areBtw_ok _ _ _ hp)) (.nil _)
attribute [go_sem] g_areBtw_eq t_areBtw
def g_l2Row : List AV -> Prop × AV
  | [.ints xs, .int .i64 n, .int .i64 m] => (xs.length <= 1048576000, .bool (rowOK m xs && decide ((xs.length : Int) = n)))
  | _ => (False, .undef)
theorem g_l2Row_eq (xs : List Int) (n m : Int) : g_l2Row [.ints xs, .int .i64 n, .int .i64 m] = (xs.length <= 1048576000, .bool (rowOK m xs && decide ((xs.length : Int) = n))) := (rfl)
theorem l2Row_ok (xs : List Int) (n m : Int) (hp : xs.length <= 1048576000) : SpecOK Try.prog 48 [.ints xs, .int .i64 n, .int .i64 m] (.bool (rowOK m xs && decide ((xs.length : Int) = n))) [] := by
  refine fun_ok (C := t_l1In) (hint := hintX [] [] 0 [] [] [] []) (t_l1In_ok) mixed Try.func48 rfl (by kernel_rfl) rfl ?_
  show codeA _ _ _ _ _ _ _ _
  simp only [go_sem, Try.results48]
  refine loop_intro (fun k : Nat => [(7, .int .i64 k), (0, .ints xs), (1, .int .i64 n), (2, .int .i64 m)]) (fun _ => []) 0 (fun k => k <= xs.length /\ rowOK m (xs.drop k) = rowOK m xs) (fun k => xs.length - k) 0 ⟨Nat.zero_le _, rfl⟩ (Nat.zero_le _) ?_ ?_
  · simp only [go_sem]
    repeat' (first | refine fork_intro (fun hb => ?_) (fun hb => ?_) | refine partB_intro (fun hb => ?_) (fun hb => ?_) | refine And.intro ?_ ?_)
    all_goals first | trivial | rfl | omega
  · rintro k ⟨hk, ht⟩
    simp only [go_sem]
    refine fork_intro (fun hb => ?_) (fun hb => ?_)
    · rw [drop_ix xs (show k < xs.length by omega)] at ht
      simp only [rowOK, List.all_cons] at ht
      refine ⟨by omega, fork_intro (fun hc => ?_) (fun hc => ?_)⟩
      · refine ⟨by omega, ?_⟩
        refine LoopEnd.intro (k + 1) ⟨by omega, ?_⟩ (by omega) (Nat.zero_le _) ?_
        · show ((xs.drop (k + 1)).all _) = _; rw [rowOK, <- ht]; simp [hc]
        · simp only [go_sem]
          repeat' (first | refine fork_intro (fun hb => ?_) (fun hb => ?_) | refine partB_intro (fun hb => ?_) (fun hb => ?_) | refine And.intro ?_ ?_)
          all_goals first | trivial | rfl | omega
      · rw [show rowOK m xs = false by rw [rowOK, <- ht]; simp [hc]]; rfl
    · rw [show k = xs.length by omega, List.drop_length] at ht
      rw [<- ht]; simp [rowOK]
def t_l2Row : Table := [(48, pureC g_l2Row)]
theorem t_l2Row_ok : TabOK Try.prog t_l2Row := .cons Try.func48 (by kernel_rfl) (.pure (by intro args hp; unfold g_l2Row at hp ⊢; split at hp <;> first | exact hp.elim | exact l2Row_ok _ _ _ hp)) (.nil _)
attribute [go_sem] g_l2Row_eq t_l2Row
def g_l2Good : List AV -> Prop × AV
  | [.agg [.ints o, .rows d]] => (o.length <= 1048576000 /\ d.length <= 1048576000 /\ ∀ x ∈ d, x.length <= 1048576000, .bool (good o d))
  | _ => (False, .undef)
theorem g_l2Good_eq (o : List Int) (d : List (List Int)) : g_l2Good [.agg [.ints o, .rows d]] = (o.length <= 1048576000 /\ d.length <= 1048576000 /\ ∀ x ∈ d, x.length <= 1048576000, .bool (good o d)) := (rfl)
theorem l2Good_ok (o : List Int) (d : List (List Int)) (hp : o.length <= 1048576000 /\ d.length <= 1048576000 /\ ∀ x ∈ d, x.length <= 1048576000) : SpecOK Try.prog 22 [.agg [.ints o, .rows d]] (.bool (good o d)) [] := by
  refine fun_ok (C := t_l1In ++ t_l2Row) (hint := hintX [] [] 0 [] [] [] []) ((t_l1In_ok).append t_l2Row_ok) mixed Try.func22 rfl (by kernel_rfl) rfl ?_
  show codeA _ _ _ _ _ _ _ _
  simp only [go_sem, Try.results22]
  obtain ⟨ho, hd, hr⟩ := hp
  have hg : good o d = ((d.all fun r => rowOK 99 r && decide ((r.length : Int) = o.length)) && (decide (1 <= (o.length : Int) /\ (o.length : Int) <= 7) && rowOK 99 o && decide ((d.length : Int) <= 7))) := by
    have e1 : (fun r : List Int => decide (r.length = o.length) && rowOK 99 r) = fun r => rowOK 99 r && decide ((r.length : Int) = o.length) := by
      funext r; rw [Bool.and_comm]; congr 1; exact decide_eq_decide.2 (by omega)
    have e2 : decide (1 <= o.length /\ o.length <= 7) = decide (1 <= (o.length : Int) /\ (o.length : Int) <= 7) := decide_eq_decide.2 (by omega)
    have e3 : decide (d.length <= 7) = decide ((d.length : Int) <= 7) := decide_eq_decide.2 (by omega)
    rw [good, e1, e2, e3, Bool.and_comm]
  refine loop_intro (fun k : Nat => [(4, .int .i64 k), (3, .int .i64 o.length), (1, .iptr [.ints o, .rows d])]) (fun _ => []) 0 (fun k => k <= d.length /\ ((d.drop k).all fun r => rowOK 99 r && decide ((r.length : Int) = o.length)) = d.all fun r => rowOK 99 r && decide ((r.length : Int) = o.length)) (fun k => d.length - k) 0 ⟨Nat.zero_le _, rfl⟩ (Nat.zero_le _) ?_ ?_
  · simp only [go_sem]
    repeat' (first | refine fork_intro (fun hb => ?_) (fun hb => ?_) | refine partB_intro (fun hb => ?_) (fun hb => ?_) | refine And.intro ?_ ?_)
    all_goals first | trivial | rfl | omega
  · rintro k ⟨hk, ht⟩
    simp only [go_sem]
    refine fork_intro (fun hb => ?_) (fun hb => ?_)
    · have hmem := ix_mem d (show k < d.length by omega)
      rw [drop_ix d (show k < d.length by omega), List.all_cons] at ht
      refine ⟨by omega, hr _ hmem, partB_intro (fun hc => ?_) (fun hc => ?_)⟩
      · refine ⟨by omega, ?_⟩
        refine LoopEnd.intro (k + 1) ⟨by omega, ?_⟩ (by omega) (Nat.zero_le _) ?_
        · rw [<- ht, hc]; rfl
        · simp only [go_sem]
          repeat' (first | refine fork_intro (fun hb => ?_) (fun hb => ?_) | refine partB_intro (fun hb => ?_) (fun hb => ?_) | refine And.intro ?_ ?_)
          all_goals first | trivial | rfl | omega
      · rw [hg, <- ht, hc]; rfl
    · rw [show k = d.length by omega, List.drop_length] at ht
      rw [hg, <- ht]
      refine fork_intro (fun hc => ?_) (fun hc => ?_)
      · refine ⟨ho, partB_intro (fun hd => ?_) (fun hd => ?_)⟩
        · have hd' : rowOK 99 o = true := by simpa using hd
          simp [hc, hd']
        · have hd' : rowOK 99 o = false := by simpa using hd
          simp [hd']
      · simp [hc]
def t_l2Good : Table := [(22, pureC g_l2Good)]
theorem t_l2Good_ok : TabOK Try.prog t_l2Good := .cons Try.func22 (by kernel_rfl) (.pure (by intro args hp; unfold g_l2Good at hp ⊢; split at hp <;> first | exact hp.elim | exact l2Good_ok _ _ hp)) (.nil _)
attribute [go_sem] g_l2Good_eq t_l2Good
def g_isF1 : List AV -> Prop × AV
  | [.ints r, .iptr [.ints o, .rows d]] => (r.length <= 1048576000, .bool (!(decide ((r.length : Int) = o.length) && rowOK 99 r)))
  | _ => (False, .undef)
theorem g_isF1_eq (r o : List Int) (d : List (List Int)) : g_isF1 [.ints r, .iptr [.ints o, .rows d]] = (r.length <= 1048576000, .bool (!(decide ((r.length : Int) = o.length) && rowOK 99 r))) := (rfl)
theorem isF1_ok (r o : List Int) (d : List (List Int)) (hp : r.length <= 1048576000) : SpecOK Try.prog 55 [.ints r, .iptr [.ints o, .rows d]] (.bool (!(decide ((r.length : Int) = o.length) && rowOK 99 r))) [] := by
  refine fun_ok (C := t_areBtw) (hint := hintX [] [] 0 [] [] [] []) (t_areBtw_ok) mixed Try.func55 rfl (by kernel_rfl) rfl ?_
  show codeA _ _ _ _ _ _ _ _
  simp only [go_sem, Try.results55]
  refine fork_intro (fun h1 => ?_) (fun h1 => ?_)
  · exact ⟨hp, by simp [h1, rowOK]⟩
  · simp [h1]
def t_isF1 : Table := [(55, pureC g_isF1)]
theorem t_isF1_ok : TabOK Try.prog t_isF1 := .cons Try.func55 (by kernel_rfl) (.pure (by intro args hp; unfold g_isF1 at hp ⊢; split at hp <;> first | exact hp.elim | exact isF1_ok _ _ _ hp)) (.nil _)
attribute [go_sem] g_isF1_eq t_isF1
def g_idxF : List AV -> Prop × AV
  | [.rows xs, .fn 55 [.iptr [.ints o, .rows d]]] => (xs.length <= 1048576000 /\ ∀ x ∈ xs, x.length <= 1048576000, .int .i64 (idxG (fun r : List Int => !(decide ((r.length : Int) = o.length) && rowOK 99 r)) xs 0))
  | _ => (False, .undef)
theorem g_idxF_eq (xs : List (List Int)) (o : List Int) (d : List (List Int)) : g_idxF [.rows xs, .fn 55 [.iptr [.ints o, .rows d]]] = (xs.length <= 1048576000 /\ ∀ x ∈ xs, x.length <= 1048576000, .int .i64 (idxG (fun r : List Int => !(decide ((r.length : Int) = o.length) && rowOK 99 r)) xs 0)) := (rfl)
theorem idxF_ok (xs : List (List Int)) (o : List Int) (d : List (List Int)) (hp : xs.length <= 1048576000 /\ ∀ x ∈ xs, x.length <= 1048576000) : SpecOK Try.prog 70 [.rows xs, .fn 55 [.iptr [.ints o, .rows d]]] (.int .i64 (idxG (fun r : List Int => !(decide ((r.length : Int) = o.length) && rowOK 99 r)) xs 0)) [] := by
  refine fun_ok (C := t_isF1) (hint := hintX [] [] 0 [] [] [] []) (t_isF1_ok) mixed Try.func70 rfl (by kernel_rfl) rfl ?_
  show codeA _ _ _ _ _ _ _ _
  simp only [go_sem, Try.results70]
  obtain ⟨hx, hr⟩ := hp
  refine loop_intro (fun k : Nat => [(8, .int .i64 k), (7, .int .i64 xs.length), (0, .rows xs), (1, .fn 55 [.iptr [.ints o, .rows d]])]) (fun _ => []) 0 (fun k => k <= xs.length /\ idxG (fun r : List Int => !(decide ((r.length : Int) = o.length) && rowOK 99 r)) (xs.drop k) k = idxG (fun r : List Int => !(decide ((r.length : Int) = o.length) && rowOK 99 r)) xs 0) (fun k => xs.length - k) 0 ⟨Nat.zero_le _, rfl⟩ (Nat.zero_le _) ?_ ?_
  · simp only [go_sem]
    repeat' (first | refine fork_intro (fun hb => ?_) (fun hb => ?_) | refine partB_intro (fun hb => ?_) (fun hb => ?_) | refine And.intro ?_ ?_)
    all_goals first | trivial | rfl | omega
  · rintro k ⟨hk, ht⟩
    simp only [go_sem]
    refine fork_intro (fun hb => ?_) (fun hb => ?_)
    · have hmem := ix_mem xs (show k < xs.length by omega)
      rw [drop_ix xs (show k < xs.length by omega), idxG] at ht
      refine ⟨by omega, hr _ hmem, partB_intro (fun hc => ?_) (fun hc => ?_)⟩
      · rw [if_neg (by simp [hc])] at ht
        refine ⟨by omega, ?_⟩
        refine LoopEnd.intro (k + 1) ⟨by omega, ht⟩ (by omega) (Nat.zero_le _) ?_
        simp only [go_sem]
        repeat' (first | refine fork_intro (fun hb => ?_) (fun hb => ?_) | refine partB_intro (fun hb => ?_) (fun hb => ?_) | refine And.intro ?_ ?_)
        all_goals first | trivial | rfl | omega
      · rw [if_pos (by simp [hc])] at ht
        rw [<- ht]
    · rw [show k = xs.length by omega, List.drop_length] at ht
      rw [<- ht]; rfl
def t_idxF : Table := [(70, pureC g_idxF)]
theorem t_idxF_ok : TabOK Try.prog t_idxF := .cons Try.func70 (by kernel_rfl) (.pure (by intro args hp; unfold g_idxF at hp ⊢; split at hp <;> first | exact hp.elim | exact idxF_ok _ _ _ hp)) (.nil _)
attribute [go_sem] g_idxF_eq t_idxF
def g_ctnF : List AV -> Prop × AV
  | [.rows xs, .fn 55 [.iptr [.ints o, .rows d]]] => (xs.length <= 1048576000 /\ ∀ x ∈ xs, x.length <= 1048576000, .bool (xs.any fun r : List Int => !(decide ((r.length : Int) = o.length) && rowOK 99 r)))
  | _ => (False, .undef)
theorem g_ctnF_eq (xs : List (List Int)) (o : List Int) (d : List (List Int)) : g_ctnF [.rows xs, .fn 55 [.iptr [.ints o, .rows d]]] = (xs.length <= 1048576000 /\ ∀ x ∈ xs, x.length <= 1048576000, .bool (xs.any fun r : List Int => !(decide ((r.length : Int) = o.length) && rowOK 99 r))) := (rfl)
theorem ctnF_ok (xs : List (List Int)) (o : List Int) (d : List (List Int)) (hp : xs.length <= 1048576000 /\ ∀ x ∈ xs, x.length <= 1048576000) : SpecOK Try.prog 54 [.rows xs, .fn 55 [.iptr [.ints o, .rows d]]] (.bool (xs.any fun r : List Int => !(decide ((r.length : Int) = o.length) && rowOK 99 r))) [] := by
  refine fun_ok (C := t_idxF) (hint := hintX [] [] 0 [] [] [] []) (t_idxF_ok) mixed Try.func54 rfl (by kernel_rfl) rfl ?_
  show codeA _ _ _ _ _ _ _ _
  simp only [go_sem, Try.results54]
  refine ⟨hp, ?_⟩
  rw [<- idxG_any _ xs 0 (by omega)]
def t_ctnF : Table := [(54, pureC g_ctnF)]
theorem t_ctnF_ok : TabOK Try.prog t_ctnF := .cons Try.func54 (by kernel_rfl) (.pure (by intro args hp; unfold g_ctnF at hp ⊢; split at hp <;> first | exact hp.elim | exact ctnF_ok _ _ _ hp)) (.nil _)
attribute [go_sem] g_ctnF_eq t_ctnF
def g_isF : List AV -> Prop × AV
  | [.agg [.ints o, .rows d]] => (o.length <= 1048576000 /\ d.length <= 1048576000 /\ ∀ x ∈ d, x.length <= 1048576000, .bool (good o d))
  | _ => (False, .undef)
theorem g_isF_eq (o : List Int) (d : List (List Int)) : g_isF [.agg [.ints o, .rows d]] = (o.length <= 1048576000 /\ d.length <= 1048576000 /\ ∀ x ∈ d, x.length <= 1048576000, .bool (good o d)) := (rfl)
theorem isF_ok (o : List Int) (d : List (List Int)) (hp : o.length <= 1048576000 /\ d.length <= 1048576000 /\ ∀ x ∈ d, x.length <= 1048576000) : SpecOK Try.prog 29 [.agg [.ints o, .rows d]] (.bool (good o d)) [] := by
  refine fun_ok (C := t_between ++ t_areBtw ++ t_ctnF) (hint := hintX [] [] 0 [] [] [] []) (((t_between_ok).append t_areBtw_ok).append t_ctnF_ok) mixed Try.func29 rfl (by kernel_rfl) rfl ?_
  show codeA _ _ _ _ _ _ _ _
  simp only [go_sem, Try.results29]
  obtain ⟨ho, hd, hr⟩ := hp
  have hg : good o d = (decide (1 <= (o.length : Int) /\ (o.length : Int) <= 7) && rowOK 99 o && decide ((d.length : Int) <= 7) && !d.any fun r : List Int => !(decide ((r.length : Int) = o.length) && rowOK 99 r)) := by
    have e1 : (fun r : List Int => decide (r.length = o.length) && rowOK 99 r) = fun r => decide ((r.length : Int) = o.length) && rowOK 99 r := by
      funext r; congr 1; exact decide_eq_decide.2 (by omega)
    have e2 : decide (1 <= o.length /\ o.length <= 7) = decide (1 <= (o.length : Int) /\ (o.length : Int) <= 7) := decide_eq_decide.2 (by omega)
    have e3 : decide (d.length <= 7) = decide ((d.length : Int) <= 7) := decide_eq_decide.2 (by omega)
    rw [good, e1, e2, e3, List.all_eq_not_any_not]
  refine fork_intro (fun h1 => ?_) (fun h1 => ?_)
  · refine ⟨ho, partB_intro (fun h2 => ?_) (fun h2 => ?_)⟩
    · have h2' : rowOK 99 o = true := h2
      refine fork_intro (fun h3 => ?_) (fun h3 => ?_)
      · exact ⟨⟨hd, hr⟩, by rw [hg]; simp [h1, h2', h3]⟩
      · rw [hg]; simp [h3]
    · have h2' : rowOK 99 o = false := h2
      rw [hg]; simp [h2']
  · rw [hg]; simp [h1]
def t_isF : Table := [(29, pureC g_isF)]
theorem t_isF_ok : TabOK Try.prog t_isF := .cons Try.func29 (by kernel_rfl) (.pure (by intro args hp; unfold g_isF at hp ⊢; split at hp <;> first | exact hp.elim | exact isF_ok _ _ hp)) (.nil _)
attribute [go_sem] g_isF_eq t_isF
end Go.Proofs.Ytgcbdpehnonghaa
