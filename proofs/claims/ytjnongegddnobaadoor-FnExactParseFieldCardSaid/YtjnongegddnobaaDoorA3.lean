/- Checks of lists and fields: both packages say the same. -/
import Derived.Test.YtjnongegddnobaaDoorA2
namespace Go.Proofs.YtjnongegddnobaaDoor
open Go.Vc
set_option maxRecDepth 100000
set_option linter.unusedSimpArgs false
set_option linter.unusedVariables false

def g_l1In : List AV -> Prop × AV
  | [.int .i64 x, .int .i64 a, .int .i64 b] => (True, .bool (decide (a <= x /\ x <= b)))
  | _ => (False, .undef)
theorem g_l1In_eq (x a b : Int) : g_l1In [.int .i64 x, .int .i64 a, .int .i64 b] = (True, .bool (decide (a <= x /\ x <= b))) := (rfl)
theorem l1In_ok (x a b : Int) (hp : True) : SpecOK Tryd.prog 32 [.int .i64 x, .int .i64 a, .int .i64 b] (.bool (decide (a <= x /\ x <= b))) [] := by
  refine fun_ok (C := []) (hint := hintX [] [] 0 [] [] [] []) (TabOK.nil _) mixed Tryd.func32 rfl (by kernel_rfl) rfl ?_
  show codeA _ _ _ _ _ _ _ _
  simp only [go_sem, Tryd.results32]
  refine fork_intro (fun h1 => ?_) (fun h1 => ?_) <;> simp [h1]
def t_l1In : Table := [(32, pureC g_l1In)]
theorem t_l1In_ok : TabOK Tryd.prog t_l1In := .cons Tryd.func32 (by kernel_rfl) (.pure (by intro args hp; unfold g_l1In at hp ⊢; split at hp <;> first | exact hp.elim | exact l1In_ok _ _ _ hp)) (.nil _)
attribute [go_sem] g_l1In_eq t_l1In
def g_between : List AV -> Prop × AV
  | [.int .i64 x, .int .i64 a, .int .i64 b] => (True, .bool (decide (a <= x /\ x <= b)))
  | _ => (False, .undef)
theorem g_between_eq (x a b : Int) : g_between [.int .i64 x, .int .i64 a, .int .i64 b] = (True, .bool (decide (a <= x /\ x <= b))) := (rfl)
theorem between_ok (x a b : Int) (hp : True) : SpecOK Tryd.prog 71 [.int .i64 x, .int .i64 a, .int .i64 b] (.bool (decide (a <= x /\ x <= b))) [] := by
  refine fun_ok (C := []) (hint := hintX [] [] 0 [] [] [] []) (TabOK.nil _) mixed Tryd.func71 rfl (by kernel_rfl) rfl ?_
  show codeA _ _ _ _ _ _ _ _
  simp only [go_sem, Tryd.results71]
  refine fork_intro (fun h1 => ?_) (fun h1 => ?_) <;> simp [h1]
def t_between : Table := [(71, pureC g_between)]
theorem t_between_ok : TabOK Tryd.prog t_between := .cons Tryd.func71 (by kernel_rfl) (.pure (by intro args hp; unfold g_between at hp ⊢; split at hp <;> first | exact hp.elim | exact between_ok _ _ _ hp)) (.nil _)
attribute [go_sem] g_between_eq t_between
def g_btw1 : List AV -> Prop × AV
  | [.int .i64 x, .iptr [.int .i64 a], .iptr [.int .i64 b]] => (True, .bool (!decide (a <= x /\ x <= b)))
  | _ => (False, .undef)
theorem g_btw1_eq (x a b : Int) : g_btw1 [.int .i64 x, .iptr [.int .i64 a], .iptr [.int .i64 b]] = (True, .bool (!decide (a <= x /\ x <= b))) := (rfl)
theorem btw1_ok (x a b : Int) (hp : True) : SpecOK Tryd.prog 88 [.int .i64 x, .iptr [.int .i64 a], .iptr [.int .i64 b]] (.bool (!decide (a <= x /\ x <= b))) [] := by
  refine fun_ok (C := t_between) (hint := hintX [] [] 0 [] [] [] []) (t_between_ok) mixed Tryd.func88 rfl (by kernel_rfl) rfl ?_
  show codeA _ _ _ _ _ _ _ _
  simp only [go_sem, Tryd.results88]

def t_btw1 : Table := [(88, pureC g_btw1)]
theorem t_btw1_ok : TabOK Tryd.prog t_btw1 := .cons Tryd.func88 (by kernel_rfl) (.pure (by intro args hp; unfold g_btw1 at hp ⊢; split at hp <;> first | exact hp.elim | exact btw1_ok _ _ _ hp)) (.nil _)
attribute [go_sem] g_btw1_eq t_btw1
def g_idxBtw : List AV -> Prop × AV
  | [.ints xs, .fn 88 [.iptr [.int .i64 a], .iptr [.int .i64 b]]] => (xs.length <= 1048576000, .int .i64 (idxG (fun x => !decide (a <= x /\ x <= b)) xs 0))
  | _ => (False, .undef)
theorem g_idxBtw_eq (xs : List Int) (a b : Int) : g_idxBtw [.ints xs, .fn 88 [.iptr [.int .i64 a], .iptr [.int .i64 b]]] = (xs.length <= 1048576000, .int .i64 (idxG (fun x => !decide (a <= x /\ x <= b)) xs 0)) := (rfl)
theorem idxBtw_ok (xs : List Int) (a b : Int) (hp : xs.length <= 1048576000) : SpecOK Tryd.prog 106 [.ints xs, .fn 88 [.iptr [.int .i64 a], .iptr [.int .i64 b]]] (.int .i64 (idxG (fun x => !decide (a <= x /\ x <= b)) xs 0)) [] := by
  refine fun_ok (C := t_btw1) (hint := hintX [] [] 0 [] [] [] []) (t_btw1_ok) mixed Tryd.func106 rfl (by kernel_rfl) rfl ?_
  show codeA _ _ _ _ _ _ _ _
  simp only [go_sem, Tryd.results106]
  refine loop_intro (fun k : Nat => [(8, .int .i64 k), (7, .int .i64 xs.length), (0, .ints xs), (1, .fn 88 [.iptr [.int .i64 a], .iptr [.int .i64 b]])]) (fun _ => []) 0 (fun k => k <= xs.length /\ idxG (fun x => !decide (a <= x /\ x <= b)) (xs.drop k) k = idxG (fun x => !decide (a <= x /\ x <= b)) xs 0) (fun k => xs.length - k) 0 ⟨Nat.zero_le _, rfl⟩ (Nat.zero_le _) ?_ ?_
  · simp only [go_sem]
    repeat' (first | refine fork_intro (fun hb => ?_) (fun hb => ?_) | refine partB_intro (fun hb => ?_) (fun hb => ?_) | refine And.intro ?_ ?_)
    all_goals first | trivial | rfl | omega
  · rintro k ⟨hk, ht⟩
    simp only [go_sem]
    refine fork_intro (fun hb => ?_) (fun hb => ?_)
    · rw [drop_ix xs (show k < xs.length by omega), idxG] at ht
      refine ⟨by omega, fork_intro (fun hc => ?_) (fun hc => ?_)⟩
      · rw [if_neg (by simp [hc])] at ht
        refine ⟨by omega, ?_⟩
        refine LoopEnd.intro (k + 1) ⟨by omega, ht⟩ (by omega) (Nat.zero_le _) ?_
        simp only [go_sem]
        repeat' (first | refine fork_intro (fun hb => ?_) (fun hb => ?_) | refine partB_intro (fun hb => ?_) (fun hb => ?_) | refine And.intro ?_ ?_)
        all_goals first | trivial | rfl | omega
      · rw [if_pos (by simp [hc])] at ht
        rw [<- ht]
    · rw [show k = xs.length by omega, List.drop_length] at ht
      rw [<- ht]; rfl
def t_idxBtw : Table := [(106, pureC g_idxBtw)]
theorem t_idxBtw_ok : TabOK Tryd.prog t_idxBtw := .cons Tryd.func106 (by kernel_rfl) (.pure (by intro args hp; unfold g_idxBtw at hp ⊢; split at hp <;> first | exact hp.elim | exact idxBtw_ok _ _ _ hp)) (.nil _)
attribute [go_sem] g_idxBtw_eq t_idxBtw
def g_ctnBtw : List AV -> Prop × AV
  | [.ints xs, .fn 88 [.iptr [.int .i64 a], .iptr [.int .i64 b]]] => (xs.length <= 1048576000, .bool (xs.any fun x => !decide (a <= x /\ x <= b)))
  | _ => (False, .undef)
theorem g_ctnBtw_eq (xs : List Int) (a b : Int) : g_ctnBtw [.ints xs, .fn 88 [.iptr [.int .i64 a], .iptr [.int .i64 b]]] = (xs.length <= 1048576000, .bool (xs.any fun x => !decide (a <= x /\ x <= b))) := (rfl)
theorem ctnBtw_ok (xs : List Int) (a b : Int) (hp : xs.length <= 1048576000) : SpecOK Tryd.prog 87 [.ints xs, .fn 88 [.iptr [.int .i64 a], .iptr [.int .i64 b]]] (.bool (xs.any fun x => !decide (a <= x /\ x <= b))) [] := by
  refine fun_ok (C := t_idxBtw) (hint := hintX [] [] 0 [] [] [] []) (t_idxBtw_ok) mixed Tryd.func87 rfl (by kernel_rfl) rfl ?_
  show codeA _ _ _ _ _ _ _ _
  simp only [go_sem, Tryd.results87]
  refine ⟨hp, ?_⟩
  rw [<- idxG_any _ xs 0 (by omega)]
def t_ctnBtw : Table := [(87, pureC g_ctnBtw)]
theorem t_ctnBtw_ok : TabOK Tryd.prog t_ctnBtw := .cons Tryd.func87 (by kernel_rfl) (.pure (by intro args hp; unfold g_ctnBtw at hp ⊢; split at hp <;> first | exact hp.elim | exact ctnBtw_ok _ _ _ hp)) (.nil _)
attribute [go_sem] g_ctnBtw_eq t_ctnBtw
def g_areBtw : List AV -> Prop × AV
  | [.ints xs, .int .i64 a, .int .i64 b] => (xs.length <= 1048576000, .bool (xs.all fun x => decide (a <= x /\ x <= b)))
  | _ => (False, .undef)
theorem g_areBtw_eq (xs : List Int) (a b : Int) : g_areBtw [.ints xs, .int .i64 a, .int .i64 b] = (xs.length <= 1048576000, .bool (xs.all fun x => decide (a <= x /\ x <= b))) := (rfl)
theorem areBtw_ok (xs : List Int) (a b : Int) (hp : xs.length <= 1048576000) : SpecOK Tryd.prog 72 [.ints xs, .int .i64 a, .int .i64 b] (.bool (xs.all fun x => decide (a <= x /\ x <= b))) [] := by
  refine fun_ok (C := t_ctnBtw) (hint := hintX [] [] 0 [] [] [] []) (t_ctnBtw_ok) mixed Tryd.func72 rfl (by kernel_rfl) rfl ?_
  show codeA _ _ _ _ _ _ _ _
  simp only [go_sem, Tryd.results72]
  refine ⟨hp, ?_⟩
  congr 1
  rw [List.all_eq_not_any_not]
def t_areBtw : Table := [(72, pureC g_areBtw)]
theorem t_areBtw_ok : TabOK Tryd.prog t_areBtw := .cons Tryd.func72 (by kernel_rfl) (.pure (by intro args hp; unfold g_areBtw at hp ⊢; split at hp <;> first | exact hp.elim | exact areBtw_ok _ _ _ hp)) (.nil _)
attribute [go_sem] g_areBtw_eq t_areBtw
def g_l2Row : List AV -> Prop × AV
  | [.ints xs, .int .i64 n, .int .i64 m] => (xs.length <= 1048576000, .bool (rowOK m xs && decide ((xs.length : Int) = n)))
  | _ => (False, .undef)
theorem g_l2Row_eq (xs : List Int) (n m : Int) : g_l2Row [.ints xs, .int .i64 n, .int .i64 m] = (xs.length <= 1048576000, .bool (rowOK m xs && decide ((xs.length : Int) = n))) := (rfl)
theorem l2Row_ok (xs : List Int) (n m : Int) (hp : xs.length <= 1048576000) : SpecOK Tryd.prog 69 [.ints xs, .int .i64 n, .int .i64 m] (.bool (rowOK m xs && decide ((xs.length : Int) = n))) [] := by
  refine fun_ok (C := t_l1In) (hint := hintX [] [] 0 [] [] [] []) (t_l1In_ok) mixed Tryd.func69 rfl (by kernel_rfl) rfl ?_
  show codeA _ _ _ _ _ _ _ _
  simp only [go_sem, Tryd.results69]
  refine loop_intro (fun k : Nat => [(7, .int .i64 k), (0, .ints xs), (1, .int .i64 n), (2, .int .i64 m)]) (fun _ => []) 0 (fun k => k <= xs.length /\ rowOK m (xs.drop k) = rowOK m xs) (fun k => xs.length - k) 0 ⟨Nat.zero_le _, rfl⟩ (Nat.zero_le _) ?_ ?_
  · simp only [go_sem]
    repeat' (first | refine fork_intro (fun hb => ?_) (fun hb => ?_) | refine partB_intro (fun hb => ?_) (fun hb => ?_) | refine And.intro ?_ ?_)
    all_goals first | trivial | rfl | omega
  · rintro k ⟨hk, ht⟩
    simp only [go_sem]
    refine fork_intro (fun hb => ?_) (fun hb => ?_)
    · rw [drop_ix xs (show k < xs.length by omega)] at ht
      simp only [rowOK, List.all_cons] at ht
      refine ⟨by omega, fork_intro (fun hc => ?_) (fun hc => ?_)⟩
      · refine ⟨by omega, ?_⟩
        refine LoopEnd.intro (k + 1) ⟨by omega, ?_⟩ (by omega) (Nat.zero_le _) ?_
        · show ((xs.drop (k + 1)).all _) = _; rw [rowOK, <- ht]; simp [hc]
        · simp only [go_sem]
          repeat' (first | refine fork_intro (fun hb => ?_) (fun hb => ?_) | refine partB_intro (fun hb => ?_) (fun hb => ?_) | refine And.intro ?_ ?_)
          all_goals first | trivial | rfl | omega
      · rw [show rowOK m xs = false by rw [rowOK, <- ht]; simp [hc]]; rfl
    · rw [show k = xs.length by omega, List.drop_length] at ht
      rw [<- ht]; simp [rowOK]
def t_l2Row : Table := [(69, pureC g_l2Row)]
theorem t_l2Row_ok : TabOK Tryd.prog t_l2Row := .cons Tryd.func69 (by kernel_rfl) (.pure (by intro args hp; unfold g_l2Row at hp ⊢; split at hp <;> first | exact hp.elim | exact l2Row_ok _ _ _ hp)) (.nil _)
attribute [go_sem] g_l2Row_eq t_l2Row
def g_l2Good : List AV -> Prop × AV
  | [.agg [.ints o, .rows d]] => (o.length <= 1048576000 /\ d.length <= 1048576000 /\ ∀ x ∈ d, x.length <= 1048576000, .bool (good o d))
  | _ => (False, .undef)
theorem g_l2Good_eq (o : List Int) (d : List (List Int)) : g_l2Good [.agg [.ints o, .rows d]] = (o.length <= 1048576000 /\ d.length <= 1048576000 /\ ∀ x ∈ d, x.length <= 1048576000, .bool (good o d)) := (rfl)
theorem l2Good_ok (o : List Int) (d : List (List Int)) (hp : o.length <= 1048576000 /\ d.length <= 1048576000 /\ ∀ x ∈ d, x.length <= 1048576000) : SpecOK Tryd.prog 47 [.agg [.ints o, .rows d]] (.bool (good o d)) [] := by
  refine fun_ok (C := t_l1In ++ t_l2Row) (hint := hintX [] [] 0 [] [] [] []) ((t_l1In_ok).append t_l2Row_ok) mixed Tryd.func47 rfl (by kernel_rfl) rfl ?_
  show codeA _ _ _ _ _ _ _ _
  simp only [go_sem, Tryd.results47]
  obtain ⟨ho, hd, hr⟩ := hp
  have hg : good o d = ((d.all fun r => rowOK 99 r && decide ((r.length : Int) = o.length)) && (decide (1 <= (o.length : Int) /\ (o.length : Int) <= 7) && rowOK 99 o && decide ((d.length : Int) <= 7))) := by
    have e1 : (fun r : List Int => decide (r.length = o.length) && rowOK 99 r) = fun r => rowOK 99 r && decide ((r.length : Int) = o.length) := by
      funext r; rw [Bool.and_comm]; congr 1; exact decide_eq_decide.2 (by omega)
    have e2 : decide (1 <= o.length /\ o.length <= 7) = decide (1 <= (o.length : Int) /\ (o.length : Int) <= 7) := decide_eq_decide.2 (by omega)
    have e3 : decide (d.length <= 7) = decide ((d.length : Int) <= 7) := decide_eq_decide.2 (by omega)
    rw [good, e1, e2, e3, Bool.and_comm]
  refine loop_intro (fun k : Nat => [(4, .int .i64 k), (3, .int .i64 o.length), (1, .iptr [.ints o, .rows d])]) (fun _ => []) 0 (fun k => k <= d.length /\ ((d.drop k).all fun r => rowOK 99 r && decide ((r.length : Int) = o.length)) = d.all fun r => rowOK 99 r && decide ((r.length : Int) = o.length)) (fun k => d.length - k) 0 ⟨Nat.zero_le _, rfl⟩ (Nat.zero_le _) ?_ ?_
  · simp only [go_sem]
    repeat' (first | refine fork_intro (fun hb => ?_) (fun hb => ?_) | refine partB_intro (fun hb => ?_) (fun hb => ?_) | refine And.intro ?_ ?_)
    all_goals first | trivial | rfl | omega
  · rintro k ⟨hk, ht⟩
    simp only [go_sem]
    refine fork_intro (fun hb => ?_) (fun hb => ?_)
    · have hmem := ix_mem d (show k < d.length by omega)
      rw [drop_ix d (show k < d.length by omega), List.all_cons] at ht
      refine ⟨by omega, hr _ hmem, partB_intro (fun hc => ?_) (fun hc => ?_)⟩
      · refine ⟨by omega, ?_⟩
        refine LoopEnd.intro (k + 1) ⟨by omega, ?_⟩ (by omega) (Nat.zero_le _) ?_
        · rw [<- ht, hc]; rfl
        · simp only [go_sem]
          repeat' (first | refine fork_intro (fun hb => ?_) (fun hb => ?_) | refine partB_intro (fun hb => ?_) (fun hb => ?_) | refine And.intro ?_ ?_)
          all_goals first | trivial | rfl | omega
      · rw [hg, <- ht, hc]; rfl
    · rw [show k = d.length by omega, List.drop_length] at ht
      rw [hg, <- ht]
      refine fork_intro (fun hc => ?_) (fun hc => ?_)
      · refine ⟨ho, partB_intro (fun hd => ?_) (fun hd => ?_)⟩
        · have hd' : rowOK 99 o = true := by simpa using hd
          simp [hc, hd']
        · have hd' : rowOK 99 o = false := by simpa using hd
          simp [hd']
      · simp [hc]
def t_l2Good : Table := [(47, pureC g_l2Good)]
theorem t_l2Good_ok : TabOK Tryd.prog t_l2Good := .cons Tryd.func47 (by kernel_rfl) (.pure (by intro args hp; unfold g_l2Good at hp ⊢; split at hp <;> first | exact hp.elim | exact l2Good_ok _ _ hp)) (.nil _)
attribute [go_sem] g_l2Good_eq t_l2Good
def g_isF1 : List AV -> Prop × AV
  | [.ints r, .iptr [.ints o, .rows d]] => (r.length <= 1048576000, .bool (!(decide ((r.length : Int) = o.length) && rowOK 99 r)))
  | _ => (False, .undef)
theorem g_isF1_eq (r o : List Int) (d : List (List Int)) : g_isF1 [.ints r, .iptr [.ints o, .rows d]] = (r.length <= 1048576000, .bool (!(decide ((r.length : Int) = o.length) && rowOK 99 r))) := (rfl)
theorem isF1_ok (r o : List Int) (d : List (List Int)) (hp : r.length <= 1048576000) : SpecOK Tryd.prog 74 [.ints r, .iptr [.ints o, .rows d]] (.bool (!(decide ((r.length : Int) = o.length) && rowOK 99 r))) [] := by
  refine fun_ok (C := t_areBtw) (hint := hintX [] [] 0 [] [] [] []) (t_areBtw_ok) mixed Tryd.func74 rfl (by kernel_rfl) rfl ?_
  show codeA _ _ _ _ _ _ _ _
  simp only [go_sem, Tryd.results74]
  refine fork_intro (fun h1 => ?_) (fun h1 => ?_)
  · exact ⟨hp, by simp [h1, rowOK]⟩
  · simp [h1]
def t_isF1 : Table := [(74, pureC g_isF1)]
theorem t_isF1_ok : TabOK Tryd.prog t_isF1 := .cons Tryd.func74 (by kernel_rfl) (.pure (by intro args hp; unfold g_isF1 at hp ⊢; split at hp <;> first | exact hp.elim | exact isF1_ok _ _ _ hp)) (.nil _)
attribute [go_sem] g_isF1_eq t_isF1
def g_idxF : List AV -> Prop × AV
  | [.rows xs, .fn 74 [.iptr [.ints o, .rows d]]] => (xs.length <= 1048576000 /\ ∀ x ∈ xs, x.length <= 1048576000, .int .i64 (idxG (fun r : List Int => !(decide ((r.length : Int) = o.length) && rowOK 99 r)) xs 0))
  | _ => (False, .undef)
theorem g_idxF_eq (xs : List (List Int)) (o : List Int) (d : List (List Int)) : g_idxF [.rows xs, .fn 74 [.iptr [.ints o, .rows d]]] = (xs.length <= 1048576000 /\ ∀ x ∈ xs, x.length <= 1048576000, .int .i64 (idxG (fun r : List Int => !(decide ((r.length : Int) = o.length) && rowOK 99 r)) xs 0)) := (rfl)
theorem idxF_ok (xs : List (List Int)) (o : List Int) (d : List (List Int)) (hp : xs.length <= 1048576000 /\ ∀ x ∈ xs, x.length <= 1048576000) : SpecOK Tryd.prog 89 [.rows xs, .fn 74 [.iptr [.ints o, .rows d]]] (.int .i64 (idxG (fun r : List Int => !(decide ((r.length : Int) = o.length) && rowOK 99 r)) xs 0)) [] := by
  refine fun_ok (C := t_isF1) (hint := hintX [] [] 0 [] [] [] []) (t_isF1_ok) mixed Tryd.func89 rfl (by kernel_rfl) rfl ?_
  show codeA _ _ _ _ _ _ _ _
  simp only [go_sem, Tryd.results89]
  obtain ⟨hx, hr⟩ := hp
  refine loop_intro (fun k : Nat => [(8, .int .i64 k), (7, .int .i64 xs.length), (0, .rows xs), (1, .fn 74 [.iptr [.ints o, .rows d]])]) (fun _ => []) 0 (fun k => k <= xs.length /\ idxG (fun r : List Int => !(decide ((r.length : Int) = o.length) && rowOK 99 r)) (xs.drop k) k = idxG (fun r : List Int => !(decide ((r.length : Int) = o.length) && rowOK 99 r)) xs 0) (fun k => xs.length - k) 0 ⟨Nat.zero_le _, rfl⟩ (Nat.zero_le _) ?_ ?_
  · simp only [go_sem]
    repeat' (first | refine fork_intro (fun hb => ?_) (fun hb => ?_) | refine partB_intro (fun hb => ?_) (fun hb => ?_) | refine And.intro ?_ ?_)
    all_goals first | trivial | rfl | omega
  · rintro k ⟨hk, ht⟩
    simp only [go_sem]
    refine fork_intro (fun hb => ?_) (fun hb => ?_)
    · have hmem := ix_mem xs (show k < xs.length by omega)
      rw [drop_ix xs (show k < xs.length by omega), idxG] at ht
      refine ⟨by omega, hr _ hmem, partB_intro (fun hc => ?_) (fun hc => ?_)⟩
      · rw [if_neg (by simp [hc])] at ht
        refine ⟨by omega, ?_⟩
        refine LoopEnd.intro (k + 1) ⟨by omega, ht⟩ (by omega) (Nat.zero_le _) ?_
        simp only [go_sem]
        repeat' (first | refine fork_intro (fun hb => ?_) (fun hb => ?_) | refine partB_intro (fun hb => ?_) (fun hb => ?_) | refine And.intro ?_ ?_)
        all_goals first | trivial | rfl | omega
      · rw [if_pos (by simp [hc])] at ht
        rw [<- ht]
    · rw [show k = xs.length by omega, List.drop_length] at ht
      rw [<- ht]; rfl
def t_idxF : Table := [(89, pureC g_idxF)]
theorem t_idxF_ok : TabOK Tryd.prog t_idxF := .cons Tryd.func89 (by kernel_rfl) (.pure (by intro args hp; unfold g_idxF at hp ⊢; split at hp <;> first | exact hp.elim | exact idxF_ok _ _ _ hp)) (.nil _)
attribute [go_sem] g_idxF_eq t_idxF
def g_ctnF : List AV -> Prop × AV
  | [.rows xs, .fn 74 [.iptr [.ints o, .rows d]]] => (xs.length <= 1048576000 /\ ∀ x ∈ xs, x.length <= 1048576000, .bool (xs.any fun r : List Int => !(decide ((r.length : Int) = o.length) && rowOK 99 r)))
  | _ => (False, .undef)
theorem g_ctnF_eq (xs : List (List Int)) (o : List Int) (d : List (List Int)) : g_ctnF [.rows xs, .fn 74 [.iptr [.ints o, .rows d]]] = (xs.length <= 1048576000 /\ ∀ x ∈ xs, x.length <= 1048576000, .bool (xs.any fun r : List Int => !(decide ((r.length : Int) = o.length) && rowOK 99 r))) := (rfl)
theorem ctnF_ok (xs : List (List Int)) (o : List Int) (d : List (List Int)) (hp : xs.length <= 1048576000 /\ ∀ x ∈ xs, x.length <= 1048576000) : SpecOK Tryd.prog 73 [.rows xs, .fn 74 [.iptr [.ints o, .rows d]]] (.bool (xs.any fun r : List Int => !(decide ((r.length : Int) = o.length) && rowOK 99 r))) [] := by
  refine fun_ok (C := t_idxF) (hint := hintX [] [] 0 [] [] [] []) (t_idxF_ok) mixed Tryd.func73 rfl (by kernel_rfl) rfl ?_
  show codeA _ _ _ _ _ _ _ _
  simp only [go_sem, Tryd.results73]
  refine ⟨hp, ?_⟩
  rw [<- idxG_any _ xs 0 (by omega)]
def t_ctnF : Table := [(73, pureC g_ctnF)]
theorem t_ctnF_ok : TabOK Tryd.prog t_ctnF := .cons Tryd.func73 (by kernel_rfl) (.pure (by intro args hp; unfold g_ctnF at hp ⊢; split at hp <;> first | exact hp.elim | exact ctnF_ok _ _ _ hp)) (.nil _)
attribute [go_sem] g_ctnF_eq t_ctnF
def g_isF : List AV -> Prop × AV
  | [.agg [.ints o, .rows d]] => (o.length <= 1048576000 /\ d.length <= 1048576000 /\ ∀ x ∈ d, x.length <= 1048576000, .bool (good o d))
  | _ => (False, .undef)
theorem g_isF_eq (o : List Int) (d : List (List Int)) : g_isF [.agg [.ints o, .rows d]] = (o.length <= 1048576000 /\ d.length <= 1048576000 /\ ∀ x ∈ d, x.length <= 1048576000, .bool (good o d)) := (rfl)
theorem isF_ok (o : List Int) (d : List (List Int)) (hp : o.length <= 1048576000 /\ d.length <= 1048576000 /\ ∀ x ∈ d, x.length <= 1048576000) : SpecOK Tryd.prog 51 [.agg [.ints o, .rows d]] (.bool (good o d)) [] := by
  refine fun_ok (C := t_between ++ t_areBtw ++ t_ctnF) (hint := hintX [] [] 0 [] [] [] []) (((t_between_ok).append t_areBtw_ok).append t_ctnF_ok) mixed Tryd.func51 rfl (by kernel_rfl) rfl ?_
  show codeA _ _ _ _ _ _ _ _
  simp only [go_sem, Tryd.results51]
  obtain ⟨ho, hd, hr⟩ := hp
  have hg : good o d = (decide (1 <= (o.length : Int) /\ (o.length : Int) <= 7) && rowOK 99 o && decide ((d.length : Int) <= 7) && !d.any fun r : List Int => !(decide ((r.length : Int) = o.length) && rowOK 99 r)) := by
    have e1 : (fun r : List Int => decide (r.length = o.length) && rowOK 99 r) = fun r => decide ((r.length : Int) = o.length) && rowOK 99 r := by
      funext r; congr 1; exact decide_eq_decide.2 (by omega)
    have e2 : decide (1 <= o.length /\ o.length <= 7) = decide (1 <= (o.length : Int) /\ (o.length : Int) <= 7) := decide_eq_decide.2 (by omega)
    have e3 : decide (d.length <= 7) = decide ((d.length : Int) <= 7) := decide_eq_decide.2 (by omega)
    rw [good, e1, e2, e3, List.all_eq_not_any_not]
  refine fork_intro (fun h1 => ?_) (fun h1 => ?_)
  · refine ⟨ho, partB_intro (fun h2 => ?_) (fun h2 => ?_)⟩
    · have h2' : rowOK 99 o = true := h2
      refine fork_intro (fun h3 => ?_) (fun h3 => ?_)
      · exact ⟨⟨hd, hr⟩, by rw [hg]; simp [h1, h2', h3]⟩
      · rw [hg]; simp [h3]
    · have h2' : rowOK 99 o = false := h2
      rw [hg]; simp [h2']
  · rw [hg]; simp [h1]
def t_isF : Table := [(51, pureC g_isF)]
theorem t_isF_ok : TabOK Tryd.prog t_isF := .cons Tryd.func51 (by kernel_rfl) (.pure (by intro args hp; unfold g_isF at hp ⊢; split at hp <;> first | exact hp.elim | exact isF_ok _ _ hp)) (.nil _)
attribute [go_sem] g_isF_eq t_isF
end Go.Proofs.YtjnongegddnobaaDoor
