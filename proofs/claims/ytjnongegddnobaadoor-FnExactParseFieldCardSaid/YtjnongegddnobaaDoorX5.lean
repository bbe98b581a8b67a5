/- The text of a field: both packages say the same. -/
import Derived.Test.YtjnongegddnobaaDoorX2
namespace Go.Proofs.YtjnongegddnobaaDoor
open Go.Vc
set_option maxRecDepth 100000
set_option linter.unusedSimpArgs false
set_option linter.unusedVariables false

def g_wordsS : List AV -> Prop × AV
  | [.ints xs] => (xs.length <= 7 /\ ∀ x ∈ xs, 0 <= x /\ x <= 99, .str (wordsB xs))
  | _ => (False, .undef)
theorem g_wordsS_eq (xs : List Int) : g_wordsS [.ints xs] = (xs.length <= 7 /\ ∀ x ∈ xs, 0 <= x /\ x <= 99, .str (wordsB xs)) := (rfl)
theorem wordsS_ok (xs : List Int) (hp : xs.length <= 7 /\ ∀ x ∈ xs, 0 <= x /\ x <= 99) : SpecOK Tryd.prog 70 [.ints xs] (.str (wordsB xs)) [] := by
  refine fun_ok (C := t_numS) (hint := hintX [] [] 0 [] [] [] []) (t_numS_ok) mixed Tryd.func70 rfl (by kernel_rfl) rfl ?_
  show codeA _ _ _ _ _ _ _ _
  simp only [go_sem, Tryd.results70]
  refine loop_intro (fun k : Nat => [(3, .str (wordsB (xs.take k))), (4, .int .i64 k), (0, .ints xs)]) (fun _ => []) 0 (fun k => k <= xs.length) (fun k => xs.length - k) 0 (by omega) (by omega) ?_ ?_
  · simp only [go_sem]
    repeat' (first | refine fork_intro (fun hb => ?_) (fun hb => ?_) | refine partB_intro (fun hb => ?_) (fun hb => ?_) | refine And.intro ?_ ?_)
    all_goals first | exact True.intro | omega | with_reducible rfl | exact congrArg (AV.int _) (by omega) | (first | rfl)
  · intro k hk
    have hw := words_le (xs := xs.take k) (fun x hx => hp.2 x (List.mem_of_mem_take hx))
    rw [List.length_take, Nat.min_eq_left hk] at hw
    have hz : (#[32] : Array UInt8).size = 1 := rfl
    simp only [go_sem]
    refine fork_intro (fun hc => ?_) (fun hc => ?_)
    · have hx := hp.2 _ (List.mem_of_getElem? (ix_some xs (show k < xs.length by omega)))
      have hn := numB_size (ix xs (k : Int)) (by omega) (by omega)
      simp only [hz, ByteArray.size_append]
      have hz2 : (⟨#[32]⟩ : ByteArray).size = 1 := rfl
      refine fork_intro (fun hd => ?_) (fun hd => ?_)
      · have e := words_take xs (show k < xs.length by omega) (by omega)
        repeat' (first | refine fork_intro (fun hb => ?_) (fun hb => ?_) | refine partB_intro (fun hb => ?_) (fun hb => ?_) | refine And.intro ?_ ?_)
        all_goals first | exact True.intro | omega | with_reducible rfl | exact congrArg (AV.int _) (by omega) | (refine LoopEnd.intro (k + 1) (by first | omega) (by first | omega | (dsimp only; omega)) (by omega) ?_; simp only [go_sem]; (repeat' (first | refine fork_intro (fun hb => ?_) (fun hb => ?_) | refine partB_intro (fun hb => ?_) (fun hb => ?_) | refine And.intro ?_ ?_)); all_goals first | exact True.intro | omega | with_reducible rfl | exact congrArg (AV.int _) (by omega) | (first | rw [e] | rfl)) | (first | rw [e] | rfl)
      · obtain rfl : k = 0 := by omega
        have e := words_first xs (by omega)
        have e0 : wordsB (xs.take 0) ++ numB (ix xs ((0 : Nat) : Int)) = wordsB (xs.take (0 + 1)) := by rw [e]; exact empty_app _
        repeat' (first | refine fork_intro (fun hb => ?_) (fun hb => ?_) | refine partB_intro (fun hb => ?_) (fun hb => ?_) | refine And.intro ?_ ?_)
        all_goals first | exact True.intro | omega | with_reducible rfl | exact congrArg (AV.int _) (by omega) | (refine LoopEnd.intro (0 + 1) (by first | omega) (by first | omega | (dsimp only; omega)) (by omega) ?_; simp only [go_sem]; (repeat' (first | refine fork_intro (fun hb => ?_) (fun hb => ?_) | refine partB_intro (fun hb => ?_) (fun hb => ?_) | refine And.intro ?_ ?_)); all_goals first | exact True.intro | omega | with_reducible rfl | exact congrArg (AV.int _) (by omega) | (first | rfl | exact congrArg AV.str e0)) | (first | rfl | exact congrArg AV.str e0)
    · rw [List.take_of_length_le (by omega)]
def t_wordsS : Table := [(70, pureC g_wordsS)]
theorem t_wordsS_ok : TabOK Tryd.prog t_wordsS := .cons Tryd.func70 (by kernel_rfl) (.pure (by intro args hp; unfold g_wordsS at hp ⊢; split at hp <;> first | exact hp.elim | exact wordsS_ok _ hp)) (.nil _)
attribute [go_sem] g_wordsS_eq t_wordsS
def g_wordsI : List AV -> Prop × AV
  | [.ints xs] => (xs.length <= 7 /\ ∀ x ∈ xs, 0 <= x /\ x <= 99, .str (wordsB xs))
  | _ => (False, .undef)
theorem g_wordsI_eq (xs : List Int) : g_wordsI [.ints xs] = (xs.length <= 7 /\ ∀ x ∈ xs, 0 <= x /\ x <= 99, .str (wordsB xs)) := (rfl)
theorem wordsI_ok (xs : List Int) (hp : xs.length <= 7 /\ ∀ x ∈ xs, 0 <= x /\ x <= 99) : SpecOK Tryd.prog 52 [.ints xs] (.str (wordsB xs)) [] := by
  refine fun_ok (C := t_itoa ++ t_joinC) (hint := hintX [3, 6, 17] [] 0 [] [] [] []) ((t_itoa_ok).append t_joinC_ok) mixed Tryd.func52 rfl (by kernel_rfl) rfl ?_
  show codeA _ _ _ _ _ _ _ _
  simp only [go_sem, Tryd.results52]
  refine loop_intro (fun k : Nat => [(3, .sl 0), (7, .ints xs), (8, .int .i64 xs.length), (9, .int .i64 k)]) (fun k => [(0, .arr (.strs ((xs.take k).map numB)))]) 1 (fun k => k <= xs.length) (fun k => xs.length - k) 0 (by omega) (by omega) ?_ ?_
  · simp only [go_sem]
    repeat' (first | refine fork_intro (fun hb => ?_) (fun hb => ?_) | refine partB_intro (fun hb => ?_) (fun hb => ?_) | refine And.intro ?_ ?_)
    all_goals first | exact True.intro | omega | with_reducible rfl | exact congrArg (AV.int _) (by omega) | (first | rfl)
  · intro k hk
    simp only [go_sem]
    refine fork_intro (fun hc => ?_) (fun hc => ?_)
    · have hx := hp.2 _ (List.mem_of_getElem? (ix_some xs (show k < xs.length by omega)))
      have e := take_succ_map numB xs (show k < xs.length by omega)
      have hml : ((xs.take k).map numB).length = k := by rw [List.length_map, List.length_take, Nat.min_eq_left hk]
      repeat' (first | refine fork_intro (fun hb => ?_) (fun hb => ?_) | refine partB_intro (fun hb => ?_) (fun hb => ?_) | refine And.intro ?_ ?_)
      all_goals first | exact True.intro | omega | with_reducible rfl | exact congrArg (AV.int _) (by omega) | (refine LoopEnd.intro (k + 1) (by first | omega) (by first | omega | (dsimp only; omega)) (by omega) ?_; simp only [go_sem]; (repeat' (first | refine fork_intro (fun hb => ?_) (fun hb => ?_) | refine partB_intro (fun hb => ?_) (fun hb => ?_) | refine And.intro ?_ ?_)); all_goals first | exact True.intro | omega | with_reducible rfl | exact congrArg (AV.int _) (by omega) | (first | rw [e] | rfl)) | (first | rw [e] | rfl)
    · have hw := words_le hp.2
      rw [List.take_of_length_le (by omega)]
      have e : joinB (xs.map numB) ⟨#[32]⟩ = wordsB xs := rfl
      have hml : (xs.map numB).length = xs.length := List.length_map _
      rw [e]
      repeat' (first | refine fork_intro (fun hb => ?_) (fun hb => ?_) | refine partB_intro (fun hb => ?_) (fun hb => ?_) | refine And.intro ?_ ?_)
      all_goals first | exact True.intro | omega | with_reducible rfl | exact congrArg (AV.int _) (by omega) | (first | rfl)
def t_wordsI : Table := [(52, pureC g_wordsI)]
theorem t_wordsI_ok : TabOK Tryd.prog t_wordsI := .cons Tryd.func52 (by kernel_rfl) (.pure (by intro args hp; unfold g_wordsI at hp ⊢; split at hp <;> first | exact hp.elim | exact wordsI_ok _ hp)) (.nil _)
attribute [go_sem] g_wordsI_eq t_wordsI
def g_textS : List AV -> Prop × AV
  | [.agg [.ints o, .rows d]] => (FieldOK o d, .str (textB o d d.length))
  | _ => (False, .undef)
theorem g_textS_eq (o : List Int) (d : List (List Int)) : g_textS [.agg [.ints o, .rows d]] = (FieldOK o d, .str (textB o d d.length)) := (rfl)
theorem textS_ok (o : List Int) (d : List (List Int)) (hp : FieldOK o d) : SpecOK Tryd.prog 48 [.agg [.ints o, .rows d]] (.str (textB o d d.length)) [] := by
  refine fun_ok (C := t_wordsS) (hint := hintX [] [] 0 [] [] [] []) (t_wordsS_ok) mixed Tryd.func48 rfl (by kernel_rfl) rfl ?_
  show codeA _ _ _ _ _ _ _ _
  simp only [go_sem, Tryd.results48]
  have h7 := hp.n7
  have hm := hp.m7
  have ho := hp.o99
  refine ⟨⟨h7, ho⟩, ?_⟩
  refine loop_intro (fun i : Nat => [(4, .int .i64 i), (3, .str (textB o d i)), (1, .iptr [.ints o, .rows d])]) (fun _ => []) 0 (fun i => i <= d.length) (fun i => d.length - i) 0 (by omega) (by omega) ?_ ?_
  · simp only [go_sem]
    have e0 := textB_zero o d
    repeat' (first | refine fork_intro (fun hb => ?_) (fun hb => ?_) | refine partB_intro (fun hb => ?_) (fun hb => ?_) | refine And.intro ?_ ?_)
    all_goals first | exact True.intro | omega | with_reducible rfl | exact congrArg (AV.int _) (by omega) | (first | rfl | rw [e0])
  · intro i hi
    have hb := textB_le hp hi
    have hz : (#[32, 47, 32] : Array UInt8).size = 3 := rfl
    simp only [go_sem]
    refine fork_intro (fun hc => ?_) (fun hc => ?_)
    · have hil : i < d.length := by omega
      have hr := field_row hp hil
      have hl := field_row_len hp hil
      have e := textB_succ o d hil
      have hw := words_le hr
      simp only [hz]
      repeat' (first | refine fork_intro (fun hb => ?_) (fun hb => ?_) | refine partB_intro (fun hb => ?_) (fun hb => ?_) | refine And.intro ?_ ?_)
      all_goals first | exact True.intro | omega | with_reducible rfl | exact congrArg (AV.int _) (by omega) | (refine LoopEnd.intro (i + 1) (by first | omega) (by first | omega | (dsimp only; omega)) (by omega) ?_; simp only [go_sem]; (repeat' (first | refine fork_intro (fun hb => ?_) (fun hb => ?_) | refine partB_intro (fun hb => ?_) (fun hb => ?_) | refine And.intro ?_ ?_)); all_goals first | exact True.intro | omega | with_reducible rfl | exact congrArg (AV.int _) (by omega) | (first | exact ⟨hl, hr⟩ | exact hr | rw [e] | rfl)) | (first | exact ⟨hl, hr⟩ | exact hr | rw [e] | rfl)
    · rw [show i = d.length by omega]
def t_textS : Table := [(48, pureC g_textS)]
theorem t_textS_ok : TabOK Tryd.prog t_textS := .cons Tryd.func48 (by kernel_rfl) (.pure (by intro args hp; unfold g_textS at hp ⊢; split at hp <;> first | exact hp.elim | exact textS_ok _ _ hp)) (.nil _)
attribute [go_sem] g_textS_eq t_textS
def g_ftextS : List AV -> Prop × AV
  | [.agg [.ints o, .rows d]] => (o.length <= 1048576000 /\ d.length <= 1048576000 /\ ∀ x ∈ d, x.length <= 1048576000, .tup [.str (bif good o d then textB o d d.length else ⟨#[]⟩), .bool (good o d)])
  | _ => (False, .undef)
theorem g_ftextS_eq (o : List Int) (d : List (List Int)) : g_ftextS [.agg [.ints o, .rows d]] = (o.length <= 1048576000 /\ d.length <= 1048576000 /\ ∀ x ∈ d, x.length <= 1048576000, .tup [.str (bif good o d then textB o d d.length else ⟨#[]⟩), .bool (good o d)]) := (rfl)
theorem ftextS_ok (o : List Int) (d : List (List Int)) (hp : o.length <= 1048576000 /\ d.length <= 1048576000 /\ ∀ x ∈ d, x.length <= 1048576000) : SpecOK Tryd.prog 24 [.agg [.ints o, .rows d]] (.tup [.str (bif good o d then textB o d d.length else ⟨#[]⟩), .bool (good o d)]) [] := by
  refine fun_ok (C := t_l2Good ++ t_textS) (hint := hintX [] [] 0 [] [] [] []) ((t_l2Good_ok).append t_textS_ok) mixed Tryd.func24 rfl (by kernel_rfl) rfl ?_
  show codeA _ _ _ _ _ _ _ _
  simp only [go_sem, Tryd.results24]
  refine ⟨hp, partB_intro (fun hg => ?_) (fun hg => ?_)⟩
  · rw [hg]
    exact ⟨good_iff.1 hg, rfl, rfl⟩
  · rw [hg]; exact ⟨rfl, rfl⟩
def t_ftextS : Table := [(24, pureC g_ftextS)]
theorem t_ftextS_ok : TabOK Tryd.prog t_ftextS := .cons Tryd.func24 (by kernel_rfl) (.pure (by intro args hp; unfold g_ftextS at hp ⊢; split at hp <;> first | exact hp.elim | exact ftextS_ok _ _ hp)) (.nil _)
attribute [go_sem] g_ftextS_eq t_ftextS
def g_ftextI : List AV -> Prop × AV
  | [.agg [.ints o, .rows d]] => (o.length <= 1048576000 /\ d.length <= 1048576000 /\ ∀ x ∈ d, x.length <= 1048576000, .tup [.str (bif good o d then textB o d d.length else ⟨#[]⟩), .bool (good o d)])
  | _ => (False, .undef)
theorem g_ftextI_eq (o : List Int) (d : List (List Int)) : g_ftextI [.agg [.ints o, .rows d]] = (o.length <= 1048576000 /\ d.length <= 1048576000 /\ ∀ x ∈ d, x.length <= 1048576000, .tup [.str (bif good o d then textB o d d.length else ⟨#[]⟩), .bool (good o d)]) := (rfl)
theorem ftextI_ok (o : List Int) (d : List (List Int)) (hp : o.length <= 1048576000 /\ d.length <= 1048576000 /\ ∀ x ∈ d, x.length <= 1048576000) : SpecOK Tryd.prog 26 [.agg [.ints o, .rows d]] (.tup [.str (bif good o d then textB o d d.length else ⟨#[]⟩), .bool (good o d)]) [] := by
  refine fun_ok (C := t_isF ++ t_wordsI ++ t_joinC) (hint := hintX [4, 13, 25] [] 0 [] [] [] []) (((t_isF_ok).append t_wordsI_ok).append t_joinC_ok) mixed Tryd.func26 rfl (by kernel_rfl) rfl ?_
  show codeA _ _ _ _ _ _ _ _
  simp only [go_sem, Tryd.results26]
  refine ⟨hp, partB_intro (fun hg => ?_) (fun hg => ?_)⟩
  · have hf := good_iff.1 hg
    have h7 := hf.n7
    have hm := hf.m7
    rw [hg]
    refine ⟨⟨h7, hf.o99⟩, ?_⟩
    refine loop_intro (fun i : Nat => [(17, .int .i64 i), (4, .sl 0), (15, .rows d), (16, .int .i64 d.length), (1, .iptr [.ints o, .rows d])]) (fun i => [(0, .arr (.strs (textL o d i)))]) 1 (fun i => i <= d.length) (fun i => d.length - i) 0 (by omega) (by omega) ?_ ?_
    · simp only [go_sem]
      repeat' (first | refine fork_intro (fun hb => ?_) (fun hb => ?_) | refine partB_intro (fun hb => ?_) (fun hb => ?_) | refine And.intro ?_ ?_)
      all_goals first | exact True.intro | omega | with_reducible rfl | exact congrArg (AV.int _) (by omega) | (first | rfl)
    · intro i hi
      have hll := textL_len o d hi
      simp only [go_sem]
      refine fork_intro (fun hc => ?_) (fun hc => ?_)
      · have hil : i < d.length := by omega
        have hr := field_row hf hil
        have hl := field_row_len hf hil
        have e := textL_succ o d hil
        repeat' (first | refine fork_intro (fun hb => ?_) (fun hb => ?_) | refine partB_intro (fun hb => ?_) (fun hb => ?_) | refine And.intro ?_ ?_)
        all_goals first | exact True.intro | omega | with_reducible rfl | exact congrArg (AV.int _) (by omega) | (refine LoopEnd.intro (i + 1) (by first | omega) (by first | omega | (dsimp only; omega)) (by omega) ?_; simp only [go_sem]; (repeat' (first | refine fork_intro (fun hb => ?_) (fun hb => ?_) | refine partB_intro (fun hb => ?_) (fun hb => ?_) | refine And.intro ?_ ?_)); all_goals first | exact True.intro | omega | with_reducible rfl | exact congrArg (AV.int _) (by omega) | (first | exact ⟨hl, hr⟩ | exact hr | rw [e] | rfl)) | (first | exact ⟨hl, hr⟩ | exact hr | rw [e] | rfl)
      · have hi' : i = d.length := by omega
        subst hi'
        have hb := textB_le hf (Nat.le_refl d.length)
        have e : joinB (textL o d d.length) ⟨#[32, 47, 32]⟩ = textB o d d.length := rfl
        rw [e]
        repeat' (first | refine fork_intro (fun hb => ?_) (fun hb => ?_) | refine partB_intro (fun hb => ?_) (fun hb => ?_) | refine And.intro ?_ ?_)
        all_goals first | exact True.intro | omega | with_reducible rfl | exact congrArg (AV.int _) (by omega) | (first | rfl)
  · rw [hg]; exact ⟨rfl, rfl⟩
def t_ftextI : Table := [(26, pureC g_ftextI)]
theorem t_ftextI_ok : TabOK Tryd.prog t_ftextI := .cons Tryd.func26 (by kernel_rfl) (.pure (by intro args hp; unfold g_ftextI at hp ⊢; split at hp <;> first | exact hp.elim | exact ftextI_ok _ _ hp)) (.nil _)
attribute [go_sem] g_ftextI_eq t_ftextI
end Go.Proofs.YtjnongegddnobaaDoor
