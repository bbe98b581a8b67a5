/- NeededSites: both packages say the same. -/
import Derived.Test.YteefjdbdknkcjaaGreatA3
import Derived.Test.YteefjdbdknkcjaaGreatPlF
namespace Go.Proofs.YteefjdbdknkcjaaGreat
open Go.Vc
set_option maxRecDepth 100000
set_option linter.unusedSimpArgs false
set_option linter.unusedVariables false

theorem allN_succ (p : Nat -> Bool) (n : Nat) : allN p (n + 1) = (allN p n && p n) := by simp [allN, List.range_succ]
theorem allN_zero (p : Nat -> Bool) : allN p 0 = true := rfl
def leD (d : List (List Int)) (a b : Int) (i : Nat) : Bool := decide (ix (ix d (i : Int)) b <= ix (ix d (i : Int)) a)
def eqD (d : List (List Int)) (a b : Int) (i : Nat) : Bool := decide (ix (ix d (i : Int)) a = ix (ix d (i : Int)) b)
def sameB (o : List Int) (d : List (List Int)) (a b : Int) (i : Nat) : Bool := decide (ix o a = ix o b) && allN (eqD d a b) i
theorem sameB_succ (o : List Int) (d : List (List Int)) (a b : Int) (i : Nat) : sameB o d a b (i + 1) = (sameB o d a b i && eqD d a b i) := by rw [sameB, allN_succ, sameB, Bool.and_assoc]
/-- Site a is replaced by site b. -/
def replB (o : List Int) (d : List (List Int)) (a b : Int) : Bool := allN (leD d a b) d.length && (decide (ix o b <= ix o a) && (!sameB o d a b d.length || decide (b < a)))
def needB (o : List Int) (d : List (List Int)) (a b : Nat) : Bool := decide ((a : Int) = b) || !replB o d a b
def neededL (o : List Int) (d : List (List Int)) : List Int := sel (fun a => allN (needB o d a) o.length) o.length

def g_replS : List AV -> Prop × AV
  | [.agg [.ints o, .rows d], .int .i64 a, .int .i64 b] => (FieldOK o d /\ (0 <= a /\ a < o.length) /\ 0 <= b /\ b < o.length, .bool (replB o d a b))
  | _ => (False, .undef)
theorem g_replS_eq (o : List Int) (d : List (List Int)) (a b : Int) : g_replS [.agg [.ints o, .rows d], .int .i64 a, .int .i64 b] = (FieldOK o d /\ (0 <= a /\ a < o.length) /\ 0 <= b /\ b < o.length, .bool (replB o d a b)) := (rfl)
theorem replS_ok (o : List Int) (d : List (List Int)) (a b : Int) (hp : FieldOK o d /\ (0 <= a /\ a < o.length) /\ 0 <= b /\ b < o.length) : SpecOK Tryz.prog 77 [.agg [.ints o, .rows d], .int .i64 a, .int .i64 b] (.bool (replB o d a b)) [] := by
  refine fun_ok (C := []) (hint := hintX [] [] 0 [] [] [] []) (TabOK.nil _) mixed Tryz.func77 rfl (by kernel_rfl) rfl ?_
  show codeA _ _ _ _ _ _ _ _
  simp only [go_sem, Tryz.results77]
  obtain ⟨h, ha, hb⟩ := hp
  have hm := h.m7
  refine ⟨by omega, by omega, ?_⟩
  refine loop_intro (fun i : Nat => [(7, .bool (sameB o d a b i)), (8, .int .i64 i), (1, .int .i64 a), (2, .int .i64 b), (3, .iptr [.ints o, .rows d])]) (fun _ => []) 0 (fun i => i <= d.length /\ ∀ j, j < i -> leD d a b j = true) (fun i => d.length - i) 0 ⟨by omega, fun j hj => absurd hj (Nat.not_lt_zero _)⟩ (by omega) ?_ ?_
  · simp only [go_sem]
    repeat' (first | refine fork_intro (fun hb => ?_) (fun hb => ?_) | refine partB_intro (fun hb => ?_) (fun hb => ?_) | refine And.intro ?_ ?_)
    all_goals first | exact True.intro | omega | with_reducible rfl | exact congrArg (AV.int _) (by omega) | (first | simp [sameB, allN_zero])
  · rintro i ⟨hi, hf⟩
    simp only [go_sem]
    refine fork_intro (fun hc => ?_) (fun hc => ?_)
    · have hrow := h.d_len (k := (i : Int)) (by omega) (by omega)
      have hn := sameB_succ o d a b i
      refine ⟨by omega, by omega, by omega, by omega, fork_intro (fun hd => ?_) (fun hd => ?_)⟩
      · have hz : allN (leD d a b) d.length = false := allN_f (k := i) (by omega) (decide_eq_false (by omega))
        rw [replB, hz]; rfl
      · have hs := below_succ (q := fun j => leD d a b j = true) hf (decide_eq_true (by omega))
        repeat' (first | refine fork_intro (fun hb => ?_) (fun hb => ?_) | refine partB_intro (fun hb => ?_) (fun hb => ?_) | refine And.intro ?_ ?_)
        all_goals first | exact True.intro | omega | with_reducible rfl | exact congrArg (AV.int _) (by omega) | (refine LoopEnd.intro (i + 1) (by first | omega | (first | exact ⟨by omega, hs⟩)) (by first | omega | (dsimp only; omega)) (by omega) ?_; simp only [go_sem]; (repeat' (first | refine fork_intro (fun hb => ?_) (fun hb => ?_) | refine partB_intro (fun hb => ?_) (fun hb => ?_) | refine And.intro ?_ ?_)); all_goals first | exact True.intro | omega | with_reducible rfl | exact congrArg (AV.int _) (by omega) | (first | rw [hn]; simp [*, eqD])) | (first | rw [hn]; simp [*, eqD])
    · have hz : allN (leD d a b) d.length = true := allN_t (fun k hk => hf k (by omega))
      have e : i = d.length := by omega
      rw [replB, hz, e]
      repeat' (first | refine fork_intro (fun hb => ?_) (fun hb => ?_) | refine partB_intro (fun hb => ?_) (fun hb => ?_) | refine And.intro ?_ ?_)
      all_goals first | exact True.intro | omega | with_reducible rfl | exact congrArg (AV.int _) (by omega) | (first | simp [*])
def t_replS : Table := [(77, pureC g_replS)]
theorem t_replS_ok : TabOK Tryz.prog t_replS := .cons Tryz.func77 (by kernel_rfl) (.pure (by intro args hp; unfold g_replS at hp ⊢; split at hp <;> first | exact hp.elim | exact replS_ok _ _ _ _ hp)) (.nil _)
attribute [go_sem] g_replS_eq t_replS
def g_replI : List AV -> Prop × AV
  | [.agg [.ints o, .rows d], .int .i64 b, .int .i64 a] => (FieldOK o d /\ (0 <= a /\ a < o.length) /\ 0 <= b /\ b < o.length, .bool (replB o d a b))
  | _ => (False, .undef)
theorem g_replI_eq (o : List Int) (d : List (List Int)) (a b : Int) : g_replI [.agg [.ints o, .rows d], .int .i64 b, .int .i64 a] = (FieldOK o d /\ (0 <= a /\ a < o.length) /\ 0 <= b /\ b < o.length, .bool (replB o d a b)) := (rfl)
theorem replI_ok (o : List Int) (d : List (List Int)) (a b : Int) (hp : FieldOK o d /\ (0 <= a /\ a < o.length) /\ 0 <= b /\ b < o.length) : SpecOK Tryz.prog 76 [.agg [.ints o, .rows d], .int .i64 b, .int .i64 a] (.bool (replB o d a b)) [] := by
  refine fun_ok (C := []) (hint := hintX [] [] 0 [] [] [] []) (TabOK.nil _) mixed Tryz.func76 rfl (by kernel_rfl) rfl ?_
  show codeA _ _ _ _ _ _ _ _
  simp only [go_sem, Tryz.results76]
  obtain ⟨h, ha, hb⟩ := hp
  have hm := h.m7
  refine ⟨by omega, by omega, by omega, by omega, fork_intro (fun h1 => ?_) (fun h1 => ?_)⟩
  · rw [replB, decide_eq_false (show ¬ ix o b <= ix o a by omega)]; simp
  refine loop_intro (fun i : Nat => [(7, .bool (sameB o d a b i)), (33, .rows d), (34, .int .i64 d.length), (35, .int .i64 i), (1, .int .i64 b), (2, .int .i64 a)]) (fun _ => []) 0 (fun i => i <= d.length /\ ∀ j, j < i -> leD d a b j = true) (fun i => d.length - i) 0 ⟨by omega, fun j hj => absurd hj (Nat.not_lt_zero _)⟩ (by omega) ?_ ?_
  · simp only [go_sem]
    repeat' (first | refine fork_intro (fun hb => ?_) (fun hb => ?_) | refine partB_intro (fun hb => ?_) (fun hb => ?_) | refine And.intro ?_ ?_)
    all_goals first | exact True.intro | omega | with_reducible rfl | exact congrArg (AV.int _) (by omega) | (first | simp [sameB, allN_zero])
  · rintro i ⟨hi, hf⟩
    simp only [go_sem]
    refine fork_intro (fun hc => ?_) (fun hc => ?_)
    · have hrow := h.d_len (k := (i : Int)) (by omega) (by omega)
      have hn := sameB_succ o d a b i
      refine ⟨by omega, by omega, by omega, fork_intro (fun hd => ?_) (fun hd => ?_)⟩
      · have hz : allN (leD d a b) d.length = false := allN_f (k := i) (by omega) (decide_eq_false (by omega))
        rw [replB, hz]; rfl
      · have hs := below_succ (q := fun j => leD d a b j = true) hf (decide_eq_true (by omega))
        repeat' (first | refine fork_intro (fun hb => ?_) (fun hb => ?_) | refine partB_intro (fun hb => ?_) (fun hb => ?_) | refine And.intro ?_ ?_)
        all_goals first | exact True.intro | omega | with_reducible rfl | exact congrArg (AV.int _) (by omega) | (refine LoopEnd.intro (i + 1) (by first | omega | (first | exact ⟨by omega, hs⟩)) (by first | omega | (dsimp only; omega)) (by omega) ?_; simp only [go_sem]; (repeat' (first | refine fork_intro (fun hb => ?_) (fun hb => ?_) | refine partB_intro (fun hb => ?_) (fun hb => ?_) | refine And.intro ?_ ?_)); all_goals first | exact True.intro | omega | with_reducible rfl | exact congrArg (AV.int _) (by omega) | (first | rw [hn]; simp [*, eqD])) | (first | rw [hn]; simp [*, eqD])
    · have hz : allN (leD d a b) d.length = true := allN_t (fun k hk => hf k (by omega))
      have e : i = d.length := by omega
      rw [replB, hz, e, decide_eq_true (show ix o b <= ix o a by omega)]
      repeat' (first | refine fork_intro (fun hb => ?_) (fun hb => ?_) | refine partB_intro (fun hb => ?_) (fun hb => ?_) | refine And.intro ?_ ?_)
      all_goals first | exact True.intro | omega | with_reducible rfl | exact congrArg (AV.int _) (by omega) | (first | simp [*])
def t_replI : Table := [(76, pureC g_replI)]
theorem t_replI_ok : TabOK Tryz.prog t_replI := .cons Tryz.func76 (by kernel_rfl) (.pure (by intro args hp; unfold g_replI at hp ⊢; split at hp <;> first | exact hp.elim | exact replI_ok _ _ _ _ hp)) (.nil _)
attribute [go_sem] g_replI_eq t_replI
def g_neededS : List AV -> Prop × AV
  | [.agg [.ints o, .rows d]] => (o.length <= 1048576000 /\ d.length <= 1048576000 /\ ∀ x ∈ d, x.length <= 1048576000, .tup [.ints (bif good o d then neededL o d else []), .bool (good o d)])
  | _ => (False, .undef)
theorem g_neededS_eq (o : List Int) (d : List (List Int)) : g_neededS [.agg [.ints o, .rows d]] = (o.length <= 1048576000 /\ d.length <= 1048576000 /\ ∀ x ∈ d, x.length <= 1048576000, .tup [.ints (bif good o d then neededL o d else []), .bool (good o d)]) := (rfl)
theorem neededS_ok (o : List Int) (d : List (List Int)) (hp : o.length <= 1048576000 /\ d.length <= 1048576000 /\ ∀ x ∈ d, x.length <= 1048576000) : SpecOK Tryz.prog 29 [.agg [.ints o, .rows d]] (.tup [.ints (bif good o d then neededL o d else []), .bool (good o d)]) [] := by
  refine fun_ok (C := t_l2Good ++ t_replS) (hint := hintX [8] [] 0 [] [] [] []) ((t_l2Good_ok).append t_replS_ok) mixed Tryz.func29 rfl (by kernel_rfl) rfl ?_
  show codeA _ _ _ _ _ _ _ _
  simp only [go_sem, Tryz.results29]
  refine ⟨hp, partB_intro (fun hg => ?_) (fun hg => ?_)⟩
  · have h := good_iff.1 hg
    have hn := h.n7
    refine loop_intro (fun a : Nat => [(4, .sl 0), (5, .int .i64 a), (1, .iptr [.ints o, .rows d])]) (fun a => [(0, .arr (.ints (sel (fun a => allN (needB o d a) o.length) a)))]) 1 (fun a => a <= o.length) (fun a => o.length - a) 0 (by omega) (by omega) ?_ ?_
    · simp only [go_sem]
      repeat' (first | refine fork_intro (fun hb => ?_) (fun hb => ?_) | refine partB_intro (fun hb => ?_) (fun hb => ?_) | refine And.intro ?_ ?_)
      all_goals first | exact True.intro | omega | with_reducible rfl | exact congrArg (AV.int _) (by omega) | (first | rfl)
    · intro a ha
      simp only [go_sem]
      refine fork_intro (fun hc => ?_) (fun hc => ?_)
      · refine loop_intro (fun b : Nat => [(6, .bool (allN (needB o d a) b)), (7, .int .i64 b), (4, .sl 0), (5, .int .i64 a), (1, .iptr [.ints o, .rows d])]) (fun b => [(0, .arr (.ints (sel (fun a => allN (needB o d a) o.length) a)))]) 1 (fun b => b <= o.length) (fun b => o.length - b) 0 (by omega) (by omega) ?_ ?_
        · simp only [go_sem]
          repeat' (first | refine fork_intro (fun hb => ?_) (fun hb => ?_) | refine partB_intro (fun hb => ?_) (fun hb => ?_) | refine And.intro ?_ ?_)
          all_goals first | exact True.intro | omega | with_reducible rfl | exact congrArg (AV.int _) (by omega) | (first | rfl)
        · intro b hb
          have hsl := sel_len (fun a => allN (needB o d a) o.length) a
          simp only [go_sem]
          refine fork_intro (fun hd => ?_) (fun hd => ?_)
          · have hs := allN_succ (needB o d a) b
            have ht : FieldOK o d /\ (0 <= (a : Int) /\ (a : Int) < o.length) /\ 0 <= (b : Int) /\ (b : Int) < o.length := ⟨h, by omega, by omega⟩
            repeat' (first | refine fork_intro (fun hb => ?_) (fun hb => ?_) | refine partB_intro (fun hb => ?_) (fun hb => ?_) | refine And.intro ?_ ?_)
            all_goals first | exact True.intro | omega | with_reducible rfl | exact congrArg (AV.int _) (by omega) | (refine LoopEnd.intro (b + 1) (by first | omega) (by first | omega | (dsimp only; omega)) (by omega) ?_; simp only [go_sem]; (repeat' (first | refine fork_intro (fun hb => ?_) (fun hb => ?_) | refine partB_intro (fun hb => ?_) (fun hb => ?_) | refine And.intro ?_ ?_)); all_goals first | exact True.intro | omega | with_reducible rfl | exact congrArg (AV.int _) (by omega) | (first | exact ht | (rw [hs]; simp [*, needB]))) | (first | exact ht | (rw [hs]; simp [*, needB]))
          · rw [show b = o.length by omega]
            refine partB_intro (fun he => ?_) (fun he => ?_)
            · have hs := sel_t (p := fun a => allN (needB o d a) o.length) (n := a) he
              repeat' (first | refine fork_intro (fun hb => ?_) (fun hb => ?_) | refine partB_intro (fun hb => ?_) (fun hb => ?_) | refine And.intro ?_ ?_)
              all_goals first | exact True.intro | omega | with_reducible rfl | exact congrArg (AV.int _) (by omega) | (refine LoopEnd.intro (a + 1) (by first | omega) (by first | omega | (dsimp only; omega)) (by omega) ?_; simp only [go_sem]; (repeat' (first | refine fork_intro (fun hb => ?_) (fun hb => ?_) | refine partB_intro (fun hb => ?_) (fun hb => ?_) | refine And.intro ?_ ?_)); all_goals first | exact True.intro | omega | with_reducible rfl | exact congrArg (AV.int _) (by omega) | (first | rw [hs])) | (first | rw [hs])
            · have hs := sel_f (p := fun a => allN (needB o d a) o.length) (n := a) he
              repeat' (first | refine fork_intro (fun hb => ?_) (fun hb => ?_) | refine partB_intro (fun hb => ?_) (fun hb => ?_) | refine And.intro ?_ ?_)
              all_goals first | exact True.intro | omega | with_reducible rfl | exact congrArg (AV.int _) (by omega) | (refine LoopEnd.intro (a + 1) (by first | omega) (by first | omega | (dsimp only; omega)) (by omega) ?_; simp only [go_sem]; (repeat' (first | refine fork_intro (fun hb => ?_) (fun hb => ?_) | refine partB_intro (fun hb => ?_) (fun hb => ?_) | refine And.intro ?_ ?_)); all_goals first | exact True.intro | omega | with_reducible rfl | exact congrArg (AV.int _) (by omega) | (first | rw [hs])) | (first | rw [hs])
      · rw [hg, show a = o.length by omega]; exact ⟨rfl, rfl⟩
  · rw [hg]; first | rfl | exact ⟨rfl, rfl⟩
def t_neededS : Table := [(29, pureC g_neededS)]
theorem t_neededS_ok : TabOK Tryz.prog t_neededS := .cons Tryz.func29 (by kernel_rfl) (.pure (by intro args hp; unfold g_neededS at hp ⊢; split at hp <;> first | exact hp.elim | exact neededS_ok _ _ hp)) (.nil _)
attribute [go_sem] g_neededS_eq t_neededS
def g_neededI : List AV -> Prop × AV × Heap
  | [.agg [.ints o, .rows d]] => (o.length <= 1048576000 /\ d.length <= 1048576000 /\ ∀ x ∈ d, x.length <= 1048576000, .tup [.sl 0, .bool (good o d)], [(0, .arr (.ints (bif good o d then neededL o d else [])))])
  | _ => (False, .undef, [])
theorem g_neededI_eq (o : List Int) (d : List (List Int)) : g_neededI [.agg [.ints o, .rows d]] = (o.length <= 1048576000 /\ d.length <= 1048576000 /\ ∀ x ∈ d, x.length <= 1048576000, .tup [.sl 0, .bool (good o d)], [(0, .arr (.ints (bif good o d then neededL o d else [])))]) := (rfl)
theorem neededI_ok (o : List Int) (d : List (List Int)) (hp : o.length <= 1048576000 /\ d.length <= 1048576000 /\ ∀ x ∈ d, x.length <= 1048576000) : SpecOK Tryz.prog 28 [.agg [.ints o, .rows d]] (.tup [.sl 0, .bool (good o d)]) [(0, .arr (.ints (bif good o d then neededL o d else [])))] := by
  refine fun_ok (C := t_isF ++ t_replI) (hint := hintX [11] [(2, [.post, .up 2 (.arr (.ints []))])] 0 [] [] [] []) ((t_isF_ok).append t_replI_ok) mixed Tryz.func28 rfl (by kernel_rfl) rfl ?_
  show codeA _ _ _ _ _ _ _ _
  simp only [go_sem, Tryz.results28]
  refine ⟨hp, partB_intro (fun hg => ?_) (fun hg => ?_)⟩
  · have h := good_iff.1 hg
    have hn := h.n7
    refine loop_intro (fun a : Nat => [(4, .sl 0), (14, .int .i64 o.length), (15, .int .i64 a), (1, .iptr [.ints o, .rows d])]) (fun a => [(0, .arr (.ints (sel (fun a => allN (needB o d a) o.length) a)))]) 1 (fun a => a <= o.length) (fun a => o.length - a) 0 (by omega) (by omega) ?_ ?_
    · simp only [go_sem]
      repeat' (first | refine fork_intro (fun hb => ?_) (fun hb => ?_) | refine partB_intro (fun hb => ?_) (fun hb => ?_) | refine And.intro ?_ ?_)
      all_goals first | exact True.intro | omega | with_reducible rfl | exact congrArg (AV.int _) (by omega) | (first | rfl)
    · intro a ha
      simp only [go_sem]
      refine fork_intro (fun hc => ?_) (fun hc => ?_)
      · refine loop_intro (fun b : Nat => [(6, .bool (allN (needB o d a) b)), (20, .int .i64 o.length), (21, .int .i64 b), (4, .sl 0), (5, .int .i64 a), (14, .int .i64 o.length), (15, .int .i64 a), (1, .iptr [.ints o, .rows d])]) (fun b => [(0, .arr (.ints (sel (fun a => allN (needB o d a) o.length) a)))]) 1 (fun b => b <= o.length) (fun b => o.length - b) 0 (by omega) (by omega) ?_ ?_
        · simp only [go_sem]
          repeat' (first | refine fork_intro (fun hb => ?_) (fun hb => ?_) | refine partB_intro (fun hb => ?_) (fun hb => ?_) | refine And.intro ?_ ?_)
          all_goals first | exact True.intro | omega | with_reducible rfl | exact congrArg (AV.int _) (by omega) | (first | rfl)
        · intro b hb
          have hsl := sel_len (fun a => allN (needB o d a) o.length) a
          simp only [go_sem]
          refine fork_intro (fun hd => ?_) (fun hd => ?_)
          · have hs := allN_succ (needB o d a) b
            have ht : FieldOK o d /\ (0 <= (a : Int) /\ (a : Int) < o.length) /\ 0 <= (b : Int) /\ (b : Int) < o.length := ⟨h, by omega, by omega⟩
            repeat' (first | refine fork_intro (fun hb => ?_) (fun hb => ?_) | refine partB_intro (fun hb => ?_) (fun hb => ?_) | refine And.intro ?_ ?_)
            all_goals first | exact True.intro | omega | with_reducible rfl | exact congrArg (AV.int _) (by omega) | (refine LoopEnd.intro (b + 1) (by first | omega) (by first | omega | (dsimp only; omega)) (by omega) ?_; simp only [go_sem]; (repeat' (first | refine fork_intro (fun hb => ?_) (fun hb => ?_) | refine partB_intro (fun hb => ?_) (fun hb => ?_) | refine And.intro ?_ ?_)); all_goals first | exact True.intro | omega | with_reducible rfl | exact congrArg (AV.int _) (by omega) | (first | exact ht | (rw [hs]; simp [*, needB]))) | (first | exact ht | (rw [hs]; simp [*, needB]))
          · rw [show b = o.length by omega]
            refine partB_intro (fun he => ?_) (fun he => ?_)
            · have hs := sel_t (p := fun a => allN (needB o d a) o.length) (n := a) he
              repeat' (first | refine fork_intro (fun hb => ?_) (fun hb => ?_) | refine partB_intro (fun hb => ?_) (fun hb => ?_) | refine And.intro ?_ ?_)
              all_goals first | exact True.intro | omega | with_reducible rfl | exact congrArg (AV.int _) (by omega) | (refine LoopEnd.intro (a + 1) (by first | omega) (by first | omega | (dsimp only; omega)) (by omega) ?_; simp only [go_sem]; (repeat' (first | refine fork_intro (fun hb => ?_) (fun hb => ?_) | refine partB_intro (fun hb => ?_) (fun hb => ?_) | refine And.intro ?_ ?_)); all_goals first | exact True.intro | omega | with_reducible rfl | exact congrArg (AV.int _) (by omega) | (first | rw [hs])) | (first | rw [hs])
            · have hs := sel_f (p := fun a => allN (needB o d a) o.length) (n := a) he
              repeat' (first | refine fork_intro (fun hb => ?_) (fun hb => ?_) | refine partB_intro (fun hb => ?_) (fun hb => ?_) | refine And.intro ?_ ?_)
              all_goals first | exact True.intro | omega | with_reducible rfl | exact congrArg (AV.int _) (by omega) | (refine LoopEnd.intro (a + 1) (by first | omega) (by first | omega | (dsimp only; omega)) (by omega) ?_; simp only [go_sem]; (repeat' (first | refine fork_intro (fun hb => ?_) (fun hb => ?_) | refine partB_intro (fun hb => ?_) (fun hb => ?_) | refine And.intro ?_ ?_)); all_goals first | exact True.intro | omega | with_reducible rfl | exact congrArg (AV.int _) (by omega) | (first | rw [hs])) | (first | rw [hs])
      · rw [hg, show a = o.length by omega]; exact ⟨rfl, rfl⟩
  · rw [hg]; first | rfl | exact ⟨rfl, rfl⟩
def t_neededI : Table := [(28, ownC g_neededI)]
theorem t_neededI_ok : TabOK Tryz.prog t_neededI := .cons Tryz.func28 (by kernel_rfl) (.own (by intro args hp; unfold g_neededI at hp ⊢; split at hp <;> first | exact hp.elim | exact ⟨neededI_ok _ _ hp, rfl⟩)) (.nil _)
attribute [go_sem] g_neededI_eq t_neededI
end Go.Proofs.YteefjdbdknkcjaaGreat
