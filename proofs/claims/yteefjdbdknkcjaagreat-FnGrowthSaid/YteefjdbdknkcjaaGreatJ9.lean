/- Texts joined: A35 A18 A35b A36 A37 A23 A24 XS. -/
import Derived.Test.YteefjdbdknkcjaaGreatJ8
import Derived.Test.YteefjdbdknkcjaaGreatTy
import Derived.Test.YteefjdbdknkcjaaGreatShelf
namespace Go.Proofs.YteefjdbdknkcjaaGreat
open Go.Vc
set_option maxRecDepth 100000
set_option maxHeartbeats 1600000
set_option linter.unusedSimpArgs false
set_option linter.unusedVariables false

def g_stabC : List AV -> Heap -> Prop × AV × Heap
  | [.sl 0, .int .i64 n, .fn 59 [.iptr [.ints p, .ints t, .ints z]]], [(0, .arr (.ints xs))] => ((xs.length <= 7 /\ n = xs.length) /\ t.length <= 1000 /\ ∀ x ∈ xs, 0 <= x /\ x < t.length, .tup [], [(0, .arr (.ints (insF (ltT t) xs)))])
  | _, _ => (False, .undef, [])
theorem g_stabC_eq (xs : List Int) (n : Int) (p t z : List Int) : g_stabC [.sl 0, .int .i64 n, .fn 59 [.iptr [.ints p, .ints t, .ints z]]] [(0, .arr (.ints xs))] = ((xs.length <= 7 /\ n = xs.length) /\ t.length <= 1000 /\ ∀ x ∈ xs, 0 <= x /\ x < t.length, .tup [], [(0, .arr (.ints (insF (ltT t) xs)))]) := (rfl)
theorem stabC_ok (xs : List Int) (n : Int) (p t z : List Int) (hp : (xs.length <= 7 /\ n = xs.length) /\ t.length <= 1000 /\ ∀ x ∈ xs, 0 <= x /\ x < t.length) : SpecM Tryz.prog 123 [.sl 0, .int .i64 n, .fn 59 [.iptr [.ints p, .ints t, .ints z]]] [(0, .arr (.ints xs))] 1 (.tup []) [(0, .arr (.ints (insF (ltT t) xs)))] := by
  refine fun_okM (C := t_insC) (hint := hintX [] [] 1 [155] [] [] []) (t_insC_ok) mixed Tryz.func123 rfl (by kernel_rfl) rfl (Nat.le_refl _) (upTo_look rfl) (shapes ?_) ?_
  · exact ⟨fun k' h => by cases h; exact ss_ints (insF_len _ _).symm, trivial⟩
  show codeA _ _ _ _ _ _ _ _
  simp only [go_sem, Tryz.results123]
  obtain ⟨⟨h7, rfl⟩, ht, hx⟩ := hp
  refine loop_intro (fun _ : Unit => [(6, .int .i64 20), (7, .int .i64 0), (8, .int .i64 20), (0, .sl 0), (1, .int .i64 xs.length), (2, .fn 59 [.iptr [.ints p, .ints t, .ints z]])]) (fun _ => [(0, .arr (.ints xs))]) 1 (fun _ => True) (fun _ => 0) () trivial (by omega) ?_ ?_
  · simp only [go_sem]
    repeat' (first | refine fork_intro (fun hb => ?_) (fun hb => ?_) | refine partB_intro (fun hb => ?_) (fun hb => ?_) | refine And.intro ?_ ?_)
    all_goals first | exact True.intro | omega | with_reducible rfl | exact congrArg (AV.int _) (by omega) | (first | rfl)
  · intro _ _
    simp only [go_sem]
    refine fork_intro (fun h => by omega) (fun _ => ?_)
    refine ⟨⟨h7, ht, hx⟩, ?_⟩
    refine loop_intro (fun _ : Unit => [(6, .int .i64 20), (0, .sl 0), (1, .int .i64 xs.length), (2, .fn 59 [.iptr [.ints p, .ints t, .ints z]])]) (fun _ => [(0, .arr (.ints (insF (ltT t) xs)))]) 1 (fun _ => True) (fun _ => 0) () trivial (by omega) ?_ ?_
    · simp only [go_sem]
      repeat' (first | refine fork_intro (fun hb => ?_) (fun hb => ?_) | refine partB_intro (fun hb => ?_) (fun hb => ?_) | refine And.intro ?_ ?_)
      all_goals first | exact True.intro | omega | with_reducible rfl | exact congrArg (AV.int _) (by omega) | (first | rfl)
    · intro _ _
      simp only [go_sem]
      refine fork_intro (fun h => by omega) (fun _ => ?_)
      repeat' (first | refine fork_intro (fun hb => ?_) (fun hb => ?_) | refine partB_intro (fun hb => ?_) (fun hb => ?_) | refine And.intro ?_ ?_)
      all_goals first | exact True.intro | omega | with_reducible rfl | exact congrArg (AV.int _) (by omega) | (first | rfl)
def t_stabC : Table := [(123, mutC 1 g_stabC)]
theorem t_stabC_ok : TabOK Tryz.prog t_stabC := .cons Tryz.func123 (by kernel_rfl) (.mut (by intro args pre _ hp; unfold g_stabC at hp ⊢; split at hp <;> first | exact hp.elim | exact stabC_ok _ _ _ _ _ hp)) (.nil _)
attribute [go_sem] g_stabC_eq t_stabC
def g_stabI : List AV -> Heap -> Prop × AV × Heap
  | [.sl 0, .fn 59 [.iptr [.ints p, .ints t, .ints z]]], [(0, .arr (.ints xs))] => (xs.length <= 7 /\ t.length <= 1000 /\ ∀ x ∈ xs, 0 <= x /\ x < t.length, .tup [], [(0, .arr (.ints (insF (ltT t) xs)))])
  | _, _ => (False, .undef, [])
theorem g_stabI_eq (xs : List Int) (p t z : List Int) : g_stabI [.sl 0, .fn 59 [.iptr [.ints p, .ints t, .ints z]]] [(0, .arr (.ints xs))] = (xs.length <= 7 /\ t.length <= 1000 /\ ∀ x ∈ xs, 0 <= x /\ x < t.length, .tup [], [(0, .arr (.ints (insF (ltT t) xs)))]) := (rfl)
theorem stabI_ok (xs : List Int) (p t z : List Int) (hp : xs.length <= 7 /\ t.length <= 1000 /\ ∀ x ∈ xs, 0 <= x /\ x < t.length) : SpecM Tryz.prog 58 [.sl 0, .fn 59 [.iptr [.ints p, .ints t, .ints z]]] [(0, .arr (.ints xs))] 1 (.tup []) [(0, .arr (.ints (insF (ltT t) xs)))] := by
  refine fun_okM (C := t_stabC) (hint := hintX [] [] 1 [123] [] [] []) (t_stabC_ok) mixed Tryz.func58 rfl (by kernel_rfl) rfl (Nat.le_refl _) (upTo_look rfl) (shapes ?_) ?_
  · exact ⟨fun k' h => by cases h; exact ss_ints (insF_len _ _).symm, trivial⟩
  show codeA _ _ _ _ _ _ _ _
  simp only [go_sem, Tryz.results58]
  obtain ⟨h7, ht, hx⟩ := hp
  repeat' (first | refine fork_intro (fun hb => ?_) (fun hb => ?_) | refine partB_intro (fun hb => ?_) (fun hb => ?_) | refine And.intro ?_ ?_)
  all_goals first | exact True.intro | omega | with_reducible rfl | exact congrArg (AV.int _) (by omega) | (first | exact ⟨h7, ht, hx⟩ | exact hx | rfl)
def t_stabI : Table := [(58, mutC 1 g_stabI)]
theorem t_stabI_ok : TabOK Tryz.prog t_stabI := .cons Tryz.func58 (by kernel_rfl) (.mut (by intro args pre _ hp; unfold g_stabI at hp ⊢; split at hp <;> first | exact hp.elim | exact stabI_ok _ _ _ _ hp)) (.nil _)
attribute [go_sem] g_stabI_eq t_stabI
def g_pdqO : List AV -> Heap -> Prop × AV × Heap
  | [.sl 0, .int .i64 a, .int .i64 n, .int .i64 l], [(0, .arr (.ints xs))] => (xs.length <= 7 /\ a = 0 /\ n = xs.length, .tup [], [(0, .arr (.ints (insF ltI xs)))])
  | _, _ => (False, .undef, [])
theorem g_pdqO_eq (xs : List Int) (a n l : Int) : g_pdqO [.sl 0, .int .i64 a, .int .i64 n, .int .i64 l] [(0, .arr (.ints xs))] = (xs.length <= 7 /\ a = 0 /\ n = xs.length, .tup [], [(0, .arr (.ints (insF ltI xs)))]) := (rfl)
theorem pdqO_ok (xs : List Int) (a n l : Int) (hp : xs.length <= 7 /\ a = 0 /\ n = xs.length) : SpecM Tryz.prog 126 [.sl 0, .int .i64 a, .int .i64 n, .int .i64 l] [(0, .arr (.ints xs))] 1 (.tup []) [(0, .arr (.ints (insF ltI xs)))] := by
  refine fun_okM (C := t_insO) (hint := hintX [] [] 1 [157] [] [] []) (t_insO_ok) mixed Tryz.func126 rfl (by kernel_rfl) rfl (Nat.le_refl _) (upTo_look rfl) (shapes ?_) ?_
  · exact ⟨fun k' h => by cases h; exact ss_ints (insF_len _ _).symm, trivial⟩
  show codeA _ _ _ _ _ _ _ _
  simp only [go_sem, Tryz.results126]
  obtain ⟨h7, rfl, rfl⟩ := hp
  refine loop_intro (fun _ : Unit => [(8, .bool true), (9, .bool true), (0, .sl 0), (1, .int .i64 0), (2, .int .i64 xs.length), (3, .int .i64 l)]) (fun _ => [(0, .arr (.ints xs))]) 1 (fun _ => True) (fun _ => 0) () trivial (by omega) ?_ ?_
  · simp only [go_sem]
    repeat' (first | refine fork_intro (fun hb => ?_) (fun hb => ?_) | refine partB_intro (fun hb => ?_) (fun hb => ?_) | refine And.intro ?_ ?_)
    all_goals first | exact True.intro | omega | with_reducible rfl | exact congrArg (AV.int _) (by omega) | (first | rfl)
  · intro _ _
    have hd : decide ((xs.length : Int) - 0 <= 12) = true := decide_eq_true (by omega)
    simp only [go_sem, hd, ↓partB_true]
    exact ⟨by omega, h7⟩
def t_pdqO : Table := [(126, mutC 1 g_pdqO)]
theorem t_pdqO_ok : TabOK Tryz.prog t_pdqO := .cons Tryz.func126 (by kernel_rfl) (.mut (by intro args pre _ hp; unfold g_pdqO at hp ⊢; split at hp <;> first | exact hp.elim | exact pdqO_ok _ _ _ _ hp)) (.nil _)
attribute [go_sem] g_pdqO_eq t_pdqO
def g_sortI : List AV -> Heap -> Prop × AV × Heap
  | [.sl 0], [(0, .arr (.ints xs))] => (xs.length <= 7, .tup [], [(0, .arr (.ints (insF ltI xs)))])
  | _, _ => (False, .undef, [])
theorem g_sortI_eq (xs : List Int) : g_sortI [.sl 0] [(0, .arr (.ints xs))] = (xs.length <= 7, .tup [], [(0, .arr (.ints (insF ltI xs)))]) := (rfl)
theorem sortI_ok (xs : List Int) (hp : xs.length <= 7) : SpecM Tryz.prog 63 [.sl 0] [(0, .arr (.ints xs))] 1 (.tup []) [(0, .arr (.ints (insF ltI xs)))] := by
  refine fun_okM (C := t_pdqO ++ t_lenB) (hint := hintX [] [] 1 [126] [] [] []) ((t_pdqO_ok).append t_lenB_ok) mixed Tryz.func63 rfl (by kernel_rfl) rfl (Nat.le_refl _) (upTo_look rfl) (shapes ?_) ?_
  · exact ⟨fun k' h => by cases h; exact ss_ints (insF_len _ _).symm, trivial⟩
  show codeA _ _ _ _ _ _ _ _
  simp only [go_sem, Tryz.results63]
  repeat' (first | refine fork_intro (fun hb => ?_) (fun hb => ?_) | refine partB_intro (fun hb => ?_) (fun hb => ?_) | refine And.intro ?_ ?_)
  all_goals first | exact True.intro | omega | with_reducible rfl | exact congrArg (AV.int _) (by omega) | (first | exact hp | rfl)
def t_sortI : Table := [(63, mutC 1 g_sortI)]
theorem t_sortI_ok : TabOK Tryz.prog t_sortI := .cons Tryz.func63 (by kernel_rfl) (.mut (by intro args pre _ hp; unfold g_sortI at hp ⊢; split at hp <;> first | exact hp.elim | exact sortI_ok _ hp)) (.nil _)
attribute [go_sem] g_sortI_eq t_sortI
end Go.Proofs.YteefjdbdknkcjaaGreat
namespace Go.Proofs.YteefjdbdknkcjaaGreat
open Go.Vc
set_option maxRecDepth 100000
set_option linter.unusedSimpArgs false
set_option linter.unusedVariables false

def g_indexI : List AV -> Prop × AV
  | [.ints xs, .int .i64 n] => (xs.length <= 1048576000, .int .i64 (idxG (fun x => decide (x = n)) xs 0))
  | _ => (False, .undef)
theorem g_indexI_eq (xs : List Int) (n : Int) : g_indexI [.ints xs, .int .i64 n] = (xs.length <= 1048576000, .int .i64 (idxG (fun x => decide (x = n)) xs 0)) := (rfl)
theorem indexI_ok (xs : List Int) (n : Int) (hp : xs.length <= 1048576000) : SpecOK Tryz.prog 121 [.ints xs, .int .i64 n] (.int .i64 (idxG (fun x => decide (x = n)) xs 0)) [] := by
  refine fun_ok (C := []) (hint := hintX [] [] 0 [] [] [] []) (TabOK.nil _) mixed Tryz.func121 rfl (by kernel_rfl) rfl ?_
  show codeA _ _ _ _ _ _ _ _
  simp only [go_sem, Tryz.results121]
  refine loop_intro (fun k : Nat => [(0, .ints xs), (1, .int .i64 n), (7, .int .i64 xs.length), (8, .int .i64 k)]) (fun _ => []) 0 (fun k => k <= xs.length /\ idxG (fun x => decide (x = n)) (xs.drop k) k = idxG (fun x => decide (x = n)) xs 0) (fun k => xs.length - k) 0 ⟨Nat.zero_le _, rfl⟩ (by omega) ?_ ?_
  · simp only [go_sem]
    repeat' (first | refine fork_intro (fun hb => ?_) (fun hb => ?_) | refine partB_intro (fun hb => ?_) (fun hb => ?_) | refine And.intro ?_ ?_)
    all_goals first | exact True.intro | omega | with_reducible rfl | exact congrArg (AV.int _) (by omega) | (first | rfl)
  · rintro k ⟨hk, ht⟩
    simp only [go_sem]
    refine fork_intro (fun hb => ?_) (fun hb => ?_)
    · rw [drop_ix xs (show k < xs.length by omega), idxG] at ht
      refine ⟨by omega, fork_intro (fun hc => ?_) (fun hc => ?_)⟩
      · rw [if_pos (decide_eq_true hc.symm)] at ht
        rw [<- ht]
      · rw [if_neg (by rw [decide_eq_true_eq]; exact fun e => hc e.symm)] at ht
        repeat' (first | refine fork_intro (fun hb => ?_) (fun hb => ?_) | refine partB_intro (fun hb => ?_) (fun hb => ?_) | refine And.intro ?_ ?_)
        all_goals first | exact True.intro | omega | with_reducible rfl | exact congrArg (AV.int _) (by omega) | (refine LoopEnd.intro (k + 1) (by first | omega | (first | exact ⟨by omega, ht⟩)) (by first | omega | (dsimp only; omega)) (by omega) ?_; simp only [go_sem]; (repeat' (first | refine fork_intro (fun hb => ?_) (fun hb => ?_) | refine partB_intro (fun hb => ?_) (fun hb => ?_) | refine And.intro ?_ ?_)); all_goals first | exact True.intro | omega | with_reducible rfl | exact congrArg (AV.int _) (by omega))
    · rw [show k = xs.length by omega, List.drop_length] at ht
      rw [<- ht]; rfl
def t_indexI : Table := [(121, pureC g_indexI)]
theorem t_indexI_ok : TabOK Tryz.prog t_indexI := .cons Tryz.func121 (by kernel_rfl) (.pure (by intro args hp; unfold g_indexI at hp ⊢; split at hp <;> first | exact hp.elim | exact indexI_ok _ _ hp)) (.nil _)
attribute [go_sem] g_indexI_eq t_indexI
def g_putS : List AV -> Prop × AV
  | [.ints xs, .int .i64 n] => (xs.length <= 1048576, .ints (putF xs n))
  | _ => (False, .undef)
theorem g_putS_eq (xs : List Int) (n : Int) : g_putS [.ints xs, .int .i64 n] = (xs.length <= 1048576, .ints (putF xs n)) := (rfl)
theorem putS_ok (xs : List Int) (n : Int) (hp : xs.length <= 1048576) : SpecOK Tryz.prog 66 [.ints xs, .int .i64 n] (.ints (putF xs n)) [] := by
  refine fun_ok (C := []) (hint := hintX [33] [] 0 [] [] [(6, [0, 1, 2, 3, 5, 6, 8, 9, 10, 4, 7, 11, 12])] [(6, [4, 9])]) (TabOK.nil _) mixed Tryz.func66 rfl (by kernel_rfl) rfl ?_
  show codeA _ _ _ _ _ _ _ _
  simp only [go_sem, Tryz.results66]
  refine loop_intro (fun k : Nat => [(0, .ints xs), (1, .int .i64 n), (4, .nils), (5, .int .i64 k)]) (fun _ => []) 0 (fun k => k <= xs.length /\ ∀ j : Nat, j < k -> ix xs (j : Int) < n) (fun k => xs.length - k) 0 ⟨Nat.zero_le _, fun j h => absurd h (Nat.not_lt_zero _)⟩ (by omega) ?_ ?_
  · simp only [go_sem]
    repeat' (first | refine fork_intro (fun hb => ?_) (fun hb => ?_) | refine partB_intro (fun hb => ?_) (fun hb => ?_) | refine And.intro ?_ ?_)
    all_goals first | exact True.intro | omega | with_reducible rfl | exact congrArg (AV.int _) (by omega) | (first | rfl)
  · rintro k ⟨hk, ht⟩
    have e1 := cutL_pre xs k
    have e2 := cutL_suf xs k
    have e3 := fun h2 => putF_at (n := n) (xs := xs) (k := k) hk ht h2
    have hsu := fun h => below_succ (q := fun j : Nat => ix xs (j : Int) < n) (k := k) ht h
    have hl1 : (xs.take k).length = k := by simp; omega
    have hl2 : (xs.drop k).length = xs.length - k := by simp
    simp only [go_sem]
    simp only [e1, e2]
    refine fork_intro (fun hc => ⟨by omega, fork_intro (fun hd => ?_) (fun hd => ?_)⟩) (fun hc => ?_)
    · repeat' (first | refine fork_intro (fun hb => ?_) (fun hb => ?_) | refine partB_intro (fun hb => ?_) (fun hb => ?_) | refine And.intro ?_ ?_)
      all_goals first | exact True.intro | omega | with_reducible rfl | exact congrArg (AV.int _) (by omega) | (refine LoopEnd.intro (k + 1) (by first | omega | (first | exact ⟨by omega, hsu hd⟩)) (by first | omega | (dsimp only; omega)) (by omega) ?_; simp only [go_sem]; (repeat' (first | refine fork_intro (fun hb => ?_) (fun hb => ?_) | refine partB_intro (fun hb => ?_) (fun hb => ?_) | refine And.intro ?_ ?_)); all_goals first | exact True.intro | omega | with_reducible rfl | exact congrArg (AV.int _) (by omega))
    · have e4 := e3 (fun _ => by omega)
      repeat' (first | refine fork_intro (fun hb => ?_) (fun hb => ?_) | refine partB_intro (fun hb => ?_) (fun hb => ?_) | refine And.intro ?_ ?_)
      all_goals first | exact True.intro | omega | with_reducible rfl | exact congrArg (AV.int _) (by omega) | (first | (rw [e4, if_pos (by omega)]; done) | (rw [e4, if_neg (by omega), List.append_assoc]; rfl))
    · have e4 := e3 (fun h => by omega)
      repeat' (first | refine fork_intro (fun hb => ?_) (fun hb => ?_) | refine partB_intro (fun hb => ?_) (fun hb => ?_) | refine And.intro ?_ ?_)
      all_goals first | exact True.intro | omega | with_reducible rfl | exact congrArg (AV.int _) (by omega) | (first | (rw [e4, if_pos (by omega)]; done) | (rw [e4, if_neg (by omega), List.append_assoc]; rfl))
def t_putS : Table := [(66, pureC g_putS)]
theorem t_putS_ok : TabOK Tryz.prog t_putS := .cons Tryz.func66 (by kernel_rfl) (.pure (by intro args hp; unfold g_putS at hp ⊢; split at hp <;> first | exact hp.elim | exact putS_ok _ _ hp)) (.nil _)
attribute [go_sem] g_putS_eq t_putS
end Go.Proofs.YteefjdbdknkcjaaGreat
namespace Go.Proofs.YteefjdbdknkcjaaGreat
end Go.Proofs.YteefjdbdknkcjaaGreat
namespace Go.Proofs.YteefjdbdknkcjaaGreat
open Go.Vc
set_option maxRecDepth 100000
set_option maxHeartbeats 1600000
set_option linter.unusedSimpArgs false
set_option linter.unusedVariables false

theorem chp_fact (o : List Int) : ∀ k : Nat, 1 <= k -> chpF o k < k /\ (∀ q : Nat, q < k -> ix o (chpF o k : Int) <= ix o (q : Int)) /\ ∀ q : Nat, q < chpF o k -> ix o (chpF o k : Int) < ix o (q : Int)
  | 0, h => by omega
  | 1, _ => by
    have e : chpF o 1 = 0 := by unfold chpF; split <;> rfl
    rw [e]
    exact ⟨by omega, fun q hq => by obtain rfl : q = 0 := by omega
                                    exact Int.le_refl _, fun q hq => by omega⟩
  | k + 2, _ => by
    obtain ⟨h1, h2, h3⟩ := chp_fact o (k + 1) (by omega)
    have e : chpF o (k + 2) = if ix o ((k + 1 : Nat) : Int) < ix o (chpF o (k + 1) : Int) then k + 1 else chpF o (k + 1) := rfl
    rw [e]
    split
    · rename_i hlt
      refine ⟨by omega, fun q hq => ?_, fun q hq => ?_⟩
      · by_cases e2 : q = k + 1
        · subst e2; exact Int.le_refl _
        · have := h2 q (by omega); omega
      · have := h2 q hq; omega
    · rename_i hlt
      refine ⟨by omega, fun q hq => ?_, h3⟩
      by_cases e2 : q = k + 1
      · subst e2; omega
      · exact h2 q (by omega)
theorem chp_lt {o : List Int} (h : 0 < o.length) : chpF o o.length < o.length := (chp_fact o o.length (by omega)).1
def g_cheapS : List AV -> Prop × AV
  | [.agg [.ints o, .rows d]] => (FieldOK o d, .int .i64 (chpF o o.length : Nat))
  | _ => (False, .undef)
theorem g_cheapS_eq (o : List Int) (d : List (List Int)) : g_cheapS [.agg [.ints o, .rows d]] = (FieldOK o d, .int .i64 (chpF o o.length : Nat)) := (rfl)
theorem cheapS_ok (o : List Int) (d : List (List Int)) (hp : FieldOK o d) : SpecOK Tryz.prog 64 [.agg [.ints o, .rows d]] (.int .i64 (chpF o o.length : Nat)) [] := by
  refine fun_ok (C := []) (hint := hintX [] [] 0 [] [] [] []) (TabOK.nil _) mixed Tryz.func64 rfl (by kernel_rfl) rfl ?_
  show codeA _ _ _ _ _ _ _ _
  simp only [go_sem, Tryz.results64]
  have hn := hp.n7
  have h1 := hp.n1
  refine loop_intro (fun a : Nat => [(3, .int .i64 (chpF o a : Nat)), (4, .int .i64 a), (1, .iptr [.ints o, .rows d])]) (fun _ => []) 0 (fun a => 1 <= a /\ a <= o.length) (fun a => o.length - a) 1 ⟨by omega, h1⟩ (by omega) ?_ ?_
  · simp only [go_sem]
    repeat' (first | refine fork_intro (fun hb => ?_) (fun hb => ?_) | refine partB_intro (fun hb => ?_) (fun hb => ?_) | refine And.intro ?_ ?_)
    all_goals first | exact True.intro | omega | with_reducible rfl | exact congrArg (AV.int _) (by omega) | (first | rfl | exact congrArg (AV.int _) (by unfold chpF; split <;> rfl))
  · rintro a ⟨ha1, ha⟩
    obtain ⟨c1, _⟩ := chp_fact o a ha1
    have e : chpF o (a + 1) = if ix o (a : Int) < ix o (chpF o a : Int) then a else chpF o a := rfl
    simp only [go_sem]
    refine fork_intro (fun hc => ?_) (fun hc => ?_)
    · refine ⟨by omega, by omega, fork_intro (fun hd => ?_) (fun hd => ?_)⟩
      · rw [if_pos hd] at e
        repeat' (first | refine fork_intro (fun hb => ?_) (fun hb => ?_) | refine partB_intro (fun hb => ?_) (fun hb => ?_) | refine And.intro ?_ ?_)
        all_goals first | exact True.intro | omega | with_reducible rfl | exact congrArg (AV.int _) (by omega) | (refine LoopEnd.intro (a + 1) (by first | omega | (first | exact ⟨by omega, by omega⟩)) (by first | omega | (dsimp only; omega)) (by omega) ?_; simp only [go_sem]; (repeat' (first | refine fork_intro (fun hb => ?_) (fun hb => ?_) | refine partB_intro (fun hb => ?_) (fun hb => ?_) | refine And.intro ?_ ?_)); all_goals first | exact True.intro | omega | with_reducible rfl | exact congrArg (AV.int _) (by omega) | (first | rfl | rw [e])) | (first | rfl | rw [e])
      · rw [if_neg hd] at e
        repeat' (first | refine fork_intro (fun hb => ?_) (fun hb => ?_) | refine partB_intro (fun hb => ?_) (fun hb => ?_) | refine And.intro ?_ ?_)
        all_goals first | exact True.intro | omega | with_reducible rfl | exact congrArg (AV.int _) (by omega) | (refine LoopEnd.intro (a + 1) (by first | omega | (first | exact ⟨by omega, by omega⟩)) (by first | omega | (dsimp only; omega)) (by omega) ?_; simp only [go_sem]; (repeat' (first | refine fork_intro (fun hb => ?_) (fun hb => ?_) | refine partB_intro (fun hb => ?_) (fun hb => ?_) | refine And.intro ?_ ?_)); all_goals first | exact True.intro | omega | with_reducible rfl | exact congrArg (AV.int _) (by omega) | (first | rfl | rw [e])) | (first | rfl | rw [e])
    · rw [show a = o.length by omega]
def t_cheapS : Table := [(64, pureC g_cheapS)]
theorem t_cheapS_ok : TabOK Tryz.prog t_cheapS := .cons Tryz.func64 (by kernel_rfl) (.pure (by intro args hp; unfold g_cheapS at hp ⊢; split at hp <;> first | exact hp.elim | exact cheapS_ok _ _ hp)) (.nil _)
attribute [go_sem] g_cheapS_eq t_cheapS
def g_ripeS : List AV -> Prop × AV
  | [.agg [.int .i64 now, .ints p, .bools bs, .ints wt, .ints t]] => (t.length <= 7, .ints (ripeL t t.length))
  | _ => (False, .undef)
theorem g_ripeS_eq (now : Int) (p : List Int) (bs : List Bool) (wt t : List Int) : g_ripeS [.agg [.int .i64 now, .ints p, .bools bs, .ints wt, .ints t]] = (t.length <= 7, .ints (ripeL t t.length)) := (rfl)
theorem ripeS_ok (now : Int) (p : List Int) (bs : List Bool) (wt t : List Int) (hp : t.length <= 7) : SpecOK Tryz.prog 65 [.agg [.int .i64 now, .ints p, .bools bs, .ints wt, .ints t]] (.ints (ripeL t t.length)) [] := by
  refine fun_ok (C := t_earlierS ++ t_ownI) (hint := hintX [39] [(4, [.fz [3]])] 0 [] [] [(9, [0, 1, 2, 3, 4, 5, 7, 8, 9, 6, 10, 11])] [(9, [6, 9])]) ((t_earlierS_ok).append t_ownI_ok) mixed Tryz.func65 rfl (by kernel_rfl) rfl ?_
  show codeA _ _ _ _ _ _ _ _
  simp only [go_sem, Tryz.results65]
  refine loop_intro (fun a : Nat => [(4, .int .i64 a), (3, .ints (ripeL t a)), (1, .iptr [.int .i64 now, .ints p, .bools bs, .ints wt, .ints t])]) (fun _ => []) 0 (fun a => a <= t.length) (fun a => t.length - a) 0 (by omega) (by omega) ?_ ?_
  · simp only [go_sem]
    repeat' (first | refine fork_intro (fun hb => ?_) (fun hb => ?_) | refine partB_intro (fun hb => ?_) (fun hb => ?_) | refine And.intro ?_ ?_)
    all_goals first | exact True.intro | omega | with_reducible rfl | exact congrArg (AV.int _) (by omega) | (first | rfl)
  · intro a ha
    have hrl := ripe_len t a
    simp only [go_sem]
    refine fork_intro (fun hc => ?_) (fun hc => ?_)
    · refine ⟨by omega, fork_intro (fun h1 => ?_) (fun h1 => ?_)⟩
      · have e := ripe_f (t := t) (n := a) (by omega)
        repeat' (first | refine fork_intro (fun hb => ?_) (fun hb => ?_) | refine partB_intro (fun hb => ?_) (fun hb => ?_) | refine And.intro ?_ ?_)
        all_goals first | exact True.intro | omega | with_reducible rfl | exact congrArg (AV.int _) (by omega) | (refine LoopEnd.intro (a + 1) (by first | omega) (by first | omega | (dsimp only; omega)) (by omega) ?_; simp only [go_sem]; (repeat' (first | refine fork_intro (fun hb => ?_) (fun hb => ?_) | refine partB_intro (fun hb => ?_) (fun hb => ?_) | refine And.intro ?_ ?_)); all_goals first | exact True.intro | omega | with_reducible rfl | exact congrArg (AV.int _) (by omega) | (first | rfl | rw [e])) | (first | rfl | rw [e])
      · have e := ripe_t (t := t) (n := a) (by omega)
        have hsrt : Srt (ix t) (ripeL t a) := srt_insF (ix t) (tghtL t a)
        have hmem := fun {k : Nat} (hk : k < (ripeL t a).length) => ripe_mem.1 (ix_mem (ripeL t a) hk)
        have hat := fun {k : Nat} hk h1 h2 => insL_at (x := (a : Int)) (k := k) hsrt hk h1 h2
        rw [<- ltT_eq, <- e] at hat
        refine loop_intro (fun k : Nat => [(5, .int .i64 k), (4, .int .i64 a), (3, .ints (ripeL t a)), (1, .iptr [.int .i64 now, .ints p, .bools bs, .ints wt, .ints t])]) (fun _ => []) 0 (fun k => k <= (ripeL t a).length /\ ∀ q : Nat, q < k -> ix t (ix (ripeL t a) (q : Int)) <= ix t (a : Int)) (fun k => (ripeL t a).length - k) 0 ⟨Nat.zero_le _, fun q hq => by omega⟩ (by omega) ?_ ?_
        · simp only [go_sem]
          repeat' (first | refine fork_intro (fun hb => ?_) (fun hb => ?_) | refine partB_intro (fun hb => ?_) (fun hb => ?_) | refine And.intro ?_ ?_)
          all_goals first | exact True.intro | omega | with_reducible rfl | exact congrArg (AV.int _) (by omega) | (first | rfl)
        · rintro k ⟨hk, hle⟩
          have f1 := cutL_pre (ripeL t a) k
          have f2 := cutL_suf (ripeL t a) k
          have hl1 : ((ripeL t a).take k).length = k := by simp; omega
          have hl2 : ((ripeL t a).drop k).length = (ripeL t a).length - k := by simp
          simp only [go_sem]
          simp only [f1, f2, hl1, hl2]
          refine fork_intro (fun hd => ?_) (fun hd => ?_)
          · obtain ⟨m, m1, m2, m3⟩ := hmem (k := k) (by omega)
            refine ⟨by omega, by omega, fork_intro (fun he => ?_) (fun he => ?_)⟩
            · have e2 : (ripeL t a).take k ++ [(a : Int)] ++ (ripeL t a).drop k = ripeL t (a + 1) := by
                rw [hat hk hle (fun _ => by rcases he with h | h <;> omega), List.append_assoc]; rfl
              repeat' (first | refine fork_intro (fun hb => ?_) (fun hb => ?_) | refine partB_intro (fun hb => ?_) (fun hb => ?_) | refine And.intro ?_ ?_)
              all_goals first | exact True.intro | omega | with_reducible rfl | exact congrArg (AV.int _) (by omega) | (refine LoopEnd.intro (a + 1) (by first | omega) (by first | omega | (dsimp only; omega)) (by omega) ?_; simp only [go_sem]; (repeat' (first | refine fork_intro (fun hb => ?_) (fun hb => ?_) | refine partB_intro (fun hb => ?_) (fun hb => ?_) | refine And.intro ?_ ?_)); all_goals first | exact True.intro | omega | with_reducible rfl | exact congrArg (AV.int _) (by omega) | (first | rfl | rw [e2])) | (first | rfl | rw [e2])
            · have hz : ∀ q : Nat, q < k + 1 -> ix t (ix (ripeL t a) (q : Int)) <= ix t (a : Int) := fun q hq => by
                by_cases e3 : q = k
                · subst e3; omega
                · exact hle q (by omega)
              repeat' (first | refine fork_intro (fun hb => ?_) (fun hb => ?_) | refine partB_intro (fun hb => ?_) (fun hb => ?_) | refine And.intro ?_ ?_)
              all_goals first | exact True.intro | omega | with_reducible rfl | exact congrArg (AV.int _) (by omega) | (refine LoopEnd.intro (k + 1) (by first | omega | (first | exact ⟨by omega, hz⟩)) (by first | omega | (dsimp only; omega)) (by omega) ?_; simp only [go_sem]; (repeat' (first | refine fork_intro (fun hb => ?_) (fun hb => ?_) | refine partB_intro (fun hb => ?_) (fun hb => ?_) | refine And.intro ?_ ?_)); all_goals first | exact True.intro | omega | with_reducible rfl | exact congrArg (AV.int _) (by omega) | (first | rfl)) | (first | rfl)
          · have e2 : (ripeL t a).take k ++ [(a : Int)] ++ (ripeL t a).drop k = ripeL t (a + 1) := by
              rw [hat hk hle (fun h => by omega), List.append_assoc]; rfl
            repeat' (first | refine fork_intro (fun hb => ?_) (fun hb => ?_) | refine partB_intro (fun hb => ?_) (fun hb => ?_) | refine And.intro ?_ ?_)
            all_goals first | exact True.intro | omega | with_reducible rfl | exact congrArg (AV.int _) (by omega) | (refine LoopEnd.intro (a + 1) (by first | omega) (by first | omega | (dsimp only; omega)) (by omega) ?_; simp only [go_sem]; (repeat' (first | refine fork_intro (fun hb => ?_) (fun hb => ?_) | refine partB_intro (fun hb => ?_) (fun hb => ?_) | refine And.intro ?_ ?_)); all_goals first | exact True.intro | omega | with_reducible rfl | exact congrArg (AV.int _) (by omega) | (first | rfl | rw [e2])) | (first | rfl | rw [e2])
    · rw [show a = t.length by omega]
def t_ripeS : Table := [(65, pureC g_ripeS)]
theorem t_ripeS_ok : TabOK Tryz.prog t_ripeS := .cons Tryz.func65 (by kernel_rfl) (.pure (by intro args hp; unfold g_ripeS at hp ⊢; split at hp <;> first | exact hp.elim | exact ripeS_ok _ _ _ _ _ hp)) (.nil _)
attribute [go_sem] g_ripeS_eq t_ripeS
theorem any_perm {l m : List Int} (h : l.Perm m) (f : Int -> Bool) : l.any f = m.any f := by
  rw [Bool.eq_iff_iff, List.any_eq_true, List.any_eq_true]
  exact ⟨fun ⟨x, h1, h2⟩ => ⟨x, h.mem_iff.1 h1, h2⟩, fun ⟨x, h1, h2⟩ => ⟨x, h.mem_iff.2 h1, h2⟩⟩
theorem any_take {l : List Int} {f : Int -> Bool} {k : Nat} (h : k < l.length) : (l.take (k + 1)).any f = ((l.take k).any f || f (ix l (k : Int))) := by
  rw [take_ix l h, List.any_append]; simp
theorem put_keep {c : Int -> Int -> Bool} {R : List Int} (hR : R.Nodup) {i : Nat} (hi : i < R.length) (h : (keepL c R i).any (fun y => c (ix R (i : Int)) y) = false) : putF (insF ltI (keepL c R i)) (ix R (i : Int)) = insF ltI (keepL c R (i + 1)) := by
  have e : keepL c R (i + 1) = keepL c R i ++ [ix R (i : Int)] := by
    show (if _ then _ else _) = _
    rw [if_neg (by rw [h]; decide)]
  have hu := up_insF (keepL_nodup c hR (i := i) (by omega))
  refine up_ext (up_putF hu) (up_insF (keepL_nodup c hR (i := i + 1) (by omega))) (fun a => ?_)
  rw [mem_putF, mem_insF, mem_insF, e, List.mem_append, List.mem_singleton]
  exact Or.comm
theorem keep_same {c : Int -> Int -> Bool} {R : List Int} {i : Nat} (h : (keepL c R i).any (fun y => c (ix R (i : Int)) y) = true) : keepL c R (i + 1) = keepL c R i := by
  show (if _ then _ else _) = _
  rw [if_pos h]
def g_growthSetS : List AV -> Prop × AV
  | [.agg [.ints o, .rows d]] => (o.length <= 1048576000 /\ d.length <= 1048576000 /\ ∀ x ∈ d, x.length <= 1048576000, .tup [.ints (bif good o d then gsetL o d else []), .bool (good o d)])
  | _ => (False, .undef)
theorem g_growthSetS_eq (o : List Int) (d : List (List Int)) : g_growthSetS [.agg [.ints o, .rows d]] = (o.length <= 1048576000 /\ d.length <= 1048576000 /\ ∀ x ∈ d, x.length <= 1048576000, .tup [.ints (bif good o d then gsetL o d else []), .bool (good o d)]) := (rfl)
theorem growthSetS_ok (o : List Int) (d : List (List Int)) (hp : o.length <= 1048576000 /\ d.length <= 1048576000 /\ ∀ x ∈ d, x.length <= 1048576000) : SpecOK Tryz.prog 17 [.agg [.ints o, .rows d]] (.tup [.ints (bif good o d then gsetL o d else []), .bool (good o d)]) [] := by
  refine fun_ok (C := t_l2Good ++ t_cheapS ++ t_growS ++ t_ripeS ++ t_conflictS ++ t_putS) (hint := hintX [4] [] 0 [] [] [] []) ((((((t_l2Good_ok).append t_cheapS_ok).append t_growS_ok).append t_ripeS_ok).append t_conflictS_ok).append t_putS_ok) mixed Tryz.func17 rfl (by kernel_rfl) rfl ?_
  show codeA _ _ _ _ _ _ _ _
  simp only [go_sem, Tryz.results17]
  refine ⟨hp, partB_intro (fun hg => ?_) (fun hg => ?_)⟩
  · rw [hg]
    have hf := good_iff.1 hg
    have hn := hf.n7
    obtain ⟨l1, l2, l3⟩ := grown_lens o d
    have hR := ripe_len (grown o d).t o.length
    have hRn := ripe_nodup (grown o d).t o.length
    have hRm := fun {x : Int} => ripe_mem (t := (grown o d).t) (n := o.length) (x := x)
    refine fork_intro (fun h0 => ?_) (fun h0 => ?_)
    · have e : gsetL o d = [(chpF o o.length : Int)] := by unfold gsetL; rw [if_pos (by omega)]
      rw [e]
      repeat' (first | refine fork_intro (fun hb => ?_) (fun hb => ?_) | refine partB_intro (fun hb => ?_) (fun hb => ?_) | refine And.intro ?_ ?_)
      all_goals first | exact True.intro | omega | with_reducible rfl | exact congrArg (AV.int _) (by omega) | (first | exact hf | rfl)
    · have e : gsetL o d = insF ltI (keepL (cnfX d (grown o d).p) (ripeL (grown o d).t o.length) (ripeL (grown o d).t o.length).length) := by unfold gsetL; rw [if_neg (by omega)]
      rw [e, l2]
      generalize hRR : ripeL (grown o d).t o.length = R at *
      have hRb := fun {x : Int} (hx : x ∈ R) => hRm.1 hx
      have hcB := fun {x y : Int} (hx : x ∈ R) (hy : y ∈ R) => (show cnfB d (grown o d).p (grown o d).t x y = cnfX d (grown o d).p x y from by
        obtain ⟨k, k1, k2, rfl⟩ := hRb hx
        obtain ⟨m, m1, m2, rfl⟩ := hRb hy
        unfold cnfB
        rw [decide_eq_true k2, decide_eq_true m2]; rfl)
      refine ⟨hf, by omega, ?_⟩
      generalize hcc : cnfX d (grown o d).p = c at *
      refine loop_intro (fun i : Nat => [(7, .int .i64 i), (6, .ints (insF ltI (keepL c R i))), (5, .ints R), (4, .bx 0 0), (1, .iptr [.ints o, .rows d])]) (fun i => [(0, .box [.int .i64 (grown o d).now, .ints (grown o d).p, .bools (stB (grown o d).w), .ints (stW (grown o d).w), .ints (grown o d).t])]) 1 (fun i => i <= R.length) (fun i => R.length - i) 0 (by omega) (by omega) ?_ ?_
      · simp only [go_sem]
        repeat' (first | refine fork_intro (fun hb => ?_) (fun hb => ?_) | refine partB_intro (fun hb => ?_) (fun hb => ?_) | refine And.intro ?_ ?_)
        all_goals first | exact True.intro | omega | with_reducible rfl | exact congrArg (AV.int _) (by omega) | (first | rfl)
      · intro i hi
        have hOl : (insF ltI (keepL c R i)).length <= i := by rw [insF_len]; exact keepL_len c R i
        have hOm : ∀ y ∈ insF ltI (keepL c R i), y ∈ R := fun y hy => by
          obtain ⟨q, q1, q2⟩ := keepL_sub c hi y (mem_insF.1 hy)
          rw [q2]; exact ix_mem R (by omega)
        simp only [go_sem]
        refine fork_intro (fun h1 => ?_) (fun h1 => ?_)
        · have hiR : i < R.length := by omega
          have hxR := ix_mem R hiR
          obtain ⟨x0, x1, x2, x3⟩ := hRb hxR
          have hany := any_perm (insF_perm ltI (keepL c R i)) (fun y => c (ix R (i : Int)) y)
          have hput := fun h => put_keep hRn hiR (c := c) h
          have hsame := fun h => keep_same (c := c) (R := R) (i := i) h
          generalize hOO : insF ltI (keepL c R i) = O at *
          refine loop_intro (fun k : Nat => [(9, .int .i64 k), (8, .bool (!(O.take k).any (fun y => c (ix R (i : Int)) y))), (7, .int .i64 i), (6, .ints O), (5, .ints R), (4, .bx 0 0), (1, .iptr [.ints o, .rows d])]) (fun i => [(0, .box [.int .i64 (grown o d).now, .ints (grown o d).p, .bools (stB (grown o d).w), .ints (stW (grown o d).w), .ints (grown o d).t])]) 1 (fun k => k <= O.length) (fun k => O.length - k) 0 (by omega) (by omega) ?_ ?_
          · simp only [go_sem]
            repeat' (first | refine fork_intro (fun hb => ?_) (fun hb => ?_) | refine partB_intro (fun hb => ?_) (fun hb => ?_) | refine And.intro ?_ ?_)
            all_goals first | exact True.intro | omega | with_reducible rfl | exact congrArg (AV.int _) (by omega) | (first | rfl)
          · intro k hk
            simp only [go_sem]
            refine fork_intro (fun h2 => ?_) (fun h2 => ?_)
            · have hkO : k < O.length := by omega
              have hyR := hOm _ (ix_mem O hkO)
              obtain ⟨y0, y1, y2, y3⟩ := hRb hyR
              have ht := any_take (f := fun y => c (ix R (i : Int)) y) hkO
              have hB := hcB hxR hyR
              refine partB_intro (fun hh => ?_) (fun hh => ?_)
              · rw [hh, Bool.true_or] at ht
                repeat' (first | refine fork_intro (fun hb => ?_) (fun hb => ?_) | refine partB_intro (fun hb => ?_) (fun hb => ?_) | refine And.intro ?_ ?_)
                all_goals first | exact True.intro | omega | with_reducible rfl | exact congrArg (AV.int _) (by omega) | (refine LoopEnd.intro (k + 1) (by first | omega) (by first | omega | (dsimp only; omega)) (by omega) ?_; simp only [go_sem]; (repeat' (first | refine fork_intro (fun hb => ?_) (fun hb => ?_) | refine partB_intro (fun hb => ?_) (fun hb => ?_) | refine And.intro ?_ ?_)); all_goals first | exact True.intro | omega | with_reducible rfl | exact congrArg (AV.int _) (by omega) | (first | rfl | (rw [ht]; rfl))) | (first | rfl | (rw [ht]; rfl))
              · rw [hh, Bool.false_or] at ht
                refine ⟨by omega, by omega, ⟨⟨hf, l1, l2⟩, by omega, by omega⟩, ?_⟩
                repeat' (first | refine fork_intro (fun hb => ?_) (fun hb => ?_) | refine partB_intro (fun hb => ?_) (fun hb => ?_) | refine And.intro ?_ ?_)
                all_goals first | exact True.intro | omega | with_reducible rfl | exact congrArg (AV.int _) (by omega) | (refine LoopEnd.intro (k + 1) (by first | omega) (by first | omega | (dsimp only; omega)) (by omega) ?_; simp only [go_sem]; (repeat' (first | refine fork_intro (fun hb => ?_) (fun hb => ?_) | refine partB_intro (fun hb => ?_) (fun hb => ?_) | refine And.intro ?_ ?_)); all_goals first | exact True.intro | omega | with_reducible rfl | exact congrArg (AV.int _) (by omega) | (first | rfl | (rw [ht, hB]))) | (first | rfl | (rw [ht, hB]))
            · rw [show k = O.length by omega, List.take_length, hany]
              refine partB_intro (fun hh => ?_) (fun hh => ?_)
              · have e2 : O = insF ltI (keepL c R (i + 1)) := by rw [hsame hh, hOO]
                repeat' (first | refine fork_intro (fun hb => ?_) (fun hb => ?_) | refine partB_intro (fun hb => ?_) (fun hb => ?_) | refine And.intro ?_ ?_)
                all_goals first | exact True.intro | omega | with_reducible rfl | exact congrArg (AV.int _) (by omega) | (refine LoopEnd.intro (i + 1) (by first | omega) (by first | omega | (dsimp only; omega)) (by omega) ?_; simp only [go_sem]; (repeat' (first | refine fork_intro (fun hb => ?_) (fun hb => ?_) | refine partB_intro (fun hb => ?_) (fun hb => ?_) | refine And.intro ?_ ?_)); all_goals first | exact True.intro | omega | with_reducible rfl | exact congrArg (AV.int _) (by omega) | (first | rfl | rw [<- e2])) | (first | rfl | rw [<- e2])
              · have e2 := hput hh
                repeat' (first | refine fork_intro (fun hb => ?_) (fun hb => ?_) | refine partB_intro (fun hb => ?_) (fun hb => ?_) | refine And.intro ?_ ?_)
                all_goals first | exact True.intro | omega | with_reducible rfl | exact congrArg (AV.int _) (by omega) | (refine LoopEnd.intro (i + 1) (by first | omega) (by first | omega | (dsimp only; omega)) (by omega) ?_; simp only [go_sem]; (repeat' (first | refine fork_intro (fun hb => ?_) (fun hb => ?_) | refine partB_intro (fun hb => ?_) (fun hb => ?_) | refine And.intro ?_ ?_)); all_goals first | exact True.intro | omega | with_reducible rfl | exact congrArg (AV.int _) (by omega) | (first | rfl | rw [e2])) | (first | rfl | rw [e2])
        · rw [show i = R.length by omega]
          repeat' (first | refine fork_intro (fun hb => ?_) (fun hb => ?_) | refine partB_intro (fun hb => ?_) (fun hb => ?_) | refine And.intro ?_ ?_)
          all_goals first | exact True.intro | omega | with_reducible rfl | exact congrArg (AV.int _) (by omega) | (first | rfl)
  · rw [hg]
    repeat' (first | refine fork_intro (fun hb => ?_) (fun hb => ?_) | refine partB_intro (fun hb => ?_) (fun hb => ?_) | refine And.intro ?_ ?_)
    all_goals first | exact True.intro | omega | with_reducible rfl | exact congrArg (AV.int _) (by omega) | (first | rfl)
def t_growthSetS : Table := [(17, pureC g_growthSetS)]
theorem t_growthSetS_ok : TabOK Tryz.prog t_growthSetS := .cons Tryz.func17 (by kernel_rfl) (.pure (by intro args hp; unfold g_growthSetS at hp ⊢; split at hp <;> first | exact hp.elim | exact growthSetS_ok _ _ hp)) (.nil _)
attribute [go_sem] g_growthSetS_eq t_growthSetS
end Go.Proofs.YteefjdbdknkcjaaGreat
namespace Go.Proofs.YteefjdbdknkcjaaGreat
open Go.Vc
set_option maxRecDepth 100000
set_option maxHeartbeats 1600000
set_option linter.unusedSimpArgs false
set_option linter.unusedVariables false

theorem idxG_at {p : Int -> Bool} : ∀ {xs : List Int} {s : Int} {k : Nat}, k < xs.length -> p (ix xs (k : Int)) = true -> (∀ q : Nat, q < k -> p (ix xs (q : Int)) = false) -> idxG p xs s = s + k
  | [], s, k, h, _, _ => by simp at h
  | x :: r, s, 0, h, h1, _ => by
    have e : ix (x :: r) ((0 : Nat) : Int) = x := rfl
    rw [e] at h1
    unfold idxG
    rw [if_pos h1]; simp
  | x :: r, s, k + 1, h, h1, h2 => by
    have e : ix (x :: r) ((0 : Nat) : Int) = x := rfl
    have h0 := h2 0 (by omega)
    rw [e] at h0
    have es : ∀ q : Nat, q < r.length -> ix (x :: r) ((q + 1 : Nat) : Int) = ix r (q : Int) := fun q hq => by
      have a1 := ix_some (x :: r) (k := q + 1) (by simp; omega)
      have a2 := ix_some r hq
      rw [List.getElem?_cons_succ, a2] at a1
      exact (Option.some.inj a1).symm
    have hk : k < r.length := by simpa using h
    unfold idxG
    rw [if_neg (by rw [h0]; decide), idxG_at (xs := r) (s := s + 1) (k := k) hk (by rw [<- es k hk]; exact h1) (fun q hq => by rw [<- es q (by omega)]; exact h2 (q + 1) (by omega))]
    omega
theorem idx_chp {o : List Int} (h : 0 < o.length) : idxG (fun x => decide (x = minL o)) o 0 = (chpF o o.length : Nat) := by
  obtain ⟨h1, h2, h3⟩ := chp_fact o o.length (by omega)
  have hm := minL_mem h
  have e : minL o = ix o (chpF o o.length : Int) := by
    have g1 := (minL_ge h (minL o)).1 (Int.le_refl _) _ (ix_mem o h1)
    have g2 := (minL_ge h (ix o (chpF o o.length : Int))).2 (fun x hx => by
      obtain ⟨q, hq⟩ := List.mem_iff_getElem?.1 hx
      have hlt := (List.getElem?_eq_some_iff.1 hq).1
      rw [ix_some o hlt] at hq
      cases hq
      exact h2 q hlt)
    omega
  rw [idxG_at h1 (decide_eq_true e.symm) (fun q hq => decide_eq_false (by have := h3 q hq; omega))]
  omega
theorem gset_len {o : List Int} {d : List (List Int)} (hf : FieldOK o d) : (gsetL o d).length <= 7 := by
  have hn := hf.n7
  have hR := ripe_len (grown o d).t o.length
  unfold gsetL
  split
  · simp
  · rw [insF_len]
    have := keepL_len (cnfX d (grown o d).p) (ripeL (grown o d).t o.length) (ripeL (grown o d).t o.length).length
    omega
def g_cheapI : List AV -> Prop × AV
  | [.agg [.ints o, .rows d]] => (FieldOK o d, .int .i64 (chpF o o.length : Nat))
  | _ => (False, .undef)
theorem g_cheapI_eq (o : List Int) (d : List (List Int)) : g_cheapI [.agg [.ints o, .rows d]] = (FieldOK o d, .int .i64 (chpF o o.length : Nat)) := (rfl)
theorem cheapI_ok (o : List Int) (d : List (List Int)) (hp : FieldOK o d) : SpecOK Tryz.prog 57 [.agg [.ints o, .rows d]] (.int .i64 (chpF o o.length : Nat)) [] := by
  refine fun_ok (C := t_minI ++ t_indexI) (hint := hintX [] [] 0 [] [] [] []) ((t_minI_ok).append t_indexI_ok) mixed Tryz.func57 rfl (by kernel_rfl) rfl ?_
  show codeA _ _ _ _ _ _ _ _
  simp only [go_sem, Tryz.results57]
  have hn := hp.n7
  have h1 := hp.n1
  have e := idx_chp (o := o) (by omega)
  rw [<- e]
  repeat' (first | refine fork_intro (fun hb => ?_) (fun hb => ?_) | refine partB_intro (fun hb => ?_) (fun hb => ?_) | refine And.intro ?_ ?_)
  all_goals first | exact True.intro | omega | with_reducible rfl | exact congrArg (AV.int _) (by omega) | (first | rfl)
def t_cheapI : Table := [(57, pureC g_cheapI)]
theorem t_cheapI_ok : TabOK Tryz.prog t_cheapI := .cons Tryz.func57 (by kernel_rfl) (.pure (by intro args hp; unfold g_cheapI at hp ⊢; split at hp <;> first | exact hp.elim | exact cheapI_ok _ _ hp)) (.nil _)
attribute [go_sem] g_cheapI_eq t_cheapI
def g_notC : List AV -> Prop × AV
  | [.int .i64 b, .iptr [.ints o, .rows d], .iptr [.ints p, .ints t, .ints w], .iptr [.int .i64 a]] => ((FieldOK o d /\ p.length = d.length) /\ (0 <= a /\ a < o.length) /\ 0 <= b /\ b < o.length, .bool (cnfX d p a b))
  | _ => (False, .undef)
theorem g_notC_eq (b : Int) (o : List Int) (d : List (List Int)) (p t w : List Int) (a : Int) : g_notC [.int .i64 b, .iptr [.ints o, .rows d], .iptr [.ints p, .ints t, .ints w], .iptr [.int .i64 a]] = ((FieldOK o d /\ p.length = d.length) /\ (0 <= a /\ a < o.length) /\ 0 <= b /\ b < o.length, .bool (cnfX d p a b)) := (rfl)
theorem notC_ok (b : Int) (o : List Int) (d : List (List Int)) (p t w : List Int) (a : Int) (hp : (FieldOK o d /\ p.length = d.length) /\ (0 <= a /\ a < o.length) /\ 0 <= b /\ b < o.length) : SpecOK Tryz.prog 62 [.int .i64 b, .iptr [.ints o, .rows d], .iptr [.ints p, .ints t, .ints w], .iptr [.int .i64 a]] (.bool (cnfX d p a b)) [] := by
  refine fun_ok (C := t_conflictI) (hint := hintX [] [] 0 [] [] [] []) (t_conflictI_ok) mixed Tryz.func62 rfl (by kernel_rfl) rfl ?_
  show codeA _ _ _ _ _ _ _ _
  simp only [go_sem, Tryz.results62]
  first | exact hp | exact ⟨hp, rfl⟩
def t_notC : Table := [(62, pureC g_notC)]
theorem t_notC_ok : TabOK Tryz.prog t_notC := .cons Tryz.func62 (by kernel_rfl) (.pure (by intro args hp; unfold g_notC at hp ⊢; split at hp <;> first | exact hp.elim | exact notC_ok _ _ _ _ _ _ _ hp)) (.nil _)
attribute [go_sem] g_notC_eq t_notC
def g_idxCf : List AV -> Prop × AV
  | [.ints xs, .fn 62 [.iptr [.ints o, .rows d], .iptr [.ints p, .ints t, .ints w], .iptr [.int .i64 a]]] => ((FieldOK o d /\ p.length = d.length) /\ (0 <= a /\ a < o.length) /\ xs.length <= 1000 /\ ∀ y ∈ xs, 0 <= y /\ y < o.length, .int .i64 (idxG (fun y => cnfX d p a y) xs 0))
  | _ => (False, .undef)
theorem g_idxCf_eq (xs : List Int) (o : List Int) (d : List (List Int)) (p t w : List Int) (a : Int) : g_idxCf [.ints xs, .fn 62 [.iptr [.ints o, .rows d], .iptr [.ints p, .ints t, .ints w], .iptr [.int .i64 a]]] = ((FieldOK o d /\ p.length = d.length) /\ (0 <= a /\ a < o.length) /\ xs.length <= 1000 /\ ∀ y ∈ xs, 0 <= y /\ y < o.length, .int .i64 (idxG (fun y => cnfX d p a y) xs 0)) := (rfl)
theorem idxCf_ok (xs : List Int) (o : List Int) (d : List (List Int)) (p t w : List Int) (a : Int) (hp : (FieldOK o d /\ p.length = d.length) /\ (0 <= a /\ a < o.length) /\ xs.length <= 1000 /\ ∀ y ∈ xs, 0 <= y /\ y < o.length) : SpecOK Tryz.prog 125 [.ints xs, .fn 62 [.iptr [.ints o, .rows d], .iptr [.ints p, .ints t, .ints w], .iptr [.int .i64 a]]] (.int .i64 (idxG (fun y => cnfX d p a y) xs 0)) [] := by
  refine fun_ok (C := t_notC) (hint := hintX [] [] 0 [] [] [] []) (t_notC_ok) mixed Tryz.func125 rfl (by kernel_rfl) rfl ?_
  show codeA _ _ _ _ _ _ _ _
  simp only [go_sem, Tryz.results125]
  obtain ⟨hf, ha, hx, hr⟩ := hp
  refine loop_intro (fun k : Nat => [(8, .int .i64 k), (7, .int .i64 xs.length), (0, .ints xs), (1, .fn 62 [.iptr [.ints o, .rows d], .iptr [.ints p, .ints t, .ints w], .iptr [.int .i64 a]])]) (fun _ => []) 0 (fun k => k <= xs.length /\ idxG (fun y => cnfX d p a y) (xs.drop k) k = idxG (fun y => cnfX d p a y) xs 0) (fun k => xs.length - k) 0 ⟨Nat.zero_le _, rfl⟩ (Nat.zero_le _) ?_ ?_
  · simp only [go_sem]
    repeat' (first | refine fork_intro (fun hb => ?_) (fun hb => ?_) | refine partB_intro (fun hb => ?_) (fun hb => ?_) | refine And.intro ?_ ?_)
    all_goals first | exact True.intro | omega | with_reducible rfl | exact congrArg (AV.int _) (by omega) | (first | rfl)
  · rintro k ⟨hk, ht⟩
    simp only [go_sem]
    refine fork_intro (fun hb => ?_) (fun hb => ?_)
    · have hmem := hr _ (ix_mem xs (show k < xs.length by omega))
      rw [drop_ix xs (show k < xs.length by omega), idxG] at ht
      refine ⟨by omega, ⟨hf, ha, hmem⟩, partB_intro (fun hc => ?_) (fun hc => ?_)⟩
      · rw [if_pos hc] at ht
        rw [<- ht]
      · rw [if_neg (by simp [hc])] at ht
        repeat' (first | refine fork_intro (fun hb => ?_) (fun hb => ?_) | refine partB_intro (fun hb => ?_) (fun hb => ?_) | refine And.intro ?_ ?_)
        all_goals first | exact True.intro | omega | with_reducible rfl | exact congrArg (AV.int _) (by omega) | (refine LoopEnd.intro (k + 1) (by first | omega | (first | exact ⟨by omega, ht⟩)) (by first | omega | (dsimp only; omega)) (by omega) ?_; simp only [go_sem]; (repeat' (first | refine fork_intro (fun hb => ?_) (fun hb => ?_) | refine partB_intro (fun hb => ?_) (fun hb => ?_) | refine And.intro ?_ ?_)); all_goals first | exact True.intro | omega | with_reducible rfl | exact congrArg (AV.int _) (by omega) | (first | rfl)) | (first | rfl)
    · rw [show k = xs.length by omega, List.drop_length] at ht
      rw [<- ht]; rfl
def t_idxCf : Table := [(125, pureC g_idxCf)]
theorem t_idxCf_ok : TabOK Tryz.prog t_idxCf := .cons Tryz.func125 (by kernel_rfl) (.pure (by intro args hp; unfold g_idxCf at hp ⊢; split at hp <;> first | exact hp.elim | exact idxCf_ok _ _ _ _ _ _ _ hp)) (.nil _)
attribute [go_sem] g_idxCf_eq t_idxCf
def g_ctnCf : List AV -> Prop × AV
  | [.ints xs, .fn 62 [.iptr [.ints o, .rows d], .iptr [.ints p, .ints t, .ints w], .iptr [.int .i64 a]]] => ((FieldOK o d /\ p.length = d.length) /\ (0 <= a /\ a < o.length) /\ xs.length <= 1000 /\ ∀ y ∈ xs, 0 <= y /\ y < o.length, .bool (xs.any fun y => cnfX d p a y))
  | _ => (False, .undef)
theorem g_ctnCf_eq (xs : List Int) (o : List Int) (d : List (List Int)) (p t w : List Int) (a : Int) : g_ctnCf [.ints xs, .fn 62 [.iptr [.ints o, .rows d], .iptr [.ints p, .ints t, .ints w], .iptr [.int .i64 a]]] = ((FieldOK o d /\ p.length = d.length) /\ (0 <= a /\ a < o.length) /\ xs.length <= 1000 /\ ∀ y ∈ xs, 0 <= y /\ y < o.length, .bool (xs.any fun y => cnfX d p a y)) := (rfl)
theorem ctnCf_ok (xs : List Int) (o : List Int) (d : List (List Int)) (p t w : List Int) (a : Int) (hp : (FieldOK o d /\ p.length = d.length) /\ (0 <= a /\ a < o.length) /\ xs.length <= 1000 /\ ∀ y ∈ xs, 0 <= y /\ y < o.length) : SpecOK Tryz.prog 61 [.ints xs, .fn 62 [.iptr [.ints o, .rows d], .iptr [.ints p, .ints t, .ints w], .iptr [.int .i64 a]]] (.bool (xs.any fun y => cnfX d p a y)) [] := by
  refine fun_ok (C := t_idxCf) (hint := hintX [] [] 0 [] [] [] []) (t_idxCf_ok) mixed Tryz.func61 rfl (by kernel_rfl) rfl ?_
  show codeA _ _ _ _ _ _ _ _
  simp only [go_sem, Tryz.results61]
  refine ⟨hp, ?_⟩
  rw [<- idxG_any _ xs 0 (by omega)]
def t_ctnCf : Table := [(61, pureC g_ctnCf)]
theorem t_ctnCf_ok : TabOK Tryz.prog t_ctnCf := .cons Tryz.func61 (by kernel_rfl) (.pure (by intro args hp; unfold g_ctnCf at hp ⊢; split at hp <;> first | exact hp.elim | exact ctnCf_ok _ _ _ _ _ _ _ hp)) (.nil _)
attribute [go_sem] g_ctnCf_eq t_ctnCf
def g_growthSetI : List AV -> Prop × AV × Heap
  | [.agg [.ints o, .rows d]] => (o.length <= 1048576000 /\ d.length <= 1048576000 /\ ∀ x ∈ d, x.length <= 1048576000, .tup [.sl 0, .bool (good o d)], [(0, .arr (.ints (bif good o d then gsetL o d else [])))])
  | _ => (False, .undef, [])
theorem g_growthSetI_eq (o : List Int) (d : List (List Int)) : g_growthSetI [.agg [.ints o, .rows d]] = (o.length <= 1048576000 /\ d.length <= 1048576000 /\ ∀ x ∈ d, x.length <= 1048576000, .tup [.sl 0, .bool (good o d)], [(0, .arr (.ints (bif good o d then gsetL o d else [])))]) := (rfl)
theorem growthSetI_ok (o : List Int) (d : List (List Int)) (hp : o.length <= 1048576000 /\ d.length <= 1048576000 /\ ∀ x ∈ d, x.length <= 1048576000) : SpecOK Tryz.prog 16 [.agg [.ints o, .rows d]] (.tup [.sl 0, .bool (good o d)]) [(0, .arr (.ints (bif good o d then gsetL o d else [])))] := by
  refine fun_ok (C := t_isF ++ t_cheapI ++ t_growI ++ t_stabI ++ t_ctnCf ++ t_sortI) (hint := hintX [20, 22, 23, 4, 42, 10] [(2, [.post, .up 2 (.arr (.ints []))]), (12, [.drop [1, 2, 3] 6, .frb 4]), (13, [.fz [5]]), (17, [.frb 10]), (19, [.post, .drop [] 7]), (21, [.post, .ren 2 0])] 0 [58, 63] [] [] []) ((((((t_isF_ok).append t_cheapI_ok).append t_growI_ok).append t_stabI_ok).append t_ctnCf_ok).append t_sortI_ok) mixed Tryz.func16 rfl (by kernel_rfl) rfl ?_
  show codeA _ _ _ _ _ _ _ _
  simp only [go_sem, Tryz.results16]
  refine ⟨hp, partB_intro (fun hg => ?_) (fun hg => ?_)⟩
  · rw [hg]
    have hf := good_iff.1 hg
    have hn := hf.n7
    obtain ⟨l1, l2, l3⟩ := grown_lens o d
    refine fork_intro (fun h0 => ?_) (fun h0 => ?_)
    · have e : gsetL o d = [(chpF o o.length : Int)] := by unfold gsetL; rw [if_pos (by omega)]
      rw [e]
      repeat' (first | refine fork_intro (fun hb => ?_) (fun hb => ?_) | refine partB_intro (fun hb => ?_) (fun hb => ?_) | refine And.intro ?_ ?_)
      all_goals first | exact True.intro | omega | with_reducible rfl | exact congrArg (AV.int _) (by omega) | (first | exact hf | rfl)
    · have e : gsetL o d = insF ltI (keepL (cnfX d (grown o d).p) (ripeL (grown o d).t o.length) (ripeL (grown o d).t o.length).length) := by unfold gsetL; rw [if_neg (by omega)]
      rw [e]
      refine ⟨hf, ?_⟩
      have ht1 := fun {a : Nat} (h : 0 <= ix (grown o d).t (a : Int)) => sel_t (p := fun a : Nat => decide (0 <= ix (grown o d).t (a : Int))) (n := a) (decide_eq_true h)
      have ht2 := fun {a : Nat} (h : ¬ 0 <= ix (grown o d).t (a : Int)) => sel_f (p := fun a : Nat => decide (0 <= ix (grown o d).t (a : Int))) (n := a) (decide_eq_false h)
      refine loop_intro (fun a : Nat => [(27, .int .i64 a), (26, .int .i64 (grown o d).t.length), (25, .sl 2), (4, .bx 5 0), (5, .sl 4), (1, .iptr [.ints o, .rows d])]) (fun a => [(1, .arr (.ints (grown o d).p)), (2, .arr (.ints (grown o d).t)), (3, .arr (.ints (grown o d).w)), (4, .arr (.ints (tghtL (grown o d).t a))), (5, .box [.sl 1, .sl 2, .sl 3])]) 6 (fun a => a <= (grown o d).t.length) (fun a => (grown o d).t.length - a) 0 (by omega) (by omega) ?_ ?_
      · simp only [go_sem]
        repeat' (first | refine fork_intro (fun hb => ?_) (fun hb => ?_) | refine partB_intro (fun hb => ?_) (fun hb => ?_) | refine And.intro ?_ ?_)
        all_goals first | exact True.intro | omega | with_reducible rfl | exact congrArg (AV.int _) (by omega) | (first | rfl)
      · intro a ha
        have hsl := sel_len (fun a : Nat => decide (0 <= ix (grown o d).t (a : Int))) a
        have hsl' : (tghtL (grown o d).t a).length <= a := hsl
        have ht1 := ht1 (a := a)
        have ht2 := ht2 (a := a)
        simp only [go_sem]
        refine fork_intro (fun h1 => ?_) (fun h1 => ?_)
        · refine ⟨by omega, fork_intro (fun h2 => ?_) (fun h2 => ?_)⟩
          · have e2 : tghtL (grown o d).t (a + 1) = tghtL (grown o d).t a ++ [(a : Int)] := ht1 h2
            repeat' (first | refine fork_intro (fun hb => ?_) (fun hb => ?_) | refine partB_intro (fun hb => ?_) (fun hb => ?_) | refine And.intro ?_ ?_)
            all_goals first | exact True.intro | omega | with_reducible rfl | exact congrArg (AV.int _) (by omega) | (refine LoopEnd.intro (a + 1) (by first | omega) (by first | omega | (dsimp only; omega)) (by omega) ?_; simp only [go_sem]; (repeat' (first | refine fork_intro (fun hb => ?_) (fun hb => ?_) | refine partB_intro (fun hb => ?_) (fun hb => ?_) | refine And.intro ?_ ?_)); all_goals first | exact True.intro | omega | with_reducible rfl | exact congrArg (AV.int _) (by omega) | (first | rfl | rw [e2])) | (first | rfl | rw [e2])
          · have e2 : tghtL (grown o d).t (a + 1) = tghtL (grown o d).t a := ht2 h2
            repeat' (first | refine fork_intro (fun hb => ?_) (fun hb => ?_) | refine partB_intro (fun hb => ?_) (fun hb => ?_) | refine And.intro ?_ ?_)
            all_goals first | exact True.intro | omega | with_reducible rfl | exact congrArg (AV.int _) (by omega) | (refine LoopEnd.intro (a + 1) (by first | omega) (by first | omega | (dsimp only; omega)) (by omega) ?_; simp only [go_sem]; (repeat' (first | refine fork_intro (fun hb => ?_) (fun hb => ?_) | refine partB_intro (fun hb => ?_) (fun hb => ?_) | refine And.intro ?_ ?_)); all_goals first | exact True.intro | omega | with_reducible rfl | exact congrArg (AV.int _) (by omega) | (first | rfl | rw [e2])) | (first | rfl | rw [e2])
        · have ea : a = o.length := by omega
          subst ea
          have hR := ripe_len (grown o d).t o.length
          have hRn := ripe_nodup (grown o d).t o.length
          have hRm := fun {x : Int} => ripe_mem (t := (grown o d).t) (n := o.length) (x := x)
          have eR : insF (ltT (grown o d).t) (tghtL (grown o d).t o.length) = ripeL (grown o d).t o.length := rfl
          rw [eR]
          have hmt : ∀ x ∈ tghtL (grown o d).t o.length, 0 <= x /\ x < (grown o d).t.length := fun x hx => by
            obtain ⟨k, k1, k2, rfl⟩ := mem_sel.1 hx
            omega
          generalize hRR : ripeL (grown o d).t o.length = R at *
          have hRb := fun {x : Int} (hx : x ∈ R) => hRm.1 hx
          refine ⟨⟨by omega, by omega, hmt⟩, ?_⟩
          generalize hcc : cnfX d (grown o d).p = c at *
          refine loop_intro (fun i : Nat => [(45, .int .i64 i), (44, .int .i64 R.length), (43, .ints R), (8, .sl 6), (4, .iptr [.ints (grown o d).p, .ints (grown o d).t, .ints (grown o d).w]), (1, .iptr [.ints o, .rows d])]) (fun i => [(6, .arr (.ints (keepL c R i)))]) 7 (fun i => i <= R.length) (fun i => R.length - i) 0 (by omega) (by omega) ?_ ?_
          · simp only [go_sem]
            repeat' (first | refine fork_intro (fun hb => ?_) (fun hb => ?_) | refine partB_intro (fun hb => ?_) (fun hb => ?_) | refine And.intro ?_ ?_)
            all_goals first | exact True.intro | omega | with_reducible rfl | exact congrArg (AV.int _) (by omega) | (first | rfl)
          · intro i hi
            have hKl := keepL_len c R i
            simp only [go_sem]
            refine fork_intro (fun h3 => ?_) (fun h3 => ?_)
            · have hiR : i < R.length := by omega
              obtain ⟨x0, x1, x2, x3⟩ := hRb (ix_mem R hiR)
              have hKm : ∀ y ∈ keepL c R i, 0 <= y /\ y < o.length := fun y hy => by
                obtain ⟨q, q1, q2⟩ := keepL_sub c hi y hy
                obtain ⟨m, m1, m2, m3⟩ := hRb (ix_mem R (show q < R.length by omega))
                rw [q2]; omega
              have hsame := fun h => keep_same (c := c) (R := R) (i := i) h
              have hadd := fun (h : (keepL c R i).any (fun y => c (ix R (i : Int)) y) = false) => (show keepL c R (i + 1) = keepL c R i ++ [ix R (i : Int)] from by
                show (if _ then _ else _) = _
                rw [if_neg (by rw [h]; decide)])
              refine ⟨by omega, ⟨⟨hf, l1⟩, ⟨by omega, by omega⟩, by omega, hKm⟩, partB_intro (fun hh => ?_) (fun hh => ?_)⟩
              · simp only [hcc] at hh
                have e2 := hsame hh
                repeat' (first | refine fork_intro (fun hb => ?_) (fun hb => ?_) | refine partB_intro (fun hb => ?_) (fun hb => ?_) | refine And.intro ?_ ?_)
                all_goals first | exact True.intro | omega | with_reducible rfl | exact congrArg (AV.int _) (by omega) | (refine LoopEnd.intro (i + 1) (by first | omega) (by first | omega | (dsimp only; omega)) (by omega) ?_; simp only [go_sem]; (repeat' (first | refine fork_intro (fun hb => ?_) (fun hb => ?_) | refine partB_intro (fun hb => ?_) (fun hb => ?_) | refine And.intro ?_ ?_)); all_goals first | exact True.intro | omega | with_reducible rfl | exact congrArg (AV.int _) (by omega) | (first | rfl | rw [e2])) | (first | rfl | rw [e2])
              · simp only [hcc] at hh
                have e2 := hadd hh
                repeat' (first | refine fork_intro (fun hb => ?_) (fun hb => ?_) | refine partB_intro (fun hb => ?_) (fun hb => ?_) | refine And.intro ?_ ?_)
                all_goals first | exact True.intro | omega | with_reducible rfl | exact congrArg (AV.int _) (by omega) | (refine LoopEnd.intro (i + 1) (by first | omega) (by first | omega | (dsimp only; omega)) (by omega) ?_; simp only [go_sem]; (repeat' (first | refine fork_intro (fun hb => ?_) (fun hb => ?_) | refine partB_intro (fun hb => ?_) (fun hb => ?_) | refine And.intro ?_ ?_)); all_goals first | exact True.intro | omega | with_reducible rfl | exact congrArg (AV.int _) (by omega) | (first | rfl | rw [e2])) | (first | rfl | rw [e2])
            · rw [show i = R.length by omega]
              have hKl := keepL_len c R R.length
              repeat' (first | refine fork_intro (fun hb => ?_) (fun hb => ?_) | refine partB_intro (fun hb => ?_) (fun hb => ?_) | refine And.intro ?_ ?_)
              all_goals first | exact True.intro | omega | with_reducible rfl | exact congrArg (AV.int _) (by omega) | (first | rfl)
  · rw [hg]
    repeat' (first | refine fork_intro (fun hb => ?_) (fun hb => ?_) | refine partB_intro (fun hb => ?_) (fun hb => ?_) | refine And.intro ?_ ?_)
    all_goals first | exact True.intro | omega | with_reducible rfl | exact congrArg (AV.int _) (by omega) | (first | rfl)
def t_growthSetI : Table := [(16, ownC g_growthSetI)]
theorem t_growthSetI_ok : TabOK Tryz.prog t_growthSetI := .cons Tryz.func16 (by kernel_rfl) (.own (by intro args hp; unfold g_growthSetI at hp ⊢; split at hp <;> first | exact hp.elim | exact ⟨growthSetI_ok _ _ hp, rfl⟩)) (.nil _)
attribute [go_sem] g_growthSetI_eq t_growthSetI
end Go.Proofs.YteefjdbdknkcjaaGreat
namespace Go.Proofs.YteefjdbdknkcjaaGreat
open Go.Vc
set_option maxRecDepth 100000
set_option linter.unusedSimpArgs false
set_option linter.unusedVariables false

def allK (n : Nat) (c : Nat) : List (List Int) := tab c fun c => bagL (c + 1)
def allL (n : Nat) : List (List Int) := allK n (2 ^ n - 1)
def setsL (n : Nat) : List (List Int) := sortS (allL n)
theorem pow_7 : ∀ n : Nat, n <= 7 -> 1 <= 2 ^ n /\ 2 ^ n <= 128 /\ ((1 : Int) * 2 ^ n) = ((2 ^ n : Nat) : Int) := by decide
theorem pow_ge2 : ∀ n : Nat, 1 <= n -> 2 <= 2 ^ n := fun n h => by have := Nat.pow_le_pow_right (n := 2) (by omega) h; omega
theorem bag_pos : ∀ b : Nat, b < 128 -> 0 < b -> 0 < (bagL b).length := by decide +kernel
theorem bagL_inj {a b : Nat} (ha : a < 128) (hb : b < 128) (h : bagL a = bagL b) : a = b := by
  refine Nat.eq_of_testBit_eq (fun i => ?_)
  have e : ∀ c : Nat, c < 128 -> (c.testBit i = true ↔ (i : Int) ∈ bagL c) := fun c hc => by
    rw [mem_bagL (n := 7) hc (by omega)]; simp
  have h1 := e a ha
  have h2 := e b hb
  rw [h] at h1
  cases x : a.testBit i <;> cases y : b.testBit i <;> simp_all
theorem allL_len (n : Nat) : (allL n).length = 2 ^ n - 1 := tab_len _ _
theorem allL_nodup {n : Nat} (h : n <= 7) : (allL n).Nodup := by
  have hp := pow_7 n h
  unfold allL allK tab
  rw [List.nodup_iff_pairwise_ne, List.pairwise_map]
  refine List.Pairwise.imp_of_mem (fun {a b} hma hmb hab e => ?_) List.pairwise_lt_range
  have ha := List.mem_range.1 hma
  have hb := List.mem_range.1 hmb
  have := bagL_inj (a := a + 1) (b := b + 1) (by omega) (by omega) e
  omega
theorem allL_mem {n : Nat} (h : n <= 7) {set : List Int} (hm : set ∈ allL n) : 0 < set.length /\ set.length <= 64 /\ ∀ x ∈ set, 0 <= x /\ x < n := by
  have hp := pow_7 n h
  obtain ⟨c, hc, rfl⟩ := mem_tab.1 hm
  refine ⟨bag_pos _ (by omega) (by omega), sel_len _ _, fun x hx => ?_⟩
  obtain ⟨h0, h1⟩ := (mem_bagL (n := 7) (by omega) (by omega)).1 hx
  have := bit_lt (b := c + 1) (n := n) (by omega) h1
  omega
theorem setsL_mem {n : Nat} (h : n <= 7) {set : List Int} (hm : set ∈ setsL n) : 0 < set.length /\ set.length <= 64 /\ ∀ x ∈ set, 0 <= x /\ x < n :=
  allL_mem h ((sortS_perm (allL n)).mem_iff.1 hm)
theorem setsL_len (n : Nat) : (setsL n).length = 2 ^ n - 1 := by
  unfold setsL
  rw [(sortS_perm (allL n)).length_eq, allL_len]
theorem setsL_open {o : List Int} {d : List (List Int)} (hf : FieldOK o d) {set : List Int} (hm : set ∈ setsL o.length) : OpenOK o d set := by
  obtain ⟨h1, h2, h3⟩ := setsL_mem hf.n7 hm
  exact ⟨hf, h1, by omega, fun k hk => h3 _ (ix_mem set hk)⟩

end Go.Proofs.YteefjdbdknkcjaaGreat
namespace Go.Proofs.YteefjdbdknkcjaaGreat
open Go.Vc
set_option maxRecDepth 100000
set_option linter.unusedSimpArgs false
set_option linter.unusedVariables false

def bestT (v : List Int -> Int) (xss : List (List Int)) : Nat -> List Int
  | 0 => ix xss 0
  | k + 1 => if v (ix xss (k : Int)) < v (bestT v xss k) then ix xss (k : Int) else bestT v xss k
def bestL (o : List Int) (d : List (List Int)) : List Int := bestT (total o d) (setsL o.length) (setsL o.length).length
theorem bestT_mem (v : List Int -> Int) {xss : List (List Int)} (h : 0 < xss.length) : ∀ k, k <= xss.length -> bestT v xss k ∈ xss := by
  intro k
  induction k with
  | zero => intro _; exact ix_mem (k := 0) xss h
  | succ k ih =>
    intro hk
    unfold bestT
    split
    · exact ix_mem xss (by omega)
    · exact ih (by omega)
theorem bestL_open {o : List Int} {d : List (List Int)} (hf : FieldOK o d) : OpenOK o d (bestL o d) := by
  have h1 := setsL_len o.length
  have h2 := pow_ge2 o.length hf.n1
  exact setsL_open hf (bestT_mem _ (by omega) _ (Nat.le_refl _))

end Go.Proofs.YteefjdbdknkcjaaGreat
namespace Go.Proofs.YteefjdbdknkcjaaGreat
open Go.Vc Go.RowKit Go.Sort
set_option maxRecDepth 100000
set_option linter.unusedSimpArgs false
set_option linter.unusedVariables false

def orL : List Int -> Int
  | [] => 0
  | x :: r => if x ≠ 0 then x else orL r
def g_nanC : List AV -> Prop × AV
  | [.int .i64 x] => (True, .bool false)
  | _ => (False, .undef)
theorem g_nanC_eq (x : Int) : g_nanC [.int .i64 x] = (True, .bool false) := (rfl)
theorem nanC_ok (x : Int) (hp : True) : SpecOK Tryz.prog 124 [.int .i64 x] (.bool false) [] := by
  refine fun_ok (C := []) (hint := hintX [] [] 0 [] [] [] []) (TabOK.nil _) mixed Tryz.func124 rfl (by kernel_rfl) rfl ?_
  show codeA _ _ _ _ _ _ _ _
  simp only [go_sem, Tryz.results124]
  try rfl
def t_nanC : Table := [(124, pureC g_nanC)]
theorem t_nanC_ok : TabOK Tryz.prog t_nanC := .cons Tryz.func124 (by kernel_rfl) (.pure (by intro args hp; unfold g_nanC at hp ⊢; split at hp <;> first | exact hp.elim | exact nanC_ok _ hp)) (.nil _)
attribute [go_sem] g_nanC_eq t_nanC
def g_cmpC : List AV -> Prop × AV
  | [.int .i64 x, .int .i64 y] => (True, .int .i64 (cmpZ x y))
  | _ => (False, .undef)
theorem g_cmpC_eq (x y : Int) : g_cmpC [.int .i64 x, .int .i64 y] = (True, .int .i64 (cmpZ x y)) := (rfl)
theorem cmpC_ok (x y : Int) (hp : True) : SpecOK Tryz.prog 60 [.int .i64 x, .int .i64 y] (.int .i64 (cmpZ x y)) [] := by
  refine fun_ok (C := t_nanC) (hint := hintX [] [] 0 [] [] [] []) (t_nanC_ok) mixed Tryz.func60 rfl (by kernel_rfl) rfl ?_
  show codeA _ _ _ _ _ _ _ _
  simp only [go_sem, Tryz.results60]
  refine fork_intro (fun h => ?_) (fun h => ?_)
  · rw [cmpZ, if_pos h]
  · refine fork_intro (fun k => ?_) (fun k => ?_)
    · rw [cmpZ, if_neg h, if_pos k]
    · rw [cmpZ, if_neg h, if_neg k]
def t_cmpC : Table := [(60, pureC g_cmpC)]
theorem t_cmpC_ok : TabOK Tryz.prog t_cmpC := .cons Tryz.func60 (by kernel_rfl) (.pure (by intro args hp; unfold g_cmpC at hp ⊢; split at hp <;> first | exact hp.elim | exact cmpC_ok _ _ hp)) (.nil _)
attribute [go_sem] g_cmpC_eq t_cmpC
def g_orC : List AV -> Prop × AV
  | [.ints xs] => (xs.length <= 1000, .int .i64 (orL xs))
  | _ => (False, .undef)
theorem g_orC_eq (xs : List Int) : g_orC [.ints xs] = (xs.length <= 1000, .int .i64 (orL xs)) := (rfl)
theorem orC_ok (xs : List Int) (hp : xs.length <= 1000) : SpecOK Tryz.prog 171 [.ints xs] (.int .i64 (orL xs)) [] := by
  refine fun_ok (C := []) (hint := hintX [] [] 0 [] [] [] []) (TabOK.nil _) mixed Tryz.func171 rfl (by kernel_rfl) rfl ?_
  show codeA _ _ _ _ _ _ _ _
  simp only [go_sem, Tryz.results171]
  refine loop_intro (fun k : Nat => [(8, .int .i64 k), (7, .int .i64 xs.length), (6, .ints xs), (3, .int .i64 0)]) (fun _ => []) 0 (fun k => k <= xs.length /\ orL (xs.drop k) = orL xs) (fun k => xs.length - k) 0 ⟨Nat.zero_le _, rfl⟩ (Nat.zero_le _) ?_ ?_
  · simp only [go_sem]
    repeat' (first | refine fork_intro (fun hb => ?_) (fun hb => ?_) | refine partB_intro (fun hb => ?_) (fun hb => ?_) | refine And.intro ?_ ?_)
    all_goals first | exact True.intro | omega | with_reducible rfl | exact congrArg (AV.int _) (by omega) | (first | rfl)
  · rintro k ⟨hk, ht⟩
    simp only [go_sem]
    refine fork_intro (fun hc => ?_) (fun hc => ?_)
    · rw [drop_ix xs (show k < xs.length by omega), orL] at ht
      refine ⟨by omega, fork_intro (fun hd => ?_) (fun hd => ?_)⟩
      · rw [if_neg (by omega)] at ht
        repeat' (first | refine fork_intro (fun hb => ?_) (fun hb => ?_) | refine partB_intro (fun hb => ?_) (fun hb => ?_) | refine And.intro ?_ ?_)
        all_goals first | exact True.intro | omega | with_reducible rfl | exact congrArg (AV.int _) (by omega) | (refine LoopEnd.intro (k + 1) (by first | omega | (first | exact ⟨by omega, ht⟩)) (by first | omega | (dsimp only; omega)) (by omega) ?_; simp only [go_sem]; (repeat' (first | refine fork_intro (fun hb => ?_) (fun hb => ?_) | refine partB_intro (fun hb => ?_) (fun hb => ?_) | refine And.intro ?_ ?_)); all_goals first | exact True.intro | omega | with_reducible rfl | exact congrArg (AV.int _) (by omega) | (first | rfl)) | (first | rfl)
      · rw [if_pos hd] at ht
        rw [<- ht]
    · rw [show k = xs.length by omega, List.drop_length] at ht
      rw [<- ht]; rfl
def t_orC : Table := [(171, pureC g_orC)]
theorem t_orC_ok : TabOK Tryz.prog t_orC := .cons Tryz.func171 (by kernel_rfl) (.pure (by intro args hp; unfold g_orC at hp ⊢; split at hp <;> first | exact hp.elim | exact orC_ok _ hp)) (.nil _)
attribute [go_sem] g_orC_eq t_orC
def g_cmpLC : List AV -> Prop × AV
  | [.ints xs, .ints ys] => (xs.length <= 1048576000 /\ ys.length <= 1048576000, .int .i64 (cmpL xs ys))
  | _ => (False, .undef)
theorem g_cmpLC_eq (xs ys : List Int) : g_cmpLC [.ints xs, .ints ys] = (xs.length <= 1048576000 /\ ys.length <= 1048576000, .int .i64 (cmpL xs ys)) := (rfl)
theorem cmpLC_ok (xs ys : List Int) (hp : xs.length <= 1048576000 /\ ys.length <= 1048576000) : SpecOK Tryz.prog 172 [.ints xs, .ints ys] (.int .i64 (cmpL xs ys)) [] := by
  refine fun_ok (C := t_cmpC) (hint := hintX [] [] 0 [] [] [] []) (t_cmpC_ok) mixed Tryz.func172 rfl (by kernel_rfl) rfl ?_
  show codeA _ _ _ _ _ _ _ _
  simp only [go_sem, Tryz.results172]
  refine loop_intro (fun k : Nat => [(11, .int .i64 k), (10, .int .i64 xs.length), (9, .ints xs), (0, .ints xs), (1, .ints ys)]) (fun _ => []) 0 (fun k => k <= xs.length /\ k <= ys.length /\ cmpL (xs.drop k) (ys.drop k) = cmpL xs ys) (fun k => xs.length - k) 0 ⟨Nat.zero_le _, Nat.zero_le _, rfl⟩ (Nat.zero_le _) ?_ ?_
  · simp only [go_sem]
    repeat' (first | refine fork_intro (fun hb => ?_) (fun hb => ?_) | refine partB_intro (fun hb => ?_) (fun hb => ?_) | refine And.intro ?_ ?_)
    all_goals first | exact True.intro | omega | with_reducible rfl | exact congrArg (AV.int _) (by omega) | (first | rfl)
  · rintro k ⟨hk, hy, ht⟩
    simp only [go_sem]
    refine fork_intro (fun hc => ?_) (fun hc => ?_)
    · rw [drop_ix xs (show k < xs.length by omega)] at ht
      refine ⟨by omega, fork_intro (fun hd => ?_) (fun hd => ?_)⟩
      · rw [show k = ys.length by omega, List.drop_length, cmpL] at ht
        rw [<- ht]
      · rw [drop_ix ys (show k < ys.length by omega), cmpL] at ht
        refine ⟨by omega, fork_intro (fun he => ?_) (fun he => ?_)⟩
        · rw [if_neg (by omega)] at ht
          repeat' (first | refine fork_intro (fun hb => ?_) (fun hb => ?_) | refine partB_intro (fun hb => ?_) (fun hb => ?_) | refine And.intro ?_ ?_)
          all_goals first | exact True.intro | omega | with_reducible rfl | exact congrArg (AV.int _) (by omega) | (refine LoopEnd.intro (k + 1) (by first | omega | (first | exact ⟨by omega, by omega, ht⟩)) (by first | omega | (dsimp only; omega)) (by omega) ?_; simp only [go_sem]; (repeat' (first | refine fork_intro (fun hb => ?_) (fun hb => ?_) | refine partB_intro (fun hb => ?_) (fun hb => ?_) | refine And.intro ?_ ?_)); all_goals first | exact True.intro | omega | with_reducible rfl | exact congrArg (AV.int _) (by omega) | (first | rfl)) | (first | rfl)
        · rw [if_pos he] at ht
          rw [<- ht]
    · rw [show k = xs.length by omega, List.drop_length] at ht
      refine fork_intro (fun hd => ?_) (fun hd => ?_)
      · rw [drop_ix ys (show xs.length < ys.length by omega), cmpL] at ht
        rw [<- ht]
      · rw [show xs.length = ys.length by omega, List.drop_length, cmpL] at ht
        rw [<- ht]
def t_cmpLC : Table := [(172, pureC g_cmpLC)]
theorem t_cmpLC_ok : TabOK Tryz.prog t_cmpLC := .cons Tryz.func172 (by kernel_rfl) (.pure (by intro args hp; unfold g_cmpLC at hp ⊢; split at hp <;> first | exact hp.elim | exact cmpLC_ok _ _ hp)) (.nil _)
attribute [go_sem] g_cmpLC_eq t_cmpLC
def g_cmpSC : List AV -> Prop × AV
  | [.ints xs, .ints ys] => (xs.length <= 1048576000 /\ ys.length <= 1048576000, .int .i64 (cmpS xs ys))
  | _ => (False, .undef)
theorem cmpSC_ok (xs ys : List Int) (hp : xs.length <= 1048576000 /\ ys.length <= 1048576000) : SpecOK Tryz.prog 137 [.ints xs, .ints ys] (.int .i64 (cmpS xs ys)) [] := by
  refine fun_ok (C := t_cmpC ++ t_cmpLC ++ t_orC) (hint := hintX [] [] 0 [] [] [] []) (((t_cmpC_ok).append t_cmpLC_ok).append t_orC_ok) mixed Tryz.func137 rfl (by kernel_rfl) rfl ?_
  show codeA _ _ _ _ _ _ _ _
  simp only [go_sem, Tryz.results137]
  refine ⟨hp, ?_⟩
  congr 1
  unfold cmpS
  simp only [orL]
  split
  · rfl
  · split <;> omega
def t_cmpSC : Table := [(137, pureC g_cmpSC)]
attribute [go_sem] t_cmpSC
theorem kept_is_grow {W w' : World} (h : Kept (W.heap.size <= ·) W w') : ∃ q os, w' = Sort.grow (W.drewN q) os := by
  refine ⟨w'.drawn - W.drawn, w'.heap.extract W.heap.size w'.heap.size, ?_⟩
  have hd := h.drawn trivial
  have hh : w'.heap = W.heap ++ w'.heap.extract W.heap.size w'.heap.size := by
    apply Array.ext_getElem?
    intro k
    have hs := h.size
    by_cases hk : k < W.heap.size
    · rw [Array.getElem?_append_left hk]; exact h.block k hk (by omega)
    · rw [Array.getElem?_append_right (by omega), Array.getElem?_extract]
      by_cases hk2 : k < w'.heap.size
      · rw [if_pos (by omega)]; congr 1; omega
      · rw [if_neg (by omega), Array.getElem?_eq_none (by omega)]
  obtain ⟨h1, h2, h3, h4, h5⟩ := w'
  unfold Sort.grow World.drewN
  have e1 := h.os; have e2 := h.tape; have e3 := h.output
  simp only at hd hh e1 e2 e3 ⊢
  subst e1; subst e2; subst e3
  congr 1
  omega
theorem mapBlock_row {w : World} {b : Nat} {c : Array Value} {el : TypeId} {fr : Nat × Nat} (f : Array Value -> Array Value) (h : w.heap[b]? = some (.cells c el fr)) : Sort.mapBlock w b f = w.setRow b (f c) := by
  unfold Sort.mapBlock World.setRow
  congr 1
  apply Array.ext_getElem?
  intro k
  simp only [Array.getElem?_modify]
  by_cases hk : b = k
  · subst hk
    simp only [if_true, h, Option.map_some, Sort.onCells]
  · simp [hk]
theorem fin_map {α : Type} [Inhabited α] (xs : List α) : (List.finRange xs.length).map (fun i => ix xs (i.val : Int)) = xs := by
  apply List.ext_getElem
  · simp
  · intro i h1 h2
    have e := ix_some xs h2
    rw [List.getElem?_eq_getElem h2] at e
    simp [<- Option.some.inj e]
theorem sort_map {α : Type} (f : α -> List Int) (l : List α) : (l.mergeSort fun i j => leS (f i) (f j)).map f = (l.map f).mergeSort leS := List.map_mergeSort (fun _ _ _ _ => rfl)
theorem sort_fin (xss : List (List Int)) : ((List.finRange xss.length).mergeSort fun i j => leS (ix xss (i.val : Int)) (ix xss (j.val : Int))).map (fun i => ix xss (i.val : Int)) = sortS xss := by
  have h := sort_map (fun i : Fin xss.length => ix xss (i.val : Int)) (List.finRange xss.length)
  rw [fin_map] at h
  exact h
theorem look1 (k k' : Blk) (r : Nat) (h : Heap.look [(0, k)] r = some k') : r = 0 /\ k' = k := by
  unfold Heap.look at h
  split at h
  · rename_i e; cases h; exact ⟨e.symm, rfl⟩
  · cases h
def g_sortC : List AV -> Heap -> Prop × AV × Heap
  | [.sl 0, .fn 137 []], [(0, .arr (.rows xss))] => (0 < xss.length /\ xss.length <= 1000 /\ xss.Nodup /\ ∀ x ∈ xss, x.length <= 1048576000, .tup [], [(0, .arr (.rows (sortS xss)))])
  | _, _ => (False, .undef, [])
theorem g_sortC_eq (xss : List (List Int)) : g_sortC [.sl 0, .fn 137 []] [(0, .arr (.rows xss))] = (0 < xss.length /\ xss.length <= 1000 /\ xss.Nodup /\ ∀ x ∈ xss, x.length <= 1048576000, .tup [], [(0, .arr (.rows (sortS xss)))]) := (rfl)
theorem sortC_ok (xss : List (List Int)) (hp : 0 < xss.length /\ xss.length <= 1000 /\ xss.Nodup /\ ∀ x ∈ xss, x.length <= 1048576000) : SpecM Tryz.prog 136 [.sl 0, .fn 137 []] [(0, .arr (.rows xss))] 1 (.tup []) [(0, .arr (.rows (sortS xss)))] := by
  obtain ⟨hn0, hn1, hnd, hlen⟩ := hp
  have hsl : (sortS xss).length = xss.length := (sortS_perm xss).length_eq
  refine ⟨fun r k k' h1 h2 => ?_, ?_⟩
  · obtain ⟨rfl, rfl⟩ := look1 _ _ _ h1
    obtain ⟨_, rfl⟩ := look1 _ _ _ h2
    exact .arr _ _ (xss.map .ints) ((sortS xss).map .ints) 1 rfl rfl (by simp [hsl])
  intro own S ρ w cargs hown hrel hsz hargs
  obtain ⟨v0, v1, rfl⟩ : ∃ v0 v1, cargs = #[v0, v1] := by
    obtain ⟨l⟩ := cargs
    match l, hsz with
    | [a, b], _ => exact ⟨a, b, rfl⟩
  have hv0 := hargs 0 _ v0 rfl rfl
  have hv1 := hargs 1 _ v1 rfl rfl
  have hlook : Heap.look [(0, Blk.arr (AV.rows xss))] 0 = some (.arr (.rows xss)) := rfl
  obtain ⟨rfl⟩ : v1 = .func (.func 137) #[] #[] := by
    cases hv1 with
    | pure _ _ h => cases h with
      | fn f cs vs hl h => have : vs = #[] := Array.eq_empty_of_size_eq_zero hl; rw [this]
      | lst _ _ _ _ _ he => simp [AV.elems] at he
    | fn f cs vs hl h => have : vs = #[] := Array.eq_empty_of_size_eq_zero hl; rw [this]
  have hb := hrel.blk 0 _ hlook
  obtain ⟨ys, m, c, he, hc, hcs, hcap, hcm, harr⟩ := hb
  simp only [AV.elems, Option.some.injEq, Prod.mk.injEq] at he
  obtain ⟨rfl, rfl⟩ := he
  rw [List.length_map] at hcap
  have hcap0 : ρ.cap 0 ≠ 0 := by omega
  obtain ⟨el, hcell⟩ := hc hcap0
  have hfoot : foot ρ (Heap.look [(0, Blk.arr (AV.rows xss))]) 0 0 := foot_arr hlook hcap0
  obtain ⟨hownb, hSb⟩ := hrel.owned 0 0 hfoot
  have hv : v0 = .slice (some ⟨ρ.blk 0 0, 0, none⟩) xss.length (ρ.cap 0) := by
    cases hv0 with
    | pure _ _ h => cases h with
      | lst _ _ _ _ _ he => simp [AV.elems] at he
    | sl r v xs m a hr he ha =>
      rw [hlook] at hr; cases hr
      simp only [AV.elems, Option.some.injEq, Prod.mk.injEq] at he
      obtain ⟨rfl, rfl⟩ := he
      rw [ha hcap0, List.length_map]
  subst hv
  generalize hB : ρ.blk 0 0 = B at *
  have hBlt : B < w.heap.size := (Array.getElem?_eq_some_iff.1 hcell).1
  have hcsz : xss.length <= c.size := by rw [hcs]; omega
  haveI : Inhabited (Fin xss.length) := ⟨⟨0, hn0⟩⟩
  let enc : Fin xss.length -> Value := fun i => (c[i.val]?).getD (.slice none 0 0)
  have hsee : ∀ i : Fin xss.length, c[i.val]? = some (enc i) /\ Sees S (.ints (ix xss (i.val : Int))) (enc i) := fun i => by
    have e1 : (xss.map AV.ints)[i.val]? = some (.ints (ix xss (i.val : Int))) := by rw [List.getElem?_map, ix_some xss i.isLt]; rfl
    obtain ⟨cv, h1, h2⟩ := harr i.val _ 0 _ e1 rfl
    rw [Nat.mul_one, Nat.add_zero] at h1
    have : enc i = cv := by show (c[i.val]?).getD _ = cv; rw [h1]; rfl
    rw [this]; exact ⟨h1, h2⟩
  have hone : OneCell enc := fun i => by
    have h := (hsee i).2
    generalize enc i = u at h
    cases h with
    | lst => rfl
  let cf : Fin xss.length -> Fin xss.length -> Int := fun i j => cmpS (ix xss (i.val : Int)) (ix xss (j.val : Int))
  have hinj : ∀ i j : Fin xss.length, ix xss (i.val : Int) = ix xss (j.val : Int) -> i = j := fun i j e => by
    have e1 := ix_some xss i.isLt
    have e2 := ix_some xss j.isLt
    rw [e, <- e2] at e1
    exact Fin.ext ((List.getElem?_inj i.isLt hnd).1 e1)
  have hswo : SWO (ltOf cf) := by
    refine ⟨fun x => ?_, fun x y z h k => ?_, fun x y z h k => ?_⟩
    · unfold ltOf; exact decide_eq_false (by show ¬ cmpS _ _ < 0; rw [cmpS_self]; omega)
    · unfold ltOf at *
      exact decide_eq_true (cmpS_trans (of_decide_eq_true h) (of_decide_eq_true k))
    · unfold ltOf at *
      have h := of_decide_eq_false h
      have k := of_decide_eq_false k
      refine decide_eq_false (fun hxz => ?_)
      have h1 : leS (ix xss (y.val : Int)) (ix xss (x.val : Int)) = true := by unfold leS; simp only [Bool.not_eq_true', decide_eq_false_iff_not]; exact h
      have h2 : leS (ix xss (z.val : Int)) (ix xss (y.val : Int)) = true := by unfold leS; simp only [Bool.not_eq_true', decide_eq_false_iff_not]; exact k
      have h3 := leS_trans _ _ _ h2 h1
      unfold leS at h3
      simp only [Bool.not_eq_true', decide_eq_false_iff_not] at h3
      exact h3 hxz
  have htot : ∀ x y, (ltOf cf) x y = false -> (ltOf cf) y x = false -> x = y := fun x y h k => by
    unfold ltOf at *
    have h := of_decide_eq_false h
    have k := of_decide_eq_false k
    refine hinj x y (cmpS_zero ?_)
    have h' : ¬ cmpS (ix xss (x.val : Int)) (ix xss (y.val : Int)) < 0 := h
    have k' : ¬ cmpS (ix xss (y.val : Int)) (ix xss (x.val : Int)) < 0 := k
    have := cmpS_anti (ix xss (x.val : Int)) (ix xss (y.val : Int))
    omega
  let d : Array (Fin xss.length) := (List.finRange xss.length).toArray
  have hds : d.size = xss.length := by show (List.finRange xss.length).toArray.size = _; simp
  have hH : Holds enc w B 0 d := fun j hj => by
    have hj' : j < xss.length := by rw [<- hds]; exact hj
    have hdj : d[j]! = ⟨j, hj'⟩ := by
      rw [getElem!_pos d j hj]
      show (List.finRange xss.length).toArray[j] = _
      simp
    refine ⟨?_, OwnCells.frozen ⟨el, hcell⟩ _ _⟩
    rw [hdj, (OwnCells.cellsIn ⟨el, hcell⟩).cell, Nat.zero_add]
    exact (hsee ⟨j, hj'⟩).1
  have hstab : ∀ (mm : Nat) (os : Array Obj) (dk : Array (Fin xss.length)), StoreIn S (sortWorld enc w B 0 mm dk os) := fun mm os dk => by
    refine ⟨hrel.amb, fun b c' hb => ?_⟩
    obtain ⟨el', fr', hb'⟩ := hrel.stab b c' hb
    have hne : B ≠ b := fun e => by rw [e, hb] at hSb; cases hSb
    have hlt : b < w.heap.size := (Array.getElem?_eq_some_iff.1 hb').1
    refine ⟨el', fr', ?_⟩
    show ((Array.modify (Sort.ahead w mm).heap B _) ++ os)[b]? = _
    rw [Array.getElem?_append_left (by rw [Array.size_modify]; exact hlt), Array.getElem?_modify, if_neg hne]
    exact hb'
  have hcmp : CmpLays1 Tryz.prog 137 #[] enc cf B 0 d.size w := by
    intro mm os dk hdk x y
    have hsp := cmpSC_ok (ix xss (x.val : Int)) (ix xss (y.val : Int)) ⟨hlen _ (ix_mem xss x.isLt), hlen _ (ix_mem xss y.isLt)⟩
    refine (hsp S _ (#[enc x, enc y] ++ #[]) (hstab mm os dk) rfl (fun j z v hz hv => ?_)).mono ?_
    · rcases j with _ | _ | j <;> simp at hz hv
      · subst hz; subst hv; exact (hsee x).2
      · subst hz; subst hv; exact (hsee y).2
    · rintro e w' ⟨cv, S', ρ', rfl, _, _, _, hk, hv⟩
      rw [hv.int_inv]
      exact ⟨rfl, kept_is_grow hk⟩
  have heg : ∀ args w, (callFunc 137 args).run Tryz.prog w = .ok (.enter 137 args) w := enters_of Tryz.func137 (by kernel_rfl) rfl
  have hfin := Tryz.slices_SortFunc_total enc hone cf hswo 137 #[] B 0 (ρ.cap 0) d w heg hcmp hH hBlt (by rw [hds]; omega) htot
  rw [hds] at hfin
  refine hfin.mono ?_
  rintro e w' ⟨rfl, q, os, rfl⟩
  let L : List (Fin xss.length) := d.toList.mergeSort fun x y => !(ltOf cf) y x
  have hL : L.map (fun i => ix xss (i.val : Int)) = sortS xss := by
    have h := sort_fin xss
    exact h
  have hLl : L.length = xss.length := by show (List.mergeSort _ _).length = _; rw [List.length_mergeSort]; show (List.finRange xss.length).toArray.toList.length = _; simp
  let c1 : Array Value := Sort.putCells enc 0 L.toArray c
  have hc1s : c1.size = c.size := by show (Array.mapIdx _ c).size = _; simp
  have hc1 : ∀ i : Nat, (hi : i < xss.length) -> c1[i]? = some (enc (L[i]'(by omega))) := fun i hi => by
    show (Array.mapIdx _ c)[i]? = _
    rw [Array.getElem?_mapIdx, Array.getElem?_eq_getElem (by omega), Option.map_some]
    rw [if_pos ⟨Nat.zero_le _, by simp [hLl]; omega⟩, Nat.sub_zero, getElem!_pos L.toArray i (by simp [hLl]; omega)]
    simp
  have hw : sortWorld enc w B 0 q L.toArray os = Sort.grow ({ w.setRow B c1 with drawn := w.drawn + q }) os := by
    show Sort.grow (Sort.mapBlock (Sort.ahead w q) B _) os = _
    rw [mapBlock_row (w := Sort.ahead w q) (c := c) (el := el) (fr := (0, 0)) _ hcell]
    rfl
  rw [show (d.toList.mergeSort fun x y => !(ltOf cf) y x).toArray = L.toArray from rfl, hw]
  have hlook2 : Heap.look [(0, Blk.arr (AV.rows (sortS xss)))] 0 = some (.arr (.rows (sortS xss))) := rfl
  have hB' : ρ.blk 0 0 = B := hB
  have hrel2 : Rel own S ρ (Heap.look [(0, Blk.arr (AV.rows (sortS xss)))]) (w.setRow B c1) := by
    rw [<- hB']
    refine hrel.write (k' := .arr (.rows (sortS xss))) hlook hfoot hlook2 (fun r hr => ?_) (.arr _ _ (xss.map .ints) ((sortS xss).map .ints) 1 rfl rfl (by simp [hsl])) c1 ?_
    · unfold Heap.look; rw [if_neg (Ne.symm hr), if_neg (Ne.symm hr)]
    · refine ⟨(sortS xss).map .ints, 1, c1, rfl, fun _ => ⟨el, ?_⟩, by rw [hc1s]; exact hcs, by rw [List.length_map, hsl]; exact hcap, fun x hx => by obtain ⟨y, _, rfl⟩ := List.mem_map.1 hx; rfl, fun i x j y hx hy => ?_⟩
      · rw [hB']; exact setRow_heap w B c c1 el (0, 0) hcell
      · have hi : i < xss.length := by have := (List.getElem?_eq_some_iff.1 hx).1; rw [List.length_map, hsl] at this; exact this
        have e1 : x = .ints (ix xss ((L[i]'(by omega)).val : Int)) := by
          rw [<- hL, List.map_map, List.getElem?_map, List.getElem?_eq_getElem (by omega)] at hx
          exact (Option.some.inj hx).symm
        subst e1
        rcases j with _ | j
        · simp [AV.cells] at hy
          subst hy
          rw [Nat.mul_one, Nat.add_zero]
          exact ⟨_, hc1 i hi, (hsee _).2⟩
        · simp [AV.cells] at hy
  have hmono : ∀ (b : Nat) o, (w.setRow B c1).heap[b]? = some o -> (Sort.grow ({ w.setRow B c1 with drawn := w.drawn + q }) os).heap[b]? = some o := fun b o h => by
    show ((w.setRow B c1).heap ++ os)[b]? = _
    rw [Array.getElem?_append_left (Array.getElem?_eq_some_iff.1 h).1]; exact h
  refine ⟨_, S, ρ, rfl, hrel2.world hmono, fun _ _ h => h, fun b h1 h2 => absurd h1 h2, ?_, .tup _ _ rfl (fun j x v hx _ => by simp at hx), fun r _ _ => ⟨fun _ => rfl, rfl, fun _ => rfl⟩⟩
  refine ((Kept.refl own w).write hownb c1).trans ⟨rfl, rfl, rfl, by show _ <= ((w.setRow B c1).heap ++ os).size; rw [Array.size_append]; omega, fun b hlt _ => ?_, fun _ => ?_⟩
  · show ((w.setRow B c1).heap ++ os)[b]? = _
    rw [Array.getElem?_append_left hlt]
  · show (w.setRow B c1).drawn <= w.drawn + q
    rw [setRow_drawn]; omega
def t_sortC : Table := [(136, mutC 1 g_sortC)]
theorem t_sortC_ok : TabOK Tryz.prog t_sortC := .cons Tryz.func136 (by kernel_rfl) (.mut (by intro args pre _ hp; unfold g_sortC at hp ⊢; split at hp <;> first | exact hp.elim | exact sortC_ok _ hp)) (.nil _)
attribute [go_sem] g_sortC_eq t_sortC
end Go.Proofs.YteefjdbdknkcjaaGreat
