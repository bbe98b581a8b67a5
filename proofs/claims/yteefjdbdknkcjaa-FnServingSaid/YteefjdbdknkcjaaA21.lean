/- The clients of each site: both packages say the same. -/
import Derived.Test.YteefjdbdknkcjaaA18
namespace Go.Proofs.Yteefjdbdknkcjaa
open Go.Vc
set_option maxRecDepth 100000
set_option linter.unusedSimpArgs false
set_option linter.unusedVariables false

def groupsL (d : List (List Int)) (set : List Int) (i : Nat) : List (List Int) := tab set.length fun k => sel (fun j => decide (srv (ix d (j : Int)) set = ix set (k : Int))) i
theorem idx_spec {a : Int} : ∀ (xs : List Int) (k0 : Int), 0 ≤ k0 → a ∈ xs → ∃ k : Nat, k < xs.length ∧ idxG (fun x => decide (x = a)) xs k0 = k0 + k ∧ ix xs (k : Int) = a
  | [], _, _, h => by cases h
  | x :: r, k0, h0, h => by
    unfold idxG
    by_cases e : x = a
    · exact ⟨0, by simp, by rw [if_pos (decide_eq_true e)]; simp, e⟩
    · rw [if_neg (by simpa using e)]
      rcases List.mem_cons.1 h with h1 | h1
      · exact (e h1.symm).elim
      · obtain ⟨k, g1, g2, g3⟩ := idx_spec r (k0 + 1) (by omega) h1
        exact ⟨k + 1, by simpa using g1, by rw [g2]; omega, by rw [ix_cons_succ]; exact g3⟩
theorem up_inj {xs : List Int} (h : Up xs) {j k : Nat} (hj : j < xs.length) (hk : k < xs.length) (e : ix xs (j : Int) = ix xs (k : Int)) : j = k := by
  have key : ∀ a b : Nat, a < b → b < xs.length → ix xs (a : Int) < ix xs (b : Int) := fun a b hab hb => by
    have h2 := List.pairwise_iff_getElem.1 h a b (by omega) hb hab
    have e1 := ix_some xs (show a < xs.length by omega)
    have e2 := ix_some xs hb
    rw [List.getElem?_eq_getElem (by omega)] at e1
    rw [List.getElem?_eq_getElem hb] at e2
    rw [← Option.some.inj e1, ← Option.some.inj e2]; exact h2
  rcases Nat.lt_trichotomy j k with h1 | h1 | h1
  · have := key j k h1 hk; omega
  · exact h1
  · have := key k j h1 hj; omega
theorem groups_step {d : List (List Int)} {set : List Int} (hu : Up set) {i k : Nat} (hk : k < set.length) (e : ix set (k : Int) = srv (ix d (i : Int)) set) :
    (groupsL d set i).set k (ix (groupsL d set i) (k : Int) ++ [(i : Int)]) = groupsL d set (i + 1) := by
  unfold groupsL
  rw [tab_ix hk, tab_set _ hk]
  refine tab_congr (fun j hj => ?_)
  by_cases ej : j = k
  · subst ej
    rw [if_pos rfl, sel_t (p := fun j' => decide (srv (ix d (j' : Int)) set = ix set (j : Int))) (decide_eq_true e.symm)]
  · rw [if_neg ej, sel_f (p := fun j' => decide (srv (ix d (j' : Int)) set = ix set (j : Int))) (decide_eq_false (fun h => ej (up_inj hu hj hk (by rw [e, h]))))]
theorem groups_all (d : List (List Int)) (set : List Int) : groupsL d set d.length = tab set.length fun k => clientsL d set (ix set (k : Int)) := rfl

theorem groups_bd {o : List Int} {d : List (List Int)} {set : List Int} (hs : set.length ≤ 1048576000) : (bif opened o d set then groupsL d set d.length else []).length ≤ 7 ∧ ∀ x, (x ∈ bif opened o d set then groupsL d set d.length else []) → x.length ≤ 7 := by
  cases hg : opened o d set with
  | false => simp
  | true =>
    have h := opened_iff hs hg
    have h7 := up_len (opened_up hg) (fun x hx => h.mem hx)
    have hn := h.f.n7
    have hm := h.f.m7
    rw [cond_true]
    refine ⟨by unfold groupsL; rw [tab_len]; omega, fun x hx => ?_⟩
    unfold groupsL at hx
    obtain ⟨k, _, rfl⟩ := mem_tab.1 hx
    have := sel_len (fun j => decide (srv (ix d (j : Int)) set = ix set (k : Int))) d.length
    omega

def g_groupsS : List AV → Prop × AV
  | [.agg [.ints o, .rows d], .ints set] => ((o.length ≤ 1048576000 ∧ d.length ≤ 1048576000 ∧ ∀ x ∈ d, x.length ≤ 1048576000) ∧ set.length ≤ 1048576000, .tup [.rows (bif opened o d set then groupsL d set d.length else []), .bool (opened o d set)])
  | _ => (False, .undef)
theorem g_groupsS_eq (o : List Int) (d : List (List Int)) (set : List Int) : g_groupsS [.agg [.ints o, .rows d], .ints set] = ((o.length ≤ 1048576000 ∧ d.length ≤ 1048576000 ∧ ∀ x ∈ d, x.length ≤ 1048576000) ∧ set.length ≤ 1048576000, .tup [.rows (bif opened o d set then groupsL d set d.length else []), .bool (opened o d set)]) := (rfl)
theorem groupsS_ok (o : List Int) (d : List (List Int)) (set : List Int) (hp : (o.length ≤ 1048576000 ∧ d.length ≤ 1048576000 ∧ ∀ x ∈ d, x.length ≤ 1048576000) ∧ set.length ≤ 1048576000) : SpecOK Try.prog 19 [.agg [.ints o, .rows d], .ints set] (.tup [.rows (bif opened o d set then groupsL d set d.length else []), .bool (opened o d set)]) [] := by
  refine fun_ok (C := t_twoS ++ t_clientsS) (hint := hintX [8] [] 0 [] [] [] []) ((t_twoS_ok).append t_clientsS_ok) mixed Try.func19 rfl (by kernel_rfl) rfl ?_
  show codeA _ _ _ _ _ _ _ _
  simp only [go_sem, ↓reduceIte, Nat.reduceEqDiff, Nat.reduceBEq, Nat.reduceAdd, Nat.reduceSub, Nat.reduceLeDiff, Nat.reduceMul, Nat.reduceLT, Try.results19]
  refine ⟨hp, partB_intro (fun hg => ?_) (fun hg => ?_)⟩
  · have h := opened_iff hp.2 hg
    have hl := h.len
    rw [hg]
    refine loop_intro (fun k : Nat => [(6, .sl 0), (7, .int .i64 k), (1, .ints set), (2, .iptr [.ints o, .rows d])]) (fun k => [(0, .arr (.rows (tab k fun k => clientsL d set (ix set (k : Int)))))]) 1 (fun k => k ≤ set.length) (fun k => set.length - k) 0 (by omega) (by omega) ?_ ?_
    · simp only [go_sem, ↓reduceIte, Nat.reduceEqDiff, Nat.reduceBEq, Nat.reduceAdd, Nat.reduceSub, Nat.reduceLeDiff, Nat.reduceMul, Nat.reduceLT]
      repeat' (first | refine fork_intro (fun hb => ?_) (fun hb => ?_) | refine partB_intro (fun hb => ?_) (fun hb => ?_) | refine And.intro ?_ ?_)
      all_goals first | exact True.intro | omega | with_reducible rfl | exact congrArg (AV.int _) (by omega) | (first | rfl)
    · intro k hk
      have htl : (tab k fun k => clientsL d set (ix set (k : Int))).length = k := tab_len _ _
      have e := tab_succ k (fun k => clientsL d set (ix set (k : Int)))
      simp only [go_sem, ↓reduceIte, Nat.reduceEqDiff, Nat.reduceBEq, Nat.reduceAdd, Nat.reduceSub, Nat.reduceLeDiff, Nat.reduceMul, Nat.reduceLT]
      refine fork_intro (fun hc => ?_) (fun hc => ?_)
      · repeat' (first | refine fork_intro (fun hb => ?_) (fun hb => ?_) | refine partB_intro (fun hb => ?_) (fun hb => ?_) | refine And.intro ?_ ?_)
        all_goals first | exact True.intro | omega | with_reducible rfl | exact congrArg (AV.int _) (by omega) | (refine LoopEnd.intro (k + 1) (by first | omega) (by first | omega | (dsimp only; omega)) (by omega) ?_; simp only [go_sem, ↓reduceIte, Nat.reduceEqDiff, Nat.reduceBEq, Nat.reduceAdd, Nat.reduceSub, Nat.reduceLeDiff, Nat.reduceMul, Nat.reduceLT]; (repeat' (first | refine fork_intro (fun hb => ?_) (fun hb => ?_) | refine partB_intro (fun hb => ?_) (fun hb => ?_) | refine And.intro ?_ ?_)); all_goals first | exact True.intro | omega | with_reducible rfl | exact congrArg (AV.int _) (by omega) | (first | exact h | rw [e])) | (first | exact h | rw [e])
      · rw [show k = set.length by omega]
        repeat' (first | refine fork_intro (fun hb => ?_) (fun hb => ?_) | refine partB_intro (fun hb => ?_) (fun hb => ?_) | refine And.intro ?_ ?_)
        all_goals first | exact True.intro | omega | with_reducible rfl | exact congrArg (AV.int _) (by omega) | (first | rfl)
  · rw [hg]
    repeat' (first | refine fork_intro (fun hb => ?_) (fun hb => ?_) | refine partB_intro (fun hb => ?_) (fun hb => ?_) | refine And.intro ?_ ?_)
    all_goals first | exact True.intro | omega | with_reducible rfl | exact congrArg (AV.int _) (by omega) | (first | rfl)
def t_groupsS : Table := [(19, pureC g_groupsS)]
theorem t_groupsS_ok : TabOK Try.prog t_groupsS := .cons Try.func19 (by kernel_rfl) (.pure (by intro args hp; unfold g_groupsS at hp ⊢; split at hp <;> first | exact hp.elim | exact groupsS_ok _ _ _ hp)) (.nil _)
attribute [go_sem] g_groupsS_eq t_groupsS
def g_groupsI : List AV → Prop × AV × Heap
  | [.agg [.ints o, .rows d], .ints set] => ((o.length ≤ 1048576000 ∧ d.length ≤ 1048576000 ∧ ∀ x ∈ d, x.length ≤ 1048576000) ∧ set.length ≤ 1048576000, .tup [.mt 0, .bool (opened o d set)], [(0, .mat (bif opened o d set then groupsL d set d.length else []))])
  | _ => (False, .undef, [])
theorem g_groupsI_eq (o : List Int) (d : List (List Int)) (set : List Int) : g_groupsI [.agg [.ints o, .rows d], .ints set] = ((o.length ≤ 1048576000 ∧ d.length ≤ 1048576000 ∧ ∀ x ∈ d, x.length ≤ 1048576000) ∧ set.length ≤ 1048576000, .tup [.mt 0, .bool (opened o d set)], [(0, .mat (bif opened o d set then groupsL d set d.length else []))]) := (rfl)
theorem groupsI_ok (o : List Int) (d : List (List Int)) (set : List Int) (hp : (o.length ≤ 1048576000 ∧ d.length ≤ 1048576000 ∧ ∀ x ∈ d, x.length ≤ 1048576000) ∧ set.length ≤ 1048576000) : SpecOK Try.prog 18 [.agg [.ints o, .rows d], .ints set] (.tup [.mt 0, .bool (opened o d set)]) [(0, .mat (bif opened o d set then groupsL d set d.length else []))] := by
  refine fun_ok (C := t_openI ++ t_servedI ++ t_indexI) (hint := hintX [16] [(2, [.post, .up 4 (.mat [])])] 0 [] [16] [] [(8, [8])]) (((t_openI_ok).append t_servedI_ok).append t_indexI_ok) mixed Try.func18 rfl (by kernel_rfl) rfl ?_
  show codeA _ _ _ _ _ _ _ _
  simp only [go_sem, ↓reduceIte, Nat.reduceEqDiff, Nat.reduceBEq, Nat.reduceAdd, Nat.reduceSub, Nat.reduceLeDiff, Nat.reduceMul, Nat.reduceLT, Try.results18]
  refine ⟨hp, partB_intro (fun hg => ?_) (fun hg => ?_)⟩
  · have h := opened_iff hp.2 hg
    have hl := h.len
    have hu := opened_up hg
    have hm := h.f.m7
    rw [hg]
    have h7 := up_len hu (fun x hx => h.mem hx)
    have hn := h.f.n7
    have hsl : (servedL d set).length = d.length := tab_len _ _
    have e0 : groupsL d set 0 = List.replicate set.length [] := (tab_rep _ _).symm
    refine ⟨by omega, h, ?_⟩
    refine loop_intro (fun i : Nat => [(19, .ints (servedL d set)), (20, .int .i64 d.length), (21, .int .i64 i), (6, .mt 0), (1, .ints set), (2, .iptr [.ints o, .rows d])]) (fun i => [(0, .mat (groupsL d set i))]) 2 (fun i => i ≤ d.length) (fun i => d.length - i) 0 (by omega) (by omega) ?_ ?_
    · simp only [go_sem, ↓reduceIte, Nat.reduceEqDiff, Nat.reduceBEq, Nat.reduceAdd, Nat.reduceSub, Nat.reduceLeDiff, Nat.reduceMul, Nat.reduceLT]
      repeat' (first | refine fork_intro (fun hb => ?_) (fun hb => ?_) | refine partB_intro (fun hb => ?_) (fun hb => ?_) | refine And.intro ?_ ?_)
      all_goals first | exact True.intro | omega | with_reducible rfl | exact congrArg (AV.int _) (by omega) | (first | rfl | rw [e0])
    · intro i hi
      have hgl : (groupsL d set i).length = set.length := tab_len _ _
      simp only [go_sem, ↓reduceIte, Nat.reduceEqDiff, Nat.reduceBEq, Nat.reduceAdd, Nat.reduceSub, Nat.reduceLeDiff, Nat.reduceMul, Nat.reduceLT]
      refine fork_intro (fun hc => ?_) (fun hc => ?_)
      · have hin : i < d.length := by omega
        have es : ix (servedL d set) (i : Int) = srv (ix d (i : Int)) set := tab_ix hin
        obtain ⟨k, hk, ek, hv⟩ := idx_spec set 0 (by omega) (srv_mem (ix d (i : Int)) h.pos)
        rw [Int.zero_add] at ek
        have e1 := groups_step (d := d) hu hk hv
        have hrl : (ix (groupsL d set i) (k : Int)).length ≤ i := by
          unfold groupsL
          rw [tab_ix hk]
          exact sel_len _ _
        simp only [es, ek, Int.toNat_natCast, e1]
        repeat' (first | refine fork_intro (fun hb => ?_) (fun hb => ?_) | refine partB_intro (fun hb => ?_) (fun hb => ?_) | refine And.intro ?_ ?_)
        all_goals first | exact True.intro | omega | with_reducible rfl | exact congrArg (AV.int _) (by omega) | (refine LoopEnd.intro (i + 1) (by first | omega) (by first | omega | (dsimp only; omega)) (by omega) ?_; simp only [go_sem, ↓reduceIte, Nat.reduceEqDiff, Nat.reduceBEq, Nat.reduceAdd, Nat.reduceSub, Nat.reduceLeDiff, Nat.reduceMul, Nat.reduceLT]; (repeat' (first | refine fork_intro (fun hb => ?_) (fun hb => ?_) | refine partB_intro (fun hb => ?_) (fun hb => ?_) | refine And.intro ?_ ?_)); all_goals first | exact True.intro | omega | with_reducible rfl | exact congrArg (AV.int _) (by omega) | (first | rfl)) | (first | rfl)
      · rw [show i = d.length by omega]
        repeat' (first | refine fork_intro (fun hb => ?_) (fun hb => ?_) | refine partB_intro (fun hb => ?_) (fun hb => ?_) | refine And.intro ?_ ?_)
        all_goals first | exact True.intro | omega | with_reducible rfl | exact congrArg (AV.int _) (by omega) | (first | rfl)
  · rw [hg]
    repeat' (first | refine fork_intro (fun hb => ?_) (fun hb => ?_) | refine partB_intro (fun hb => ?_) (fun hb => ?_) | refine And.intro ?_ ?_)
    all_goals first | exact True.intro | omega | with_reducible rfl | exact congrArg (AV.int _) (by omega) | (first | rfl)
def t_groupsI : Table := [(18, ownC g_groupsI)]
theorem t_groupsI_ok : TabOK Try.prog t_groupsI := .cons Try.func18 (by kernel_rfl) (.own (by intro args hp; unfold g_groupsI at hp ⊢; split at hp <;> first | exact hp.elim | exact ⟨groupsI_ok _ _ _ hp, rfl⟩)) (.nil _)
attribute [go_sem] g_groupsI_eq t_groupsI
end Go.Proofs.Yteefjdbdknkcjaa
