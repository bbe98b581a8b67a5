/- The growth set in the reference. -/
import Derived.Test.YtibomnplkclkmaaA34
import Derived.Test.YtibomnplkclkmaaA35
import Derived.Test.YtibomnplkclkmaaA35b
import Derived.Test.YtibomnplkclkmaaPlU
import Derived.Test.YtibomnplkclkmaaPlD
namespace Go.Proofs.Ytibomnplkclkmaa
open Go.Vc
set_option maxRecDepth 100000
set_option maxHeartbeats 1600000
set_option linter.unusedSimpArgs false
set_option linter.unusedVariables false

theorem chp_fact (o : List Int) : ∀ k : Nat, 1 ≤ k → chpF o k < k ∧ (∀ q : Nat, q < k → ix o (chpF o k : Int) ≤ ix o (q : Int)) ∧ ∀ q : Nat, q < chpF o k → ix o (chpF o k : Int) < ix o (q : Int)
  | 0, h => by omega
  | 1, _ => by
    have e : chpF o 1 = 0 := by unfold chpF; split <;> rfl
    rw [e]
    exact ⟨by omega, fun q hq => by obtain rfl : q = 0 := by omega
                                    exact Int.le_refl _, fun q hq => by omega⟩
  | k + 2, _ => by
    obtain ⟨h1, h2, h3⟩ := chp_fact o (k + 1) (by omega)
    have e : chpF o (k + 2) = if ix o ((k + 1 : Nat) : Int) < ix o (chpF o (k + 1) : Int) then k + 1 else chpF o (k + 1) := rfl
    rw [e]
    split
    · rename_i hlt
      refine ⟨by omega, fun q hq => ?_, fun q hq => ?_⟩
      · by_cases e2 : q = k + 1
        · subst e2; exact Int.le_refl _
        · have := h2 q (by omega); omega
      · have := h2 q hq; omega
    · rename_i hlt
      refine ⟨by omega, fun q hq => ?_, h3⟩
      by_cases e2 : q = k + 1
      · subst e2; omega
      · exact h2 q (by omega)
theorem chp_lt {o : List Int} (h : 0 < o.length) : chpF o o.length < o.length := (chp_fact o o.length (by omega)).1
def g_cheapS : List AV → Prop × AV
  | [.agg [.ints o, .rows d]] => (FieldOK o d, .int .i64 (chpF o o.length : Nat))
  | _ => (False, .undef)
theorem g_cheapS_eq (o : List Int) (d : List (List Int)) : g_cheapS [.agg [.ints o, .rows d]] = (FieldOK o d, .int .i64 (chpF o o.length : Nat)) := (rfl)
theorem cheapS_ok (o : List Int) (d : List (List Int)) (hp : FieldOK o d) : SpecOK Try.prog 85 [.agg [.ints o, .rows d]] (.int .i64 (chpF o o.length : Nat)) [] := by
  refine fun_ok (C := []) (hint := hintX [] [] 0 [] [] [] []) (TabOK.nil _) mixed Try.func85 rfl (by kernel_rfl) rfl ?_
  show codeA _ _ _ _ _ _ _ _
  simp only [go_sem, ↓reduceIte, Nat.reduceEqDiff, Nat.reduceBEq, Nat.reduceAdd, Nat.reduceSub, Nat.reduceLeDiff, Nat.reduceMul, Nat.reduceLT, Try.results85]
  have hn := hp.n7
  have h1 := hp.n1
  refine loop_intro (fun a : Nat => [(3, .int .i64 (chpF o a : Nat)), (4, .int .i64 a), (1, .iptr [.ints o, .rows d])]) (fun _ => []) 0 (fun a => 1 ≤ a ∧ a ≤ o.length) (fun a => o.length - a) 1 ⟨by omega, h1⟩ (by omega) ?_ ?_
  · simp only [go_sem, ↓reduceIte, Nat.reduceEqDiff, Nat.reduceBEq, Nat.reduceAdd, Nat.reduceSub, Nat.reduceLeDiff, Nat.reduceMul, Nat.reduceLT]
    repeat' (first | refine fork_intro (fun hb => ?_) (fun hb => ?_) | refine partB_intro (fun hb => ?_) (fun hb => ?_) | refine And.intro ?_ ?_)
    all_goals first | exact True.intro | omega | with_reducible rfl | exact congrArg (AV.int _) (by omega) | (first | rfl | exact congrArg (AV.int _) (by unfold chpF; split <;> rfl))
  · rintro a ⟨ha1, ha⟩
    obtain ⟨c1, _⟩ := chp_fact o a ha1
    have e : chpF o (a + 1) = if ix o (a : Int) < ix o (chpF o a : Int) then a else chpF o a := rfl
    simp only [go_sem, ↓reduceIte, Nat.reduceEqDiff, Nat.reduceBEq, Nat.reduceAdd, Nat.reduceSub, Nat.reduceLeDiff, Nat.reduceMul, Nat.reduceLT]
    refine fork_intro (fun hc => ?_) (fun hc => ?_)
    · refine ⟨by omega, by omega, fork_intro (fun hd => ?_) (fun hd => ?_)⟩
      · rw [if_pos hd] at e
        repeat' (first | refine fork_intro (fun hb => ?_) (fun hb => ?_) | refine partB_intro (fun hb => ?_) (fun hb => ?_) | refine And.intro ?_ ?_)
        all_goals first | exact True.intro | omega | with_reducible rfl | exact congrArg (AV.int _) (by omega) | (refine LoopEnd.intro (a + 1) (by first | omega | (first | exact ⟨by omega, by omega⟩)) (by first | omega | (dsimp only; omega)) (by omega) ?_; simp only [go_sem, ↓reduceIte, Nat.reduceEqDiff, Nat.reduceBEq, Nat.reduceAdd, Nat.reduceSub, Nat.reduceLeDiff, Nat.reduceMul, Nat.reduceLT]; (repeat' (first | refine fork_intro (fun hb => ?_) (fun hb => ?_) | refine partB_intro (fun hb => ?_) (fun hb => ?_) | refine And.intro ?_ ?_)); all_goals first | exact True.intro | omega | with_reducible rfl | exact congrArg (AV.int _) (by omega) | (first | rfl | rw [e])) | (first | rfl | rw [e])
      · rw [if_neg hd] at e
        repeat' (first | refine fork_intro (fun hb => ?_) (fun hb => ?_) | refine partB_intro (fun hb => ?_) (fun hb => ?_) | refine And.intro ?_ ?_)
        all_goals first | exact True.intro | omega | with_reducible rfl | exact congrArg (AV.int _) (by omega) | (refine LoopEnd.intro (a + 1) (by first | omega | (first | exact ⟨by omega, by omega⟩)) (by first | omega | (dsimp only; omega)) (by omega) ?_; simp only [go_sem, ↓reduceIte, Nat.reduceEqDiff, Nat.reduceBEq, Nat.reduceAdd, Nat.reduceSub, Nat.reduceLeDiff, Nat.reduceMul, Nat.reduceLT]; (repeat' (first | refine fork_intro (fun hb => ?_) (fun hb => ?_) | refine partB_intro (fun hb => ?_) (fun hb => ?_) | refine And.intro ?_ ?_)); all_goals first | exact True.intro | omega | with_reducible rfl | exact congrArg (AV.int _) (by omega) | (first | rfl | rw [e])) | (first | rfl | rw [e])
    · rw [show a = o.length by omega]
def t_cheapS : Table := [(85, pureC g_cheapS)]
theorem t_cheapS_ok : TabOK Try.prog t_cheapS := .cons Try.func85 (by kernel_rfl) (.pure (by intro args hp; unfold g_cheapS at hp ⊢; split at hp <;> first | exact hp.elim | exact cheapS_ok _ _ hp)) (.nil _)
attribute [go_sem] g_cheapS_eq t_cheapS
def g_ripeS : List AV → Prop × AV
  | [.agg [.int .i64 now, .ints p, .bools bs, .ints wt, .ints t]] => (t.length ≤ 7, .ints (ripeL t t.length))
  | _ => (False, .undef)
theorem g_ripeS_eq (now : Int) (p : List Int) (bs : List Bool) (wt t : List Int) : g_ripeS [.agg [.int .i64 now, .ints p, .bools bs, .ints wt, .ints t]] = (t.length ≤ 7, .ints (ripeL t t.length)) := (rfl)
theorem ripeS_ok (now : Int) (p : List Int) (bs : List Bool) (wt t : List Int) (hp : t.length ≤ 7) : SpecOK Try.prog 104 [.agg [.int .i64 now, .ints p, .bools bs, .ints wt, .ints t]] (.ints (ripeL t t.length)) [] := by
  refine fun_ok (C := t_earlierS ++ t_ownI) (hint := hintX [39] [(4, [.fz [3]])] 0 [] [] [(9, [0, 1, 2, 3, 4, 5, 7, 8, 9, 6, 10, 11])] [(9, [6, 9])]) ((t_earlierS_ok).append t_ownI_ok) mixed Try.func104 rfl (by kernel_rfl) rfl ?_
  show codeA _ _ _ _ _ _ _ _
  simp only [go_sem, ↓reduceIte, Nat.reduceEqDiff, Nat.reduceBEq, Nat.reduceAdd, Nat.reduceSub, Nat.reduceLeDiff, Nat.reduceMul, Nat.reduceLT, Try.results104]
  refine loop_intro (fun a : Nat => [(4, .int .i64 a), (3, .ints (ripeL t a)), (1, .iptr [.int .i64 now, .ints p, .bools bs, .ints wt, .ints t])]) (fun _ => []) 0 (fun a => a ≤ t.length) (fun a => t.length - a) 0 (by omega) (by omega) ?_ ?_
  · simp only [go_sem, ↓reduceIte, Nat.reduceEqDiff, Nat.reduceBEq, Nat.reduceAdd, Nat.reduceSub, Nat.reduceLeDiff, Nat.reduceMul, Nat.reduceLT]
    repeat' (first | refine fork_intro (fun hb => ?_) (fun hb => ?_) | refine partB_intro (fun hb => ?_) (fun hb => ?_) | refine And.intro ?_ ?_)
    all_goals first | exact True.intro | omega | with_reducible rfl | exact congrArg (AV.int _) (by omega) | (first | rfl)
  · intro a ha
    have hrl := ripe_len t a
    simp only [go_sem, ↓reduceIte, Nat.reduceEqDiff, Nat.reduceBEq, Nat.reduceAdd, Nat.reduceSub, Nat.reduceLeDiff, Nat.reduceMul, Nat.reduceLT]
    refine fork_intro (fun hc => ?_) (fun hc => ?_)
    · refine ⟨by omega, fork_intro (fun h1 => ?_) (fun h1 => ?_)⟩
      · have e := ripe_f (t := t) (n := a) (by omega)
        repeat' (first | refine fork_intro (fun hb => ?_) (fun hb => ?_) | refine partB_intro (fun hb => ?_) (fun hb => ?_) | refine And.intro ?_ ?_)
        all_goals first | exact True.intro | omega | with_reducible rfl | exact congrArg (AV.int _) (by omega) | (refine LoopEnd.intro (a + 1) (by first | omega) (by first | omega | (dsimp only; omega)) (by omega) ?_; simp only [go_sem, ↓reduceIte, Nat.reduceEqDiff, Nat.reduceBEq, Nat.reduceAdd, Nat.reduceSub, Nat.reduceLeDiff, Nat.reduceMul, Nat.reduceLT]; (repeat' (first | refine fork_intro (fun hb => ?_) (fun hb => ?_) | refine partB_intro (fun hb => ?_) (fun hb => ?_) | refine And.intro ?_ ?_)); all_goals first | exact True.intro | omega | with_reducible rfl | exact congrArg (AV.int _) (by omega) | (first | rfl | rw [e])) | (first | rfl | rw [e])
      · have e := ripe_t (t := t) (n := a) (by omega)
        have hsrt : Srt (ix t) (ripeL t a) := srt_insF (ix t) (tghtL t a)
        have hmem := fun {k : Nat} (hk : k < (ripeL t a).length) => ripe_mem.1 (ix_mem (ripeL t a) hk)
        have hat := fun {k : Nat} hk h1 h2 => insL_at (x := (a : Int)) (k := k) hsrt hk h1 h2
        rw [← ltT_eq, ← e] at hat
        refine loop_intro (fun k : Nat => [(5, .int .i64 k), (4, .int .i64 a), (3, .ints (ripeL t a)), (1, .iptr [.int .i64 now, .ints p, .bools bs, .ints wt, .ints t])]) (fun _ => []) 0 (fun k => k ≤ (ripeL t a).length ∧ ∀ q : Nat, q < k → ix t (ix (ripeL t a) (q : Int)) ≤ ix t (a : Int)) (fun k => (ripeL t a).length - k) 0 ⟨Nat.zero_le _, fun q hq => by omega⟩ (by omega) ?_ ?_
        · simp only [go_sem, ↓reduceIte, Nat.reduceEqDiff, Nat.reduceBEq, Nat.reduceAdd, Nat.reduceSub, Nat.reduceLeDiff, Nat.reduceMul, Nat.reduceLT]
          repeat' (first | refine fork_intro (fun hb => ?_) (fun hb => ?_) | refine partB_intro (fun hb => ?_) (fun hb => ?_) | refine And.intro ?_ ?_)
          all_goals first | exact True.intro | omega | with_reducible rfl | exact congrArg (AV.int _) (by omega) | (first | rfl)
        · rintro k ⟨hk, hle⟩
          have f1 := cutL_pre (ripeL t a) k
          have f2 := cutL_suf (ripeL t a) k
          have hl1 : ((ripeL t a).take k).length = k := by simp; omega
          have hl2 : ((ripeL t a).drop k).length = (ripeL t a).length - k := by simp
          simp only [go_sem, ↓reduceIte, Nat.reduceEqDiff, Nat.reduceBEq, Nat.reduceAdd, Nat.reduceSub, Nat.reduceLeDiff, Nat.reduceMul, Nat.reduceLT]
          simp only [f1, f2, hl1, hl2]
          refine fork_intro (fun hd => ?_) (fun hd => ?_)
          · obtain ⟨m, m1, m2, m3⟩ := hmem (k := k) (by omega)
            refine ⟨by omega, by omega, fork_intro (fun he => ?_) (fun he => ?_)⟩
            · have e2 : (ripeL t a).take k ++ [(a : Int)] ++ (ripeL t a).drop k = ripeL t (a + 1) := by
                rw [hat hk hle (fun _ => by rcases he with h | h <;> omega), List.append_assoc]; rfl
              repeat' (first | refine fork_intro (fun hb => ?_) (fun hb => ?_) | refine partB_intro (fun hb => ?_) (fun hb => ?_) | refine And.intro ?_ ?_)
              all_goals first | exact True.intro | omega | with_reducible rfl | exact congrArg (AV.int _) (by omega) | (refine LoopEnd.intro (a + 1) (by first | omega) (by first | omega | (dsimp only; omega)) (by omega) ?_; simp only [go_sem, ↓reduceIte, Nat.reduceEqDiff, Nat.reduceBEq, Nat.reduceAdd, Nat.reduceSub, Nat.reduceLeDiff, Nat.reduceMul, Nat.reduceLT]; (repeat' (first | refine fork_intro (fun hb => ?_) (fun hb => ?_) | refine partB_intro (fun hb => ?_) (fun hb => ?_) | refine And.intro ?_ ?_)); all_goals first | exact True.intro | omega | with_reducible rfl | exact congrArg (AV.int _) (by omega) | (first | rfl | rw [e2])) | (first | rfl | rw [e2])
            · have hz : ∀ q : Nat, q < k + 1 → ix t (ix (ripeL t a) (q : Int)) ≤ ix t (a : Int) := fun q hq => by
                by_cases e3 : q = k
                · subst e3; omega
                · exact hle q (by omega)
              repeat' (first | refine fork_intro (fun hb => ?_) (fun hb => ?_) | refine partB_intro (fun hb => ?_) (fun hb => ?_) | refine And.intro ?_ ?_)
              all_goals first | exact True.intro | omega | with_reducible rfl | exact congrArg (AV.int _) (by omega) | (refine LoopEnd.intro (k + 1) (by first | omega | (first | exact ⟨by omega, hz⟩)) (by first | omega | (dsimp only; omega)) (by omega) ?_; simp only [go_sem, ↓reduceIte, Nat.reduceEqDiff, Nat.reduceBEq, Nat.reduceAdd, Nat.reduceSub, Nat.reduceLeDiff, Nat.reduceMul, Nat.reduceLT]; (repeat' (first | refine fork_intro (fun hb => ?_) (fun hb => ?_) | refine partB_intro (fun hb => ?_) (fun hb => ?_) | refine And.intro ?_ ?_)); all_goals first | exact True.intro | omega | with_reducible rfl | exact congrArg (AV.int _) (by omega) | (first | rfl)) | (first | rfl)
          · have e2 : (ripeL t a).take k ++ [(a : Int)] ++ (ripeL t a).drop k = ripeL t (a + 1) := by
              rw [hat hk hle (fun h => by omega), List.append_assoc]; rfl
            repeat' (first | refine fork_intro (fun hb => ?_) (fun hb => ?_) | refine partB_intro (fun hb => ?_) (fun hb => ?_) | refine And.intro ?_ ?_)
            all_goals first | exact True.intro | omega | with_reducible rfl | exact congrArg (AV.int _) (by omega) | (refine LoopEnd.intro (a + 1) (by first | omega) (by first | omega | (dsimp only; omega)) (by omega) ?_; simp only [go_sem, ↓reduceIte, Nat.reduceEqDiff, Nat.reduceBEq, Nat.reduceAdd, Nat.reduceSub, Nat.reduceLeDiff, Nat.reduceMul, Nat.reduceLT]; (repeat' (first | refine fork_intro (fun hb => ?_) (fun hb => ?_) | refine partB_intro (fun hb => ?_) (fun hb => ?_) | refine And.intro ?_ ?_)); all_goals first | exact True.intro | omega | with_reducible rfl | exact congrArg (AV.int _) (by omega) | (first | rfl | rw [e2])) | (first | rfl | rw [e2])
    · rw [show a = t.length by omega]
def t_ripeS : Table := [(104, pureC g_ripeS)]
theorem t_ripeS_ok : TabOK Try.prog t_ripeS := .cons Try.func104 (by kernel_rfl) (.pure (by intro args hp; unfold g_ripeS at hp ⊢; split at hp <;> first | exact hp.elim | exact ripeS_ok _ _ _ _ _ hp)) (.nil _)
attribute [go_sem] g_ripeS_eq t_ripeS
theorem any_perm {l m : List Int} (h : l.Perm m) (f : Int → Bool) : l.any f = m.any f := by
  rw [Bool.eq_iff_iff, List.any_eq_true, List.any_eq_true]
  exact ⟨fun ⟨x, h1, h2⟩ => ⟨x, h.mem_iff.1 h1, h2⟩, fun ⟨x, h1, h2⟩ => ⟨x, h.mem_iff.2 h1, h2⟩⟩
theorem any_take {l : List Int} {f : Int → Bool} {k : Nat} (h : k < l.length) : (l.take (k + 1)).any f = ((l.take k).any f || f (ix l (k : Int))) := by
  rw [take_ix l h, List.any_append]; simp
theorem put_keep {c : Int → Int → Bool} {R : List Int} (hR : R.Nodup) {i : Nat} (hi : i < R.length) (h : (keepL c R i).any (fun y => c (ix R (i : Int)) y) = false) : putF (insF ltI (keepL c R i)) (ix R (i : Int)) = insF ltI (keepL c R (i + 1)) := by
  have e : keepL c R (i + 1) = keepL c R i ++ [ix R (i : Int)] := by
    show (if _ then _ else _) = _
    rw [if_neg (by rw [h]; decide)]
  have hu := up_insF (keepL_nodup c hR (i := i) (by omega))
  refine up_ext (up_putF hu) (up_insF (keepL_nodup c hR (i := i + 1) (by omega))) (fun a => ?_)
  rw [mem_putF, mem_insF, mem_insF, e, List.mem_append, List.mem_singleton]
  exact Or.comm
theorem keep_same {c : Int → Int → Bool} {R : List Int} {i : Nat} (h : (keepL c R i).any (fun y => c (ix R (i : Int)) y) = true) : keepL c R (i + 1) = keepL c R i := by
  show (if _ then _ else _) = _
  rw [if_pos h]
def g_growthSetS : List AV → Prop × AV
  | [.agg [.ints o, .rows d]] => (o.length ≤ 1048576000 ∧ d.length ≤ 1048576000 ∧ ∀ x ∈ d, x.length ≤ 1048576000, .tup [.ints (bif good o d then gsetL o d else []), .bool (good o d)])
  | _ => (False, .undef)
theorem g_growthSetS_eq (o : List Int) (d : List (List Int)) : g_growthSetS [.agg [.ints o, .rows d]] = (o.length ≤ 1048576000 ∧ d.length ≤ 1048576000 ∧ ∀ x ∈ d, x.length ≤ 1048576000, .tup [.ints (bif good o d then gsetL o d else []), .bool (good o d)]) := (rfl)
theorem growthSetS_ok (o : List Int) (d : List (List Int)) (hp : o.length ≤ 1048576000 ∧ d.length ≤ 1048576000 ∧ ∀ x ∈ d, x.length ≤ 1048576000) : SpecOK Try.prog 48 [.agg [.ints o, .rows d]] (.tup [.ints (bif good o d then gsetL o d else []), .bool (good o d)]) [] := by
  refine fun_ok (C := t_l2Good ++ t_cheapS ++ t_growS ++ t_ripeS ++ t_conflictS ++ t_putS) (hint := hintX [4] [] 0 [] [] [] []) ((((((t_l2Good_ok).append t_cheapS_ok).append t_growS_ok).append t_ripeS_ok).append t_conflictS_ok).append t_putS_ok) mixed Try.func48 rfl (by kernel_rfl) rfl ?_
  show codeA _ _ _ _ _ _ _ _
  simp only [go_sem, ↓reduceIte, Nat.reduceEqDiff, Nat.reduceBEq, Nat.reduceAdd, Nat.reduceSub, Nat.reduceLeDiff, Nat.reduceMul, Nat.reduceLT, Try.results48]
  refine ⟨hp, partB_intro (fun hg => ?_) (fun hg => ?_)⟩
  · rw [hg]
    have hf := good_iff.1 hg
    have hn := hf.n7
    obtain ⟨l1, l2, l3⟩ := grown_lens o d
    have hR := ripe_len (grown o d).t o.length
    have hRn := ripe_nodup (grown o d).t o.length
    have hRm := fun {x : Int} => ripe_mem (t := (grown o d).t) (n := o.length) (x := x)
    refine fork_intro (fun h0 => ?_) (fun h0 => ?_)
    · have e : gsetL o d = [(chpF o o.length : Int)] := by unfold gsetL; rw [if_pos (by omega)]
      rw [e]
      repeat' (first | refine fork_intro (fun hb => ?_) (fun hb => ?_) | refine partB_intro (fun hb => ?_) (fun hb => ?_) | refine And.intro ?_ ?_)
      all_goals first | exact True.intro | omega | with_reducible rfl | exact congrArg (AV.int _) (by omega) | (first | exact hf | rfl)
    · have e : gsetL o d = insF ltI (keepL (cnfX d (grown o d).p) (ripeL (grown o d).t o.length) (ripeL (grown o d).t o.length).length) := by unfold gsetL; rw [if_neg (by omega)]
      rw [e, l2]
      generalize hRR : ripeL (grown o d).t o.length = R at *
      have hRb := fun {x : Int} (hx : x ∈ R) => hRm.1 hx
      have hcB := fun {x y : Int} (hx : x ∈ R) (hy : y ∈ R) => (show cnfB d (grown o d).p (grown o d).t x y = cnfX d (grown o d).p x y from by
        obtain ⟨k, k1, k2, rfl⟩ := hRb hx
        obtain ⟨m, m1, m2, rfl⟩ := hRb hy
        unfold cnfB
        rw [decide_eq_true k2, decide_eq_true m2]; rfl)
      refine ⟨hf, by omega, ?_⟩
      generalize hcc : cnfX d (grown o d).p = c at *
      refine loop_intro (fun i : Nat => [(7, .int .i64 i), (6, .ints (insF ltI (keepL c R i))), (5, .ints R), (4, .bx 0 0), (1, .iptr [.ints o, .rows d])]) (fun i => [(0, .box [.int .i64 (grown o d).now, .ints (grown o d).p, .bools (stB (grown o d).w), .ints (stW (grown o d).w), .ints (grown o d).t])]) 1 (fun i => i ≤ R.length) (fun i => R.length - i) 0 (by omega) (by omega) ?_ ?_
      · simp only [go_sem, ↓reduceIte, Nat.reduceEqDiff, Nat.reduceBEq, Nat.reduceAdd, Nat.reduceSub, Nat.reduceLeDiff, Nat.reduceMul, Nat.reduceLT]
        repeat' (first | refine fork_intro (fun hb => ?_) (fun hb => ?_) | refine partB_intro (fun hb => ?_) (fun hb => ?_) | refine And.intro ?_ ?_)
        all_goals first | exact True.intro | omega | with_reducible rfl | exact congrArg (AV.int _) (by omega) | (first | rfl)
      · intro i hi
        have hOl : (insF ltI (keepL c R i)).length ≤ i := by rw [insF_len]; exact keepL_len c R i
        have hOm : ∀ y ∈ insF ltI (keepL c R i), y ∈ R := fun y hy => by
          obtain ⟨q, q1, q2⟩ := keepL_sub c hi y (mem_insF.1 hy)
          rw [q2]; exact ix_mem R (by omega)
        simp only [go_sem, ↓reduceIte, Nat.reduceEqDiff, Nat.reduceBEq, Nat.reduceAdd, Nat.reduceSub, Nat.reduceLeDiff, Nat.reduceMul, Nat.reduceLT]
        refine fork_intro (fun h1 => ?_) (fun h1 => ?_)
        · have hiR : i < R.length := by omega
          have hxR := ix_mem R hiR
          obtain ⟨x0, x1, x2, x3⟩ := hRb hxR
          have hany := any_perm (insF_perm ltI (keepL c R i)) (fun y => c (ix R (i : Int)) y)
          have hput := fun h => put_keep hRn hiR (c := c) h
          have hsame := fun h => keep_same (c := c) (R := R) (i := i) h
          generalize hOO : insF ltI (keepL c R i) = O at *
          refine loop_intro (fun k : Nat => [(9, .int .i64 k), (8, .bool (!(O.take k).any (fun y => c (ix R (i : Int)) y))), (7, .int .i64 i), (6, .ints O), (5, .ints R), (4, .bx 0 0), (1, .iptr [.ints o, .rows d])]) (fun i => [(0, .box [.int .i64 (grown o d).now, .ints (grown o d).p, .bools (stB (grown o d).w), .ints (stW (grown o d).w), .ints (grown o d).t])]) 1 (fun k => k ≤ O.length) (fun k => O.length - k) 0 (by omega) (by omega) ?_ ?_
          · simp only [go_sem, ↓reduceIte, Nat.reduceEqDiff, Nat.reduceBEq, Nat.reduceAdd, Nat.reduceSub, Nat.reduceLeDiff, Nat.reduceMul, Nat.reduceLT]
            repeat' (first | refine fork_intro (fun hb => ?_) (fun hb => ?_) | refine partB_intro (fun hb => ?_) (fun hb => ?_) | refine And.intro ?_ ?_)
            all_goals first | exact True.intro | omega | with_reducible rfl | exact congrArg (AV.int _) (by omega) | (first | rfl)
          · intro k hk
            simp only [go_sem, ↓reduceIte, Nat.reduceEqDiff, Nat.reduceBEq, Nat.reduceAdd, Nat.reduceSub, Nat.reduceLeDiff, Nat.reduceMul, Nat.reduceLT]
            refine fork_intro (fun h2 => ?_) (fun h2 => ?_)
            · have hkO : k < O.length := by omega
              have hyR := hOm _ (ix_mem O hkO)
              obtain ⟨y0, y1, y2, y3⟩ := hRb hyR
              have ht := any_take (f := fun y => c (ix R (i : Int)) y) hkO
              have hB := hcB hxR hyR
              refine partB_intro (fun hh => ?_) (fun hh => ?_)
              · rw [hh, Bool.true_or] at ht
                repeat' (first | refine fork_intro (fun hb => ?_) (fun hb => ?_) | refine partB_intro (fun hb => ?_) (fun hb => ?_) | refine And.intro ?_ ?_)
                all_goals first | exact True.intro | omega | with_reducible rfl | exact congrArg (AV.int _) (by omega) | (refine LoopEnd.intro (k + 1) (by first | omega) (by first | omega | (dsimp only; omega)) (by omega) ?_; simp only [go_sem, ↓reduceIte, Nat.reduceEqDiff, Nat.reduceBEq, Nat.reduceAdd, Nat.reduceSub, Nat.reduceLeDiff, Nat.reduceMul, Nat.reduceLT]; (repeat' (first | refine fork_intro (fun hb => ?_) (fun hb => ?_) | refine partB_intro (fun hb => ?_) (fun hb => ?_) | refine And.intro ?_ ?_)); all_goals first | exact True.intro | omega | with_reducible rfl | exact congrArg (AV.int _) (by omega) | (first | rfl | (rw [ht]; rfl))) | (first | rfl | (rw [ht]; rfl))
              · rw [hh, Bool.false_or] at ht
                refine ⟨by omega, by omega, ⟨⟨hf, l1, l2⟩, by omega, by omega⟩, ?_⟩
                repeat' (first | refine fork_intro (fun hb => ?_) (fun hb => ?_) | refine partB_intro (fun hb => ?_) (fun hb => ?_) | refine And.intro ?_ ?_)
                all_goals first | exact True.intro | omega | with_reducible rfl | exact congrArg (AV.int _) (by omega) | (refine LoopEnd.intro (k + 1) (by first | omega) (by first | omega | (dsimp only; omega)) (by omega) ?_; simp only [go_sem, ↓reduceIte, Nat.reduceEqDiff, Nat.reduceBEq, Nat.reduceAdd, Nat.reduceSub, Nat.reduceLeDiff, Nat.reduceMul, Nat.reduceLT]; (repeat' (first | refine fork_intro (fun hb => ?_) (fun hb => ?_) | refine partB_intro (fun hb => ?_) (fun hb => ?_) | refine And.intro ?_ ?_)); all_goals first | exact True.intro | omega | with_reducible rfl | exact congrArg (AV.int _) (by omega) | (first | rfl | (rw [ht, hB]))) | (first | rfl | (rw [ht, hB]))
            · rw [show k = O.length by omega, List.take_length, hany]
              refine partB_intro (fun hh => ?_) (fun hh => ?_)
              · have e2 : O = insF ltI (keepL c R (i + 1)) := by rw [hsame hh, hOO]
                repeat' (first | refine fork_intro (fun hb => ?_) (fun hb => ?_) | refine partB_intro (fun hb => ?_) (fun hb => ?_) | refine And.intro ?_ ?_)
                all_goals first | exact True.intro | omega | with_reducible rfl | exact congrArg (AV.int _) (by omega) | (refine LoopEnd.intro (i + 1) (by first | omega) (by first | omega | (dsimp only; omega)) (by omega) ?_; simp only [go_sem, ↓reduceIte, Nat.reduceEqDiff, Nat.reduceBEq, Nat.reduceAdd, Nat.reduceSub, Nat.reduceLeDiff, Nat.reduceMul, Nat.reduceLT]; (repeat' (first | refine fork_intro (fun hb => ?_) (fun hb => ?_) | refine partB_intro (fun hb => ?_) (fun hb => ?_) | refine And.intro ?_ ?_)); all_goals first | exact True.intro | omega | with_reducible rfl | exact congrArg (AV.int _) (by omega) | (first | rfl | rw [← e2])) | (first | rfl | rw [← e2])
              · have e2 := hput hh
                repeat' (first | refine fork_intro (fun hb => ?_) (fun hb => ?_) | refine partB_intro (fun hb => ?_) (fun hb => ?_) | refine And.intro ?_ ?_)
                all_goals first | exact True.intro | omega | with_reducible rfl | exact congrArg (AV.int _) (by omega) | (refine LoopEnd.intro (i + 1) (by first | omega) (by first | omega | (dsimp only; omega)) (by omega) ?_; simp only [go_sem, ↓reduceIte, Nat.reduceEqDiff, Nat.reduceBEq, Nat.reduceAdd, Nat.reduceSub, Nat.reduceLeDiff, Nat.reduceMul, Nat.reduceLT]; (repeat' (first | refine fork_intro (fun hb => ?_) (fun hb => ?_) | refine partB_intro (fun hb => ?_) (fun hb => ?_) | refine And.intro ?_ ?_)); all_goals first | exact True.intro | omega | with_reducible rfl | exact congrArg (AV.int _) (by omega) | (first | rfl | rw [e2])) | (first | rfl | rw [e2])
        · rw [show i = R.length by omega]
          repeat' (first | refine fork_intro (fun hb => ?_) (fun hb => ?_) | refine partB_intro (fun hb => ?_) (fun hb => ?_) | refine And.intro ?_ ?_)
          all_goals first | exact True.intro | omega | with_reducible rfl | exact congrArg (AV.int _) (by omega) | (first | rfl)
  · rw [hg]
    repeat' (first | refine fork_intro (fun hb => ?_) (fun hb => ?_) | refine partB_intro (fun hb => ?_) (fun hb => ?_) | refine And.intro ?_ ?_)
    all_goals first | exact True.intro | omega | with_reducible rfl | exact congrArg (AV.int _) (by omega) | (first | rfl)
def t_growthSetS : Table := [(48, pureC g_growthSetS)]
theorem t_growthSetS_ok : TabOK Try.prog t_growthSetS := .cons Try.func48 (by kernel_rfl) (.pure (by intro args hp; unfold g_growthSetS at hp ⊢; split at hp <;> first | exact hp.elim | exact growthSetS_ok _ _ hp)) (.nil _)
attribute [go_sem] g_growthSetS_eq t_growthSetS
end Go.Proofs.Ytibomnplkclkmaa
