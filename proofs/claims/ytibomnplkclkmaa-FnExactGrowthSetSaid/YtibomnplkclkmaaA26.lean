/- Growth in the reference: what it reads. -/
import Derived.Test.YtibomnplkclkmaaA7
import Derived.Test.YtibomnplkclkmaaPlO
namespace Go.Proofs.Ytibomnplkclkmaa
open Go.Vc
set_option maxRecDepth 100000
set_option linter.unusedSimpArgs false
set_option linter.unusedVariables false

def g_grownS : List AV → Prop × AV
  | [.agg [.int .i64 now, .ints p, .bools bs, .ints wt, .ints t]] => (p.length ≤ 1000 ∧ bs.length = p.length, .ints (tab p.length fun j => if ix bs (j : Int) = true then ix p (j : Int) else now))
  | _ => (False, .undef)
theorem g_grownS_eq (now : Int) (p : List Int) (bs : List Bool) (wt t : List Int) : g_grownS [.agg [.int .i64 now, .ints p, .bools bs, .ints wt, .ints t]] = (p.length ≤ 1000 ∧ bs.length = p.length, .ints (tab p.length fun j => if ix bs (j : Int) = true then ix p (j : Int) else now)) := (rfl)
theorem grownS_ok (now : Int) (p : List Int) (bs : List Bool) (wt t : List Int) (hp : p.length ≤ 1000 ∧ bs.length = p.length) : SpecOK Try.prog 159 [.agg [.int .i64 now, .ints p, .bools bs, .ints wt, .ints t]] (.ints (tab p.length fun j => if ix bs (j : Int) = true then ix p (j : Int) else now)) [] := by
  refine fun_ok (C := []) (hint := hintX [6] [] 0 [] [] [] []) (TabOK.nil _) mixed Try.func159 rfl (by kernel_rfl) rfl ?_
  show codeA _ _ _ _ _ _ _ _
  simp only [go_sem, ↓reduceIte, Nat.reduceEqDiff, Nat.reduceBEq, Nat.reduceAdd, Nat.reduceSub, Nat.reduceLeDiff, Nat.reduceMul, Nat.reduceLT, Try.results159]
  obtain ⟨h0, h1⟩ := hp
  refine loop_intro (fun j : Nat => [(3, .sl 0), (4, .int .i64 j), (1, .iptr [.int .i64 now, .ints p, .bools bs, .ints wt, .ints t])]) (fun j => [(0, .arr (.ints (tab j fun j => if ix bs (j : Int) = true then ix p (j : Int) else now)))]) 1 (fun j => j ≤ p.length) (fun j => p.length - j) 0 (Nat.zero_le _) (by omega) ?_ ?_
  · simp only [go_sem, ↓reduceIte, Nat.reduceEqDiff, Nat.reduceBEq, Nat.reduceAdd, Nat.reduceSub, Nat.reduceLeDiff, Nat.reduceMul, Nat.reduceLT]
    repeat' (first | refine fork_intro (fun hb => ?_) (fun hb => ?_) | refine partB_intro (fun hb => ?_) (fun hb => ?_) | refine And.intro ?_ ?_)
    all_goals first | exact True.intro | omega | with_reducible rfl | exact congrArg (AV.int _) (by omega) | (first | rfl)
  · intro j hj
    have hl : (tab j fun j => if ix bs (j : Int) = true then ix p (j : Int) else now).length = j := tab_len _ _
    have e := tab_succ j (fun j => if ix bs (j : Int) = true then ix p (j : Int) else now)
    simp only [go_sem, ↓reduceIte, Nat.reduceEqDiff, Nat.reduceBEq, Nat.reduceAdd, Nat.reduceSub, Nat.reduceLeDiff, Nat.reduceMul, Nat.reduceLT]
    refine fork_intro (fun hc => ?_) (fun hc => ?_)
    · refine ⟨by omega, partB_intro (fun hb => ?_) (fun hb => ?_)⟩
      · rw [if_pos hb] at e
        repeat' (first | refine fork_intro (fun hb => ?_) (fun hb => ?_) | refine partB_intro (fun hb => ?_) (fun hb => ?_) | refine And.intro ?_ ?_)
        all_goals first | exact True.intro | omega | with_reducible rfl | exact congrArg (AV.int _) (by omega) | (refine LoopEnd.intro (j + 1) (by first | omega) (by first | omega | (dsimp only; omega)) (by omega) ?_; simp only [go_sem, ↓reduceIte, Nat.reduceEqDiff, Nat.reduceBEq, Nat.reduceAdd, Nat.reduceSub, Nat.reduceLeDiff, Nat.reduceMul, Nat.reduceLT]; (repeat' (first | refine fork_intro (fun hb => ?_) (fun hb => ?_) | refine partB_intro (fun hb => ?_) (fun hb => ?_) | refine And.intro ?_ ?_)); all_goals first | exact True.intro | omega | with_reducible rfl | exact congrArg (AV.int _) (by omega) | (first | rw [e])) | (first | rw [e])
      · rw [if_neg (by rw [hb]; decide)] at e
        repeat' (first | refine fork_intro (fun hb => ?_) (fun hb => ?_) | refine partB_intro (fun hb => ?_) (fun hb => ?_) | refine And.intro ?_ ?_)
        all_goals first | exact True.intro | omega | with_reducible rfl | exact congrArg (AV.int _) (by omega) | (refine LoopEnd.intro (j + 1) (by first | omega) (by first | omega | (dsimp only; omega)) (by omega) ?_; simp only [go_sem, ↓reduceIte, Nat.reduceEqDiff, Nat.reduceBEq, Nat.reduceAdd, Nat.reduceSub, Nat.reduceLeDiff, Nat.reduceMul, Nat.reduceLT]; (repeat' (first | refine fork_intro (fun hb => ?_) (fun hb => ?_) | refine partB_intro (fun hb => ?_) (fun hb => ?_) | refine And.intro ?_ ?_)); all_goals first | exact True.intro | omega | with_reducible rfl | exact congrArg (AV.int _) (by omega) | (first | rw [e])) | (first | rw [e])
    · rw [show j = p.length by omega]
def t_grownS : Table := [(159, pureC g_grownS)]
theorem t_grownS_ok : TabOK Try.prog t_grownS := .cons Try.func159 (by kernel_rfl) (.pure (by intro args hp; unfold g_grownS at hp ⊢; split at hp <;> first | exact hp.elim | exact grownS_ok _ _ _ _ _ hp)) (.nil _)
attribute [go_sem] g_grownS_eq t_grownS
def g_speedS : List AV → Prop × AV
  | [.agg [.ints o, .rows d], .agg [.int .i64 now, .ints p, .bools bs, .ints wt, .ints t], .int .i64 a] => (FieldOK o d ∧ bs.length = d.length ∧ 0 ≤ a ∧ a < o.length, .int .i64 ((cN (fun j => !(ix bs (j : Int)) && decide (2520 * ix (ix d (j : Int)) a ≤ now)) d.length : Nat) : Int))
  | _ => (False, .undef)
theorem g_speedS_eq (o : List Int) (d : List (List Int)) (now : Int) (p : List Int) (bs : List Bool) (wt t : List Int) (a : Int) : g_speedS [.agg [.ints o, .rows d], .agg [.int .i64 now, .ints p, .bools bs, .ints wt, .ints t], .int .i64 a] = (FieldOK o d ∧ bs.length = d.length ∧ 0 ≤ a ∧ a < o.length, .int .i64 ((cN (fun j => !(ix bs (j : Int)) && decide (2520 * ix (ix d (j : Int)) a ≤ now)) d.length : Nat) : Int)) := (rfl)
theorem speedS_ok (o : List Int) (d : List (List Int)) (now : Int) (p : List Int) (bs : List Bool) (wt t : List Int) (a : Int) (hp : FieldOK o d ∧ bs.length = d.length ∧ 0 ≤ a ∧ a < o.length) : SpecOK Try.prog 162 [.agg [.ints o, .rows d], .agg [.int .i64 now, .ints p, .bools bs, .ints wt, .ints t], .int .i64 a] (.int .i64 ((cN (fun j => !(ix bs (j : Int)) && decide (2520 * ix (ix d (j : Int)) a ≤ now)) d.length : Nat) : Int)) [] := by
  refine fun_ok (C := []) (hint := hintX [] [] 0 [] [] [] []) (TabOK.nil _) mixed Try.func162 rfl (by kernel_rfl) rfl ?_
  show codeA _ _ _ _ _ _ _ _
  simp only [go_sem, ↓reduceIte, Nat.reduceEqDiff, Nat.reduceBEq, Nat.reduceAdd, Nat.reduceSub, Nat.reduceLeDiff, Nat.reduceMul, Nat.reduceLT, Try.results162]
  obtain ⟨hf, h1, h2, h3⟩ := hp
  have hm := hf.m7
  refine loop_intro (fun j : Nat => [(7, .int .i64 ((cN (fun j => !(ix bs (j : Int)) && decide (2520 * ix (ix d (j : Int)) a ≤ now)) j : Nat) : Int)), (8, .int .i64 j), (2, .int .i64 a), (3, .iptr [.ints o, .rows d]), (4, .iptr [.int .i64 now, .ints p, .bools bs, .ints wt, .ints t])]) (fun _ => []) 0 (fun j => j ≤ d.length) (fun j => d.length - j) 0 (Nat.zero_le _) (by omega) ?_ ?_
  · simp only [go_sem, ↓reduceIte, Nat.reduceEqDiff, Nat.reduceBEq, Nat.reduceAdd, Nat.reduceSub, Nat.reduceLeDiff, Nat.reduceMul, Nat.reduceLT]
    repeat' (first | refine fork_intro (fun hb => ?_) (fun hb => ?_) | refine partB_intro (fun hb => ?_) (fun hb => ?_) | refine And.intro ?_ ?_)
    all_goals first | exact True.intro | omega | with_reducible rfl | exact congrArg (AV.int _) (by omega) | (first | rfl)
  · intro j hj
    have hle := cN_le (fun j => !(ix bs (j : Int)) && decide (2520 * ix (ix d (j : Int)) a ≤ now)) j
    have e : cN (fun j => !(ix bs (j : Int)) && decide (2520 * ix (ix d (j : Int)) a ≤ now)) (j + 1) = cN (fun j => !(ix bs (j : Int)) && decide (2520 * ix (ix d (j : Int)) a ≤ now)) j + (if (!(ix bs (j : Int)) && decide (2520 * ix (ix d (j : Int)) a ≤ now)) = true then 1 else 0) := rfl
    simp only [go_sem, ↓reduceIte, Nat.reduceEqDiff, Nat.reduceBEq, Nat.reduceAdd, Nat.reduceSub, Nat.reduceLeDiff, Nat.reduceMul, Nat.reduceLT]
    refine fork_intro (fun hc => ?_) (fun hc => ?_)
    · have hr := ix_mem d (k := j) (by omega)
      have hl := hf.len _ hr
      have hd := hf.d99 _ hr _ (ix_memI (ix d (j : Int)) h2 (by omega))
      refine ⟨by omega, partB_intro (fun hb => ?_) (fun hb => ?_)⟩
      · rw [if_neg (by rw [hb]; simp)] at e
        repeat' (first | refine fork_intro (fun hb => ?_) (fun hb => ?_) | refine partB_intro (fun hb => ?_) (fun hb => ?_) | refine And.intro ?_ ?_)
        all_goals first | exact True.intro | omega | with_reducible rfl | exact congrArg (AV.int _) (by omega) | (refine LoopEnd.intro (j + 1) (by first | omega) (by first | omega | (dsimp only; omega)) (by omega) ?_; simp only [go_sem, ↓reduceIte, Nat.reduceEqDiff, Nat.reduceBEq, Nat.reduceAdd, Nat.reduceSub, Nat.reduceLeDiff, Nat.reduceMul, Nat.reduceLT]; (repeat' (first | refine fork_intro (fun hb => ?_) (fun hb => ?_) | refine partB_intro (fun hb => ?_) (fun hb => ?_) | refine And.intro ?_ ?_)); all_goals first | exact True.intro | omega | with_reducible rfl | exact congrArg (AV.int _) (by omega) | (first | rfl | exact congrArg (AV.int _) (by omega))) | (first | rfl | exact congrArg (AV.int _) (by omega))
      · refine ⟨by omega, by omega, by omega, fork_intro (fun hle2 => ?_) (fun hle2 => ?_)⟩
        · rw [if_pos (by rw [hb, decide_eq_true hle2]; rfl)] at e
          repeat' (first | refine fork_intro (fun hb => ?_) (fun hb => ?_) | refine partB_intro (fun hb => ?_) (fun hb => ?_) | refine And.intro ?_ ?_)
          all_goals first | exact True.intro | omega | with_reducible rfl | exact congrArg (AV.int _) (by omega) | (refine LoopEnd.intro (j + 1) (by first | omega) (by first | omega | (dsimp only; omega)) (by omega) ?_; simp only [go_sem, ↓reduceIte, Nat.reduceEqDiff, Nat.reduceBEq, Nat.reduceAdd, Nat.reduceSub, Nat.reduceLeDiff, Nat.reduceMul, Nat.reduceLT]; (repeat' (first | refine fork_intro (fun hb => ?_) (fun hb => ?_) | refine partB_intro (fun hb => ?_) (fun hb => ?_) | refine And.intro ?_ ?_)); all_goals first | exact True.intro | omega | with_reducible rfl | exact congrArg (AV.int _) (by omega) | (first | exact congrArg (AV.int _) (by omega))) | (first | exact congrArg (AV.int _) (by omega))
        · rw [if_neg (by rw [hb, decide_eq_false hle2]; simp)] at e
          repeat' (first | refine fork_intro (fun hb => ?_) (fun hb => ?_) | refine partB_intro (fun hb => ?_) (fun hb => ?_) | refine And.intro ?_ ?_)
          all_goals first | exact True.intro | omega | with_reducible rfl | exact congrArg (AV.int _) (by omega) | (refine LoopEnd.intro (j + 1) (by first | omega) (by first | omega | (dsimp only; omega)) (by omega) ?_; simp only [go_sem, ↓reduceIte, Nat.reduceEqDiff, Nat.reduceBEq, Nat.reduceAdd, Nat.reduceSub, Nat.reduceLeDiff, Nat.reduceMul, Nat.reduceLT]; (repeat' (first | refine fork_intro (fun hb => ?_) (fun hb => ?_) | refine partB_intro (fun hb => ?_) (fun hb => ?_) | refine And.intro ?_ ?_)); all_goals first | exact True.intro | omega | with_reducible rfl | exact congrArg (AV.int _) (by omega) | (first | exact congrArg (AV.int _) (by omega))) | (first | exact congrArg (AV.int _) (by omega))
    · rw [show j = d.length by omega]
def t_speedS : Table := [(162, pureC g_speedS)]
theorem t_speedS_ok : TabOK Try.prog t_speedS := .cons Try.func162 (by kernel_rfl) (.pure (by intro args hp; unfold g_speedS at hp ⊢; split at hp <;> first | exact hp.elim | exact speedS_ok _ _ _ _ _ _ _ _ hp)) (.nil _)
attribute [go_sem] g_speedS_eq t_speedS
def g_breakS : List AV → Prop × AV
  | [.agg [.ints o, .rows d], .agg [.int .i64 now, .ints p, .bools bs, .ints wt, .ints t]] => (FieldOK o d ∧ bs.length = d.length ∧ 0 ≤ now, .int .i64 (mn (brkL o d now bs) (-1)))
  | _ => (False, .undef)
theorem g_breakS_eq (o : List Int) (d : List (List Int)) (now : Int) (p : List Int) (bs : List Bool) (wt t : List Int) : g_breakS [.agg [.ints o, .rows d], .agg [.int .i64 now, .ints p, .bools bs, .ints wt, .ints t]] = (FieldOK o d ∧ bs.length = d.length ∧ 0 ≤ now, .int .i64 (mn (brkL o d now bs) (-1))) := (rfl)
theorem breakS_ok (o : List Int) (d : List (List Int)) (now : Int) (p : List Int) (bs : List Bool) (wt t : List Int) (hp : FieldOK o d ∧ bs.length = d.length ∧ 0 ≤ now) : SpecOK Try.prog 161 [.agg [.ints o, .rows d], .agg [.int .i64 now, .ints p, .bools bs, .ints wt, .ints t]] (.int .i64 (mn (brkL o d now bs) (-1))) [] := by
  refine fun_ok (C := []) (hint := hintX [] [] 0 [] [] [] []) (TabOK.nil _) mixed Try.func161 rfl (by kernel_rfl) rfl ?_
  show codeA _ _ _ _ _ _ _ _
  simp only [go_sem, ↓reduceIte, Nat.reduceEqDiff, Nat.reduceBEq, Nat.reduceAdd, Nat.reduceSub, Nat.reduceLeDiff, Nat.reduceMul, Nat.reduceLT, Try.results161]
  obtain ⟨hf, h1, h2⟩ := hp
  have hm := hf.m7
  have hn := hf.n7
  have hb := brk_is o d bs h2
  refine loop_intro (fun g : Nat × Int => [(5, .int .i64 g.2), (6, .int .i64 g.1), (2, .iptr [.ints o, .rows d]), (3, .iptr [.int .i64 now, .ints p, .bools bs, .ints wt, .ints t])]) (fun _ => []) 0 (fun g => g.1 ≤ d.length ∧ g.2 ≤ 249480 ∧ IsMn g.2 (brkP o d now bs g.1)) (fun g => d.length - g.1) (0, -1) ⟨Nat.zero_le _, by decide, IsMn.none.congr (fun c => by simp [brkP])⟩ (by omega) ?_ ?_
  · simp only [go_sem, ↓reduceIte, Nat.reduceEqDiff, Nat.reduceBEq, Nat.reduceAdd, Nat.reduceSub, Nat.reduceLeDiff, Nat.reduceMul, Nat.reduceLT]
    repeat' (first | refine fork_intro (fun hb => ?_) (fun hb => ?_) | refine partB_intro (fun hb => ?_) (fun hb => ?_) | refine And.intro ?_ ?_)
    all_goals first | exact True.intro | omega | with_reducible rfl | exact congrArg (AV.int _) (by omega) | (first | rfl)
  · rintro ⟨j, x⟩ ⟨hj, hx9, hx⟩
    simp only [go_sem, ↓reduceIte, Nat.reduceEqDiff, Nat.reduceBEq, Nat.reduceAdd, Nat.reduceSub, Nat.reduceLeDiff, Nat.reduceMul, Nat.reduceLT]
    refine fork_intro (fun hc => ?_) (fun hc => ?_)
    · have hr := ix_mem d (k := j) (by omega)
      have hl := hf.len _ hr
      refine loop_intro (fun g : Nat × Int => [(5, .int .i64 g.2), (7, .int .i64 g.1), (6, .int .i64 j), (2, .iptr [.ints o, .rows d]), (3, .iptr [.int .i64 now, .ints p, .bools bs, .ints wt, .ints t])]) (fun _ => []) 0 (fun g => g.1 ≤ o.length ∧ g.2 ≤ 249480 ∧ IsMn g.2 (fun c => brkP o d now bs j c ∨ ∃ a : Nat, a < g.1 ∧ ix bs (j : Int) = false ∧ now < c ∧ c = 2520 * ix (ix d (j : Int)) (a : Int))) (fun g => o.length - g.1) (0, x) ⟨Nat.zero_le _, hx9, hx.congr (fun c => by simp)⟩ (by omega) ?_ ?_
      · simp only [go_sem, ↓reduceIte, Nat.reduceEqDiff, Nat.reduceBEq, Nat.reduceAdd, Nat.reduceSub, Nat.reduceLeDiff, Nat.reduceMul, Nat.reduceLT]
        repeat' (first | refine fork_intro (fun hb => ?_) (fun hb => ?_) | refine partB_intro (fun hb => ?_) (fun hb => ?_) | refine And.intro ?_ ?_)
        all_goals first | exact True.intro | omega | with_reducible rfl | exact congrArg (AV.int _) (by omega) | (first | rfl)
      · rintro ⟨a, y⟩ ⟨ha, hy9, hy⟩
        simp only [go_sem, ↓reduceIte, Nat.reduceEqDiff, Nat.reduceBEq, Nat.reduceAdd, Nat.reduceSub, Nat.reduceLeDiff, Nat.reduceMul, Nat.reduceLT]
        refine fork_intro (fun hd => ?_) (fun hd => ?_)
        · have hd9 := hf.d99 _ hr _ (ix_mem (ix d (j : Int)) (k := a) (by omega))
          have hno : ¬ (ix bs (j : Int) = false ∧ now < 2520 * ix (ix d (j : Int)) (a : Int)) → IsMn y (fun c => brkP o d now bs j c ∨ ∃ a' : Nat, a' < a + 1 ∧ ix bs (j : Int) = false ∧ now < c ∧ c = 2520 * ix (ix d (j : Int)) (a' : Int)) := fun h => hy.congr (fun c => or_congr Iff.rfl ⟨fun ⟨a', h1, h2⟩ => ⟨a', by omega, h2⟩, fun ⟨a', h1, h2, h3, h4⟩ => by
            by_cases e : a' = a
            · subst e; exact (h ⟨h2, by omega⟩).elim
            · exact ⟨a', by omega, h2, h3, h4⟩⟩)
          have hyes : ix bs (j : Int) = false ∧ now < 2520 * ix (ix d (j : Int)) (a : Int) → IsMn (mnU y (2520 * ix (ix d (j : Int)) (a : Int))) (fun c => brkP o d now bs j c ∨ ∃ a' : Nat, a' < a + 1 ∧ ix bs (j : Int) = false ∧ now < c ∧ c = 2520 * ix (ix d (j : Int)) (a' : Int)) := fun h => hy.upd (by omega) (fun c => by
            rw [or_assoc]
            refine or_congr Iff.rfl ⟨fun ⟨a', h1, h2, h3, h4⟩ => ?_, fun h5 => ?_⟩
            · by_cases e : a' = a
              · subst e; exact .inr h4
              · exact .inl ⟨a', by omega, h2, h3, h4⟩
            · rcases h5 with ⟨a', h1, h2⟩ | rfl
              · exact ⟨a', by omega, h2⟩
              · exact ⟨a, by omega, h.1, h.2, rfl⟩)
          unfold mnU at hyes
          refine ⟨⟨by omega, by omega⟩, by omega, by omega, by omega, partB_intro (fun hs => ?_) (fun hs => ?_)⟩
          · have hz := hno (fun h => by rw [h.1] at hs; cases hs)
            repeat' (first | refine fork_intro (fun hb => ?_) (fun hb => ?_) | refine partB_intro (fun hb => ?_) (fun hb => ?_) | refine And.intro ?_ ?_)
            all_goals first | exact True.intro | omega | with_reducible rfl | exact congrArg (AV.int _) (by omega) | (refine LoopEnd.intro ((a + 1, y)) (by first | omega | (first | exact ⟨by omega, hy9, hz⟩)) (by first | omega | (dsimp only; omega)) (by omega) ?_; simp only [go_sem, ↓reduceIte, Nat.reduceEqDiff, Nat.reduceBEq, Nat.reduceAdd, Nat.reduceSub, Nat.reduceLeDiff, Nat.reduceMul, Nat.reduceLT]; (repeat' (first | refine fork_intro (fun hb => ?_) (fun hb => ?_) | refine partB_intro (fun hb => ?_) (fun hb => ?_) | refine And.intro ?_ ?_)); all_goals first | exact True.intro | omega | with_reducible rfl | exact congrArg (AV.int _) (by omega) | (first | rfl)) | (first | rfl)
          · refine fork_intro (fun hg => fork_intro (fun h4 => ?_) (fun h4 => fork_intro (fun h5 => ?_) (fun h5 => ?_))) (fun hg => ?_)
            · have hz := hyes ⟨hs, by omega⟩
              rw [if_pos (.inl h4)] at hz
              repeat' (first | refine fork_intro (fun hb => ?_) (fun hb => ?_) | refine partB_intro (fun hb => ?_) (fun hb => ?_) | refine And.intro ?_ ?_)
              all_goals first | exact True.intro | omega | with_reducible rfl | exact congrArg (AV.int _) (by omega) | (refine LoopEnd.intro ((a + 1, 2520 * ix (ix d (j : Int)) (a : Int))) (by first | omega | (first | exact ⟨by omega, by omega, hz⟩)) (by first | omega | (dsimp only; omega)) (by omega) ?_; simp only [go_sem, ↓reduceIte, Nat.reduceEqDiff, Nat.reduceBEq, Nat.reduceAdd, Nat.reduceSub, Nat.reduceLeDiff, Nat.reduceMul, Nat.reduceLT]; (repeat' (first | refine fork_intro (fun hb => ?_) (fun hb => ?_) | refine partB_intro (fun hb => ?_) (fun hb => ?_) | refine And.intro ?_ ?_)); all_goals first | exact True.intro | omega | with_reducible rfl | exact congrArg (AV.int _) (by omega) | (first | rfl)) | (first | rfl)
            · have hz := hyes ⟨hs, by omega⟩
              rw [if_pos (.inr h5)] at hz
              repeat' (first | refine fork_intro (fun hb => ?_) (fun hb => ?_) | refine partB_intro (fun hb => ?_) (fun hb => ?_) | refine And.intro ?_ ?_)
              all_goals first | exact True.intro | omega | with_reducible rfl | exact congrArg (AV.int _) (by omega) | (refine LoopEnd.intro ((a + 1, 2520 * ix (ix d (j : Int)) (a : Int))) (by first | omega | (first | exact ⟨by omega, by omega, hz⟩)) (by first | omega | (dsimp only; omega)) (by omega) ?_; simp only [go_sem, ↓reduceIte, Nat.reduceEqDiff, Nat.reduceBEq, Nat.reduceAdd, Nat.reduceSub, Nat.reduceLeDiff, Nat.reduceMul, Nat.reduceLT]; (repeat' (first | refine fork_intro (fun hb => ?_) (fun hb => ?_) | refine partB_intro (fun hb => ?_) (fun hb => ?_) | refine And.intro ?_ ?_)); all_goals first | exact True.intro | omega | with_reducible rfl | exact congrArg (AV.int _) (by omega) | (first | rfl)) | (first | rfl)
            · have hz := hyes ⟨hs, by omega⟩
              rw [if_neg (by omega)] at hz
              repeat' (first | refine fork_intro (fun hb => ?_) (fun hb => ?_) | refine partB_intro (fun hb => ?_) (fun hb => ?_) | refine And.intro ?_ ?_)
              all_goals first | exact True.intro | omega | with_reducible rfl | exact congrArg (AV.int _) (by omega) | (refine LoopEnd.intro ((a + 1, y)) (by first | omega | (first | exact ⟨by omega, hy9, hz⟩)) (by first | omega | (dsimp only; omega)) (by omega) ?_; simp only [go_sem, ↓reduceIte, Nat.reduceEqDiff, Nat.reduceBEq, Nat.reduceAdd, Nat.reduceSub, Nat.reduceLeDiff, Nat.reduceMul, Nat.reduceLT]; (repeat' (first | refine fork_intro (fun hb => ?_) (fun hb => ?_) | refine partB_intro (fun hb => ?_) (fun hb => ?_) | refine And.intro ?_ ?_)); all_goals first | exact True.intro | omega | with_reducible rfl | exact congrArg (AV.int _) (by omega) | (first | rfl)) | (first | rfl)
            · have hz := hno (fun h => by omega)
              repeat' (first | refine fork_intro (fun hb => ?_) (fun hb => ?_) | refine partB_intro (fun hb => ?_) (fun hb => ?_) | refine And.intro ?_ ?_)
              all_goals first | exact True.intro | omega | with_reducible rfl | exact congrArg (AV.int _) (by omega) | (refine LoopEnd.intro ((a + 1, y)) (by first | omega | (first | exact ⟨by omega, hy9, hz⟩)) (by first | omega | (dsimp only; omega)) (by omega) ?_; simp only [go_sem, ↓reduceIte, Nat.reduceEqDiff, Nat.reduceBEq, Nat.reduceAdd, Nat.reduceSub, Nat.reduceLeDiff, Nat.reduceMul, Nat.reduceLT]; (repeat' (first | refine fork_intro (fun hb => ?_) (fun hb => ?_) | refine partB_intro (fun hb => ?_) (fun hb => ?_) | refine And.intro ?_ ?_)); all_goals first | exact True.intro | omega | with_reducible rfl | exact congrArg (AV.int _) (by omega) | (first | rfl)) | (first | rfl)
        · have ea : a = o.length := by omega
          subst ea
          have hz : IsMn y (brkP o d now bs (j + 1)) := hy.congr (fun c => by
            unfold brkP
            constructor
            · rintro (⟨j', h1, h2⟩ | ⟨a', h1, h2⟩)
              · exact ⟨j', by omega, h2⟩
              · exact ⟨j, by omega, a', h1, h2⟩
            · rintro ⟨j', h1, h2⟩
              by_cases e : j' = j
              · subst e; exact .inr h2
              · exact .inl ⟨j', by omega, h2⟩)
          repeat' (first | refine fork_intro (fun hb => ?_) (fun hb => ?_) | refine partB_intro (fun hb => ?_) (fun hb => ?_) | refine And.intro ?_ ?_)
          all_goals first | exact True.intro | omega | with_reducible rfl | exact congrArg (AV.int _) (by omega) | (refine LoopEnd.intro ((j + 1, y)) (by first | omega | (first | exact ⟨by omega, hy9, hz⟩)) (by first | omega | (dsimp only; omega)) (by omega) ?_; simp only [go_sem, ↓reduceIte, Nat.reduceEqDiff, Nat.reduceBEq, Nat.reduceAdd, Nat.reduceSub, Nat.reduceLeDiff, Nat.reduceMul, Nat.reduceLT]; (repeat' (first | refine fork_intro (fun hb => ?_) (fun hb => ?_) | refine partB_intro (fun hb => ?_) (fun hb => ?_) | refine And.intro ?_ ?_)); all_goals first | exact True.intro | omega | with_reducible rfl | exact congrArg (AV.int _) (by omega) | (first | rfl)) | (first | rfl)
    · have ej : j = d.length := by omega
      subst ej
      exact congrArg (AV.int _) (hx.unique hb)
def t_breakS : Table := [(161, pureC g_breakS)]
theorem t_breakS_ok : TabOK Try.prog t_breakS := .cons Try.func161 (by kernel_rfl) (.pure (by intro args hp; unfold g_breakS at hp ⊢; split at hp <;> first | exact hp.elim | exact breakS_ok _ _ _ _ _ _ _ hp)) (.nil _)
attribute [go_sem] g_breakS_eq t_breakS
def g_earlierS : List AV → Prop × AV
  | [.agg [.int .i64 now, .ints p, .bools bs, .ints wt, .ints t], .int .i64 a, .int .i64 b] => ((0 ≤ a ∧ a < t.length) ∧ 0 ≤ b ∧ b < t.length, .bool (decide (ix t a < ix t b ∨ (ix t a = ix t b ∧ a < b))))
  | _ => (False, .undef)
theorem g_earlierS_eq (now : Int) (p : List Int) (bs : List Bool) (wt t : List Int) (a b : Int) : g_earlierS [.agg [.int .i64 now, .ints p, .bools bs, .ints wt, .ints t], .int .i64 a, .int .i64 b] = ((0 ≤ a ∧ a < t.length) ∧ 0 ≤ b ∧ b < t.length, .bool (decide (ix t a < ix t b ∨ (ix t a = ix t b ∧ a < b)))) := (rfl)
theorem earlierS_ok (now : Int) (p : List Int) (bs : List Bool) (wt t : List Int) (a b : Int) (hp : (0 ≤ a ∧ a < t.length) ∧ 0 ≤ b ∧ b < t.length) : SpecOK Try.prog 147 [.agg [.int .i64 now, .ints p, .bools bs, .ints wt, .ints t], .int .i64 a, .int .i64 b] (.bool (decide (ix t a < ix t b ∨ (ix t a = ix t b ∧ a < b)))) [] := by
  refine fun_ok (C := []) (hint := hintX [] [] 0 [] [] [] []) (TabOK.nil _) mixed Try.func147 rfl (by kernel_rfl) rfl ?_
  show codeA _ _ _ _ _ _ _ _
  simp only [go_sem, ↓reduceIte, Nat.reduceEqDiff, Nat.reduceBEq, Nat.reduceAdd, Nat.reduceSub, Nat.reduceLeDiff, Nat.reduceMul, Nat.reduceLT, Try.results147]
  obtain ⟨⟨h0, h1⟩, h2, h3⟩ := hp
  repeat' (first | refine fork_intro (fun hb => ?_) (fun hb => ?_) | refine partB_intro (fun hb => ?_) (fun hb => ?_) | refine And.intro ?_ ?_)
  all_goals first | exact True.intro | omega | with_reducible rfl | exact congrArg (AV.int _) (by omega) | (first | rfl | simp [*] | (simp; omega))
def t_earlierS : Table := [(147, pureC g_earlierS)]
theorem t_earlierS_ok : TabOK Try.prog t_earlierS := .cons Try.func147 (by kernel_rfl) (.pure (by intro args hp; unfold g_earlierS at hp ⊢; split at hp <;> first | exact hp.elim | exact earlierS_ok _ _ _ _ _ _ _ hp)) (.nil _)
attribute [go_sem] g_earlierS_eq t_earlierS
def g_movingS : List AV → Prop × AV
  | [.agg [.int .i64 now, .ints p, .bools bs, .ints wt, .ints t]] => (bs.length ≤ 1000, .bool (decide (∃ j, j < bs.length ∧ ix bs (j : Int) = false)))
  | _ => (False, .undef)
theorem g_movingS_eq (now : Int) (p : List Int) (bs : List Bool) (wt t : List Int) : g_movingS [.agg [.int .i64 now, .ints p, .bools bs, .ints wt, .ints t]] = (bs.length ≤ 1000, .bool (decide (∃ j, j < bs.length ∧ ix bs (j : Int) = false))) := (rfl)
theorem movingS_ok (now : Int) (p : List Int) (bs : List Bool) (wt t : List Int) (hp : bs.length ≤ 1000) : SpecOK Try.prog 126 [.agg [.int .i64 now, .ints p, .bools bs, .ints wt, .ints t]] (.bool (decide (∃ j, j < bs.length ∧ ix bs (j : Int) = false))) [] := by
  refine fun_ok (C := []) (hint := hintX [] [] 0 [] [] [] []) (TabOK.nil _) mixed Try.func126 rfl (by kernel_rfl) rfl ?_
  show codeA _ _ _ _ _ _ _ _
  simp only [go_sem, ↓reduceIte, Nat.reduceEqDiff, Nat.reduceBEq, Nat.reduceAdd, Nat.reduceSub, Nat.reduceLeDiff, Nat.reduceMul, Nat.reduceLT, Try.results126]
  refine loop_intro (fun j : Nat => [(3, .int .i64 j), (1, .iptr [.int .i64 now, .ints p, .bools bs, .ints wt, .ints t])]) (fun _ => []) 0 (fun j => j ≤ bs.length ∧ ∀ k, k < j → ix bs (k : Int) = true) (fun j => bs.length - j) 0 ⟨Nat.zero_le _, fun k hk => by omega⟩ (by omega) ?_ ?_
  · simp only [go_sem, ↓reduceIte, Nat.reduceEqDiff, Nat.reduceBEq, Nat.reduceAdd, Nat.reduceSub, Nat.reduceLeDiff, Nat.reduceMul, Nat.reduceLT]
    repeat' (first | refine fork_intro (fun hb => ?_) (fun hb => ?_) | refine partB_intro (fun hb => ?_) (fun hb => ?_) | refine And.intro ?_ ?_)
    all_goals first | exact True.intro | omega | with_reducible rfl | exact congrArg (AV.int _) (by omega) | (first | rfl)
  · rintro j ⟨hj, ht⟩
    simp only [go_sem, ↓reduceIte, Nat.reduceEqDiff, Nat.reduceBEq, Nat.reduceAdd, Nat.reduceSub, Nat.reduceLeDiff, Nat.reduceMul, Nat.reduceLT]
    refine fork_intro (fun hc => ?_) (fun hc => ?_)
    · refine ⟨by omega, partB_intro (fun hb => ?_) (fun hb => ?_)⟩
      · have ht2 : ∀ k, k < j + 1 → ix bs (k : Int) = true := fun k hk => by
          by_cases e : k = j
          · subst e; exact hb
          · exact ht k (by omega)
        repeat' (first | refine fork_intro (fun hb => ?_) (fun hb => ?_) | refine partB_intro (fun hb => ?_) (fun hb => ?_) | refine And.intro ?_ ?_)
        all_goals first | exact True.intro | omega | with_reducible rfl | exact congrArg (AV.int _) (by omega) | (refine LoopEnd.intro (j + 1) (by first | omega | (first | exact ⟨by omega, ht2⟩)) (by first | omega | (dsimp only; omega)) (by omega) ?_; simp only [go_sem, ↓reduceIte, Nat.reduceEqDiff, Nat.reduceBEq, Nat.reduceAdd, Nat.reduceSub, Nat.reduceLeDiff, Nat.reduceMul, Nat.reduceLT]; (repeat' (first | refine fork_intro (fun hb => ?_) (fun hb => ?_) | refine partB_intro (fun hb => ?_) (fun hb => ?_) | refine And.intro ?_ ?_)); all_goals first | exact True.intro | omega | with_reducible rfl | exact congrArg (AV.int _) (by omega) | (first | rfl)) | (first | rfl)
      · rw [decide_eq_true ⟨j, by omega, hb⟩]
    · rw [decide_eq_false (fun ⟨k, h1, h2⟩ => by rw [ht k (by omega)] at h2; cases h2)]
def t_movingS : Table := [(126, pureC g_movingS)]
theorem t_movingS_ok : TabOK Try.prog t_movingS := .cons Try.func126 (by kernel_rfl) (.pure (by intro args hp; unfold g_movingS at hp ⊢; split at hp <;> first | exact hp.elim | exact movingS_ok _ _ _ _ _ hp)) (.nil _)
attribute [go_sem] g_movingS_eq t_movingS
end Go.Proofs.Ytibomnplkclkmaa
