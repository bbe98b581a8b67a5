/- Serving: what the law asks. -/
import Derived.Test.YteefjdbdknkcjaaFA
import Derived.Test.YteefjdbdknkcjaaEA
import Derived.Test.YteefjdbdknkcjaaA9
import Derived.Test.YteefjdbdknkcjaaA16
import Derived.Test.YteefjdbdknkcjaaA21
import Derived.Test.YteefjdbdknkcjaaPlD
namespace Go.Proofs.Yteefjdbdknkcjaa
open Go.Vc
set_option maxRecDepth 100000
set_option maxHeartbeats 1600000
set_option linter.unusedSimpArgs false
set_option linter.unusedVariables false

theorem mem_srtd {xs : List Int} {k : Nat} {x : Int} : x ∈ srtd xs k ↔ x ∈ xs ∧ -1 ≤ x ∧ x < (k : Int) - 1 := by
  unfold srtd
  rw [List.mem_filter, List.mem_map]
  constructor
  · rintro ⟨⟨q, hq, rfl⟩, h⟩
    have := List.mem_range.1 hq
    exact ⟨of_decide_eq_true h, by omega, by omega⟩
  · rintro ⟨h, h1, h2⟩
    exact ⟨⟨(x + 1).toNat, List.mem_range.2 (by omega), by omega⟩, decide_eq_true h⟩
theorem up_srtd (xs : List Int) : ∀ k, Up (srtd xs k)
  | 0 => List.Pairwise.nil
  | k + 1 => by
    rw [srtd_succ]
    refine List.pairwise_append.2 ⟨up_srtd xs k, ?_, fun a ha b hb => ?_⟩
    · split
      · exact List.pairwise_singleton _ _
      · exact List.Pairwise.nil
    · have h1 := (mem_srtd.1 ha).2.2
      split at hb
      · simp at hb; omega
      · cases hb
theorem srtd_put {S : List Int} {a : Int} (hu : Up S) (hb : ∀ x ∈ S, 0 ≤ x ∧ x < 1000) (ha : 0 ≤ a ∧ a < 1000) : srtd (a :: S) 1002 = putF S a :=
  up_ext (up_srtd _ _) (up_putF hu) (fun x => by
    rw [mem_srtd, mem_putF, List.mem_cons]
    constructor
    · exact fun h => h.1
    · intro h
      refine ⟨h, ?_⟩
      rcases h with rfl | h
      · omega
      · have := hb x h; omega)
theorem open_rng {o : List Int} {d : List (List Int)} {S : List Int} (h : OpenOK o d S) {x : Int} (hx : x ∈ S) : 0 ≤ x ∧ x < o.length := by
  obtain ⟨k, hk, rfl⟩ := mem_ix hx
  exact h.xin k hk
theorem opened_put {o : List Int} {d : List (List Int)} {S : List Int} {a : Int} (hl : S.length ≤ 1048576000) (hg : opened o d S = true) (ha : 0 ≤ a ∧ a < o.length) : opened o d (putF S a) = true := by
  have h := opened_iff hl hg
  have hu := opened_up hg
  have hm : ∀ x ∈ putF S a, 0 ≤ x ∧ x ≤ (o.length : Int) - 1 := fun x hx => by
    rcases mem_putF.1 hx with rfl | hx
    · omega
    · have := open_rng h hx; omega
  have hr := up_ris (up_putF (n := a) hu) hm
  have hp : 0 < (putF S a).length := List.length_pos_iff.2 (fun e => by have : a ∈ putF S a := mem_putF.2 (Or.inl rfl); rw [e] at this; cases this)
  simp only [opened, Bool.and_eq_true, decide_eq_true_eq] at hg ⊢
  exact ⟨hg.1, hr, by omega⟩
theorem near_put {row S : List Int} {a : Int} (h : 0 < S.length) : near row (putF S a) ≤ near row S := near_mono h (fun x hx => ⟨x, mem_putF.2 (Or.inr hx), Int.le_refl _⟩)
theorem svc_put {d : List (List Int)} {S : List Int} {a : Int} (h : 0 < S.length) : svc d (putF S a) ≤ svc d S := sumN_mono (fun i _ => near_put h)
theorem far_put {d : List (List Int)} {S : List Int} {a : Int} (h : 0 < S.length) : far d (putF S a) ≤ far d S := by
  have h0 := (maxF_le (tab d.length fun i => near (ix d (i : Int)) S) 0 _).1 (Int.le_refl _)
  refine (maxF_le _ _ _).2 ⟨h0.1, fun x hx => ?_⟩
  obtain ⟨i, hi, rfl⟩ := mem_tab.1 hx
  have h1 := h0.2 (near (ix d (i : Int)) S) (mem_tab.2 ⟨i, hi, rfl⟩)
  have h2 := near_put (row := ix d (i : Int)) (a := a) h
  unfold far
  omega
theorem pay_put {o S : List Int} {a : Int} (h : a ∉ S) : pay o (putF S a) = pay o S + ix o a := by
  rw [pay_sumL, pay_sumL, sumL_put h]; omega
theorem groups_has {d : List (List Int)} {S : List Int} {k i : Nat} (hk : k < S.length) (hi : i < d.length) : decide ((i : Int) ∈ ix (groupsL d S d.length) (k : Int)) = decide (ix S (k : Int) = srv (ix d (i : Int)) S) := by
  unfold groupsL
  rw [tab_ix hk]
  refine decide_eq_decide.2 ⟨fun h => ?_, fun h => ?_⟩
  · obtain ⟨j, hj, e, ej⟩ := mem_sel.1 h
    have : j = i := by omega
    subst this
    exact (of_decide_eq_true e).symm
  · exact mem_sel.2 ⟨i, hi, decide_eq_true h.symm, rfl⟩
theorem idle_has {d : List (List Int)} {S : List Int} {k : Nat} (hk : k < S.length) : decide (ix S (k : Int) ∈ idleL d S) = decide (((ix (groupsL d S d.length) (k : Int)).length : Int) = 0) := by
  rw [groups_all, tab_ix hk]
  unfold idleL
  refine decide_eq_decide.2 ?_
  rw [List.mem_filter, decide_eq_true_eq]
  exact ⟨fun h => by omega, fun h => ⟨ix_mem S hk, by omega⟩⟩
theorem partB_dup {b p : Bool} {A B : Prop} (h : b = true → p = true) (ha : A) : partB b (partB p A B) A :=
  partB_intro (fun e => by rw [h e, partB_true]; exact ha) (fun _ => ha)
def g_lawFnServing : List AV → Prop × AV
  | [.bytes code] => (code.length ≤ 9223372036854775807, .bool true)
  | _ => (False, .undef)
theorem g_lawFnServing_eq (code : List UInt8) : g_lawFnServing [.bytes code] = (code.length ≤ 9223372036854775807, .bool true) := (rfl)
theorem lawFnServing_ok (code : List UInt8) (hp : code.length ≤ 9223372036854775807) : SpecOK Try.prog 3 [.bytes code] (.bool true) [] := by
  refine fun_ok (C := t_rBig ++ t_drawServed ++ t_servedByI ++ t_servedByS ++ t_rInts ++ t_serviceOfI ++ t_serviceOfS ++ t_payImp ++ t_paySpec ++ t_totalOfI ++ t_totalOfS ++ t_reachOfI ++ t_reachOfS ++ t_groupsI ++ t_groupsS ++ t_rTable ++ t_idleI ++ t_idleS ++ t_rHas ++ t_rSorted) (hint := hintX [3, 5, 25, 29, 337] [(4, [.frb 3, .cut [3, 4]]), (5, [.fz [5], .cut [3, 4, 5, 6]]), (8, [.cut [3, 4, 5, 6]]), (12, [.cut [3, 4, 5, 6, 9]]), (16, [.cut [3, 4, 5, 6, 9, 13]]), (20, [.cut [3, 4, 5, 6, 9, 13, 17]]), (24, [.cut [3, 4, 5, 6, 9, 13, 17, 21]]), (25, [.fz [25], .cut [3, 4, 5, 6, 9, 13, 17, 21, 25, 26]]), (28, [.cut [3, 4, 5, 6, 9, 13, 17, 21, 25]]), (29, [.fz [29], .cut [3, 4, 5, 6, 9, 13, 17, 21, 25, 29, 30]]), (59, [.drop [5, 6] 5]), (32, [.cut [3, 4, 5, 6, 9, 13, 17, 21, 25, 29]])] 0 [6, 1000006] [] [] []) ((((((((((((((((((((t_rBig_ok).append t_drawServed_ok).append t_servedByI_ok).append t_servedByS_ok).append t_rInts_ok).append t_serviceOfI_ok).append t_serviceOfS_ok).append t_payImp_ok).append t_paySpec_ok).append t_totalOfI_ok).append t_totalOfS_ok).append t_reachOfI_ok).append t_reachOfS_ok).append t_groupsI_ok).append t_groupsS_ok).append t_rTable_ok).append t_idleI_ok).append t_idleS_ok).append t_rHas_ok).append t_rSorted_ok) mixed Try.func3 rfl (by kernel_rfl) rfl ?_
  show codeA _ _ _ _ _ _ _ _
  simp only [go_sem, ↓reduceIte, Nat.reduceEqDiff, Nat.reduceBEq, Nat.reduceAdd, Nat.reduceSub, Nat.reduceLeDiff, Nat.reduceMul, Nat.reduceLT, Try.results3]
  refine ⟨hp, fork_intro (fun _ => trivial) (fun hc => ⟨by omega, fun z hz => ?_⟩)⟩
  obtain ⟨⟨b1, b2, b3⟩, b4⟩ := hz
  generalize z.xs = o at *
  generalize z.xss = d at *
  generalize z.ys = S at *
  have hpre : (o.length ≤ 1048576000 ∧ d.length ≤ 1048576000 ∧ ∀ x ∈ d, x.length ≤ 1048576000) ∧ S.length ≤ 1048576000 := ⟨⟨by omega, by omega, fun x hx => by have := b3 x hx; omega⟩, by omega⟩
  have hP : opened o d S = true → (good o d && ris 0 (o.length - 1) S) = true := fun h => by
    simp only [opened, Bool.and_eq_true] at h ⊢
    exact ⟨h.1, h.2.1⟩
  have hl1 : (bif opened o d S then servedL d S else []).length ≤ 1048576000 := by
    cases opened o d S <;> simp [servedL, tab_len] <;> omega
  have hl2 := groups_bd (o := o) (d := d) (set := S) hpre.2
  have hl2a : (bif opened o d S then groupsL d S d.length else []).length ≤ 1048576000 := by have := hl2.1; omega
  have hl2b : ∀ (x : List Int), (x ∈ bif opened o d S then groupsL d S d.length else []) → x.length ≤ 1048576000 := fun x hx => by have := hl2.2 x hx; omega
  have hl3 : (bif opened o d S then idleL d S else []).length ≤ 1048576000 := by
    cases opened o d S
    · simp
    · have := List.length_filter_le (fun s => decide ((clientsL d S s).length = 0)) S
      rw [cond_true]; unfold idleL; omega
  refine stop_intro ?_
  simp only [go_sem, ↓reduceIte, Nat.reduceEqDiff, Nat.reduceBEq, Nat.reduceAdd, Nat.reduceSub, Nat.reduceLeDiff, Nat.reduceMul, Nat.reduceLT]
  repeat' (first | exact hpre | exact hl1 | exact hl2a | exact hl2b | exact hl3 | apply partB_self | apply forkP_true | (with_reducible refine And.intro ?_ ?_))
  refine stop_intro ?_
  simp only [go_sem, ↓reduceIte, Nat.reduceEqDiff, Nat.reduceBEq, Nat.reduceAdd, Nat.reduceSub, Nat.reduceLeDiff, Nat.reduceMul, Nat.reduceLT]
  repeat' (first | exact hpre | exact hl1 | exact hl2a | exact hl2b | exact hl3 | apply partB_self | apply forkP_true | (with_reducible refine And.intro ?_ ?_))
  refine stop_intro ?_
  simp only [go_sem, ↓reduceIte, Nat.reduceEqDiff, Nat.reduceBEq, Nat.reduceAdd, Nat.reduceSub, Nat.reduceLeDiff, Nat.reduceMul, Nat.reduceLT]
  repeat' (first | exact hpre | exact hl1 | exact hl2a | exact hl2b | exact hl3 | apply partB_self | apply forkP_true | (with_reducible refine And.intro ?_ ?_))
  refine stop_intro ?_
  simp only [go_sem, ↓reduceIte, Nat.reduceEqDiff, Nat.reduceBEq, Nat.reduceAdd, Nat.reduceSub, Nat.reduceLeDiff, Nat.reduceMul, Nat.reduceLT]
  repeat' (first | exact hpre | exact hl1 | exact hl2a | exact hl2b | exact hl3 | apply partB_self | apply forkP_true | (with_reducible refine And.intro ?_ ?_))
  refine partB_dup hP ?_
  refine stop_intro ?_
  simp only [go_sem, ↓reduceIte, Nat.reduceEqDiff, Nat.reduceBEq, Nat.reduceAdd, Nat.reduceSub, Nat.reduceLeDiff, Nat.reduceMul, Nat.reduceLT]
  repeat' (first | exact hpre | exact hl1 | exact hl2a | exact hl2b | exact hl3 | apply partB_self | apply forkP_true | (with_reducible refine And.intro ?_ ?_))
  refine stop_intro ?_
  simp only [go_sem, ↓reduceIte, Nat.reduceEqDiff, Nat.reduceBEq, Nat.reduceAdd, Nat.reduceSub, Nat.reduceLeDiff, Nat.reduceMul, Nat.reduceLT]
  repeat' (first | exact hpre | exact hl1 | exact hl2a | exact hl2b | exact hl3 | apply partB_self | apply forkP_true | (with_reducible refine And.intro ?_ ?_))
  refine stop_intro ?_
  simp only [go_sem, ↓reduceIte, Nat.reduceEqDiff, Nat.reduceBEq, Nat.reduceAdd, Nat.reduceSub, Nat.reduceLeDiff, Nat.reduceMul, Nat.reduceLT]
  repeat' (first | exact hpre | exact hl1 | exact hl2a | exact hl2b | exact hl3 | apply partB_self | apply forkP_true | (with_reducible refine And.intro ?_ ?_))
  refine stop_intro ?_
  simp only [go_sem, ↓reduceIte, Nat.reduceEqDiff, Nat.reduceBEq, Nat.reduceAdd, Nat.reduceSub, Nat.reduceLeDiff, Nat.reduceMul, Nat.reduceLT]
  repeat' (first | exact hpre | exact hl1 | exact hl2a | exact hl2b | exact hl3 | apply partB_self | apply forkP_true | (with_reducible refine And.intro ?_ ?_))
  refine stop_intro ?_
  simp only [go_sem, ↓reduceIte, Nat.reduceEqDiff, Nat.reduceBEq, Nat.reduceAdd, Nat.reduceSub, Nat.reduceLeDiff, Nat.reduceMul, Nat.reduceLT]
  repeat' (first | exact hpre | exact hl1 | exact hl2a | exact hl2b | exact hl3 | apply partB_self | apply forkP_true | (with_reducible refine And.intro ?_ ?_))
  refine stop_intro ?_
  simp only [go_sem, ↓reduceIte, Nat.reduceEqDiff, Nat.reduceBEq, Nat.reduceAdd, Nat.reduceSub, Nat.reduceLeDiff, Nat.reduceMul, Nat.reduceLT]
  repeat' (first | exact hpre | exact hl1 | exact hl2a | exact hl2b | exact hl3 | apply partB_self | apply forkP_true | (with_reducible refine And.intro ?_ ?_))
  refine stop_intro ?_
  simp only [go_sem, ↓reduceIte, Nat.reduceEqDiff, Nat.reduceBEq, Nat.reduceAdd, Nat.reduceSub, Nat.reduceLeDiff, Nat.reduceMul, Nat.reduceLT]
  refine partB_intro (fun hg => ?_) (fun _ => trivial)
  have h := opened_iff hpre.2 hg
  have hpos := h.pos
  have hlen := h.len
  have hm := h.f.m7
  have hn := h.f.n7
  have hsl : (servedL d S).length = d.length := tab_len _ _
  have hgl : (groupsL d S d.length).length = S.length := tab_len _ _
  have hil : (idleL d S).length ≤ 1048576000 := by rw [hg, cond_true] at hl3; exact hl3
  have hLl : (tab d.length fun i => near (ix d (i : Int)) S).length = d.length := tab_len _ _
  have hglen : ∀ k : Nat, k < S.length → (ix (groupsL d S d.length) (k : Int)).length ≤ 7 := fun k hk => by
    unfold groupsL
    rw [tab_ix hk]
    have := sel_len (fun j => decide (srv (ix d (j : Int)) S = ix S (k : Int))) d.length
    omega
  rw [hg, hP hg, if_pos rfl]
  refine loop_intro (fun i : Nat => [(35, .int .i64 i), (34, .int .i64 (maxF ((tab d.length fun i => near (ix d (i : Int)) S).take i) 0)), (33, .int .i64 (sumN (fun i => near (ix d (i : Int)) S) i)), (3, .iptr [.ints o, .rows d]), (4, .ints S), (5, .ints (servedL d S)), (9, .int .i64 (svc d S)), (13, .int .i64 (pay o S)), (17, .int .i64 (total o d S)), (21, .int .i64 (far d S)), (25, .rows (groupsL d S d.length)), (29, .ints (idleL d S))]) (fun _ => []) 5 (fun i => i ≤ d.length) (fun i => d.length - i) 0 (by omega) (by omega) ?_ ?_
  · simp only [go_sem, ↓reduceIte, Nat.reduceEqDiff, Nat.reduceBEq, Nat.reduceAdd, Nat.reduceSub, Nat.reduceLeDiff, Nat.reduceMul, Nat.reduceLT]
    repeat' (first | refine fork_intro (fun hb => ?_) (fun hb => ?_) | refine partB_intro (fun hb => ?_) (fun hb => ?_) | refine And.intro ?_ ?_)
    all_goals first | exact True.intro | omega | with_reducible rfl | exact congrArg (AV.int _) (by omega) | (first | rfl)
  intro i hi
  simp only [go_sem, ↓reduceIte, Nat.reduceEqDiff, Nat.reduceBEq, Nat.reduceAdd, Nat.reduceSub, Nat.reduceLeDiff, Nat.reduceMul, Nat.reduceLT]
  refine fork_intro (fun hc => ?_) (fun hc => ?_)
  · have hin : i < d.length := by omega
    have es : ix (servedL d S) (i : Int) = srv (ix d (i : Int)) S := tab_ix hin
    have ex : ix (ix d (i : Int)) (srv (ix d (i : Int)) S) = near (ix d (i : Int)) S := rfl
    have hrow := h.f.d_len (k := (i : Int)) (by omega) (by omega)
    have hsr := open_rng h (srv_mem (ix d (i : Int)) hpos)
    have hs1 := h.svc (j := i + 1) hin
    have e1 : sumN (fun i => near (ix d (i : Int)) S) (i + 1) = sumN (fun i => near (ix d (i : Int)) S) i + near (ix d (i : Int)) S := rfl
    have e2 := maxF_take (tab d.length fun i => near (ix d (i : Int)) S) 0 (k := i) (by omega)
    rw [tab_ix hin] at e2
    rw [es, ex]
    refine ⟨by omega, by omega, by omega, by omega, fork_intro (fun hq => ?_) (fun hq => ?_)⟩
    all_goals
      refine loop_intro (fun k : Nat => [(36, .int .i64 (near (ix d (i : Int)) S)), (37, .int .i64 k), (35, .int .i64 i), (34, .int .i64 (maxF ((tab d.length fun i => near (ix d (i : Int)) S).take (i + 1)) 0)), (33, .int .i64 (sumN (fun i => near (ix d (i : Int)) S) (i + 1))), (3, .iptr [.ints o, .rows d]), (4, .ints S), (5, .ints (servedL d S)), (9, .int .i64 (svc d S)), (13, .int .i64 (pay o S)), (17, .int .i64 (total o d S)), (21, .int .i64 (far d S)), (25, .rows (groupsL d S d.length)), (29, .ints (idleL d S))]) (fun _ => []) 5 (fun k => k ≤ S.length) (fun k => S.length - k) 0 (by omega) (by omega) ?_ ?_
      · simp only [go_sem, ↓reduceIte, Nat.reduceEqDiff, Nat.reduceBEq, Nat.reduceAdd, Nat.reduceSub, Nat.reduceLeDiff, Nat.reduceMul, Nat.reduceLT]
        repeat' (first | refine fork_intro (fun hb => ?_) (fun hb => ?_) | refine partB_intro (fun hb => ?_) (fun hb => ?_) | refine And.intro ?_ ?_)
        all_goals first | exact True.intro | omega | with_reducible rfl | exact congrArg (AV.int _) (by omega) | (first | rfl)
      intro k hk
      simp only [go_sem, ↓reduceIte, Nat.reduceEqDiff, Nat.reduceBEq, Nat.reduceAdd, Nat.reduceSub, Nat.reduceLeDiff, Nat.reduceMul, Nat.reduceLT]
      refine fork_intro (fun hd => ?_) (fun hd => ?_)
      · have hik := h.xin k (by omega)
        have hnl := near_le (row := ix d (i : Int)) (ix_mem S (show k < S.length by omega))
        have hgm : decide ((i : Int) ∈ ix (groupsL d S d.length) (k : Int)) = decide (ix S (k : Int) = srv (ix d (i : Int)) S) := groups_has (by omega) hin
        have hgk := (hglen k (by omega))
        rw [es, hgm]
        refine ⟨by omega, by omega, by omega, fork_intro (fun hx => by omega) (fun _ => ⟨by omega, by omega, by omega, by omega, partB_self ?_⟩)⟩
        repeat' (first | refine fork_intro (fun hb => ?_) (fun hb => ?_) | refine partB_intro (fun hb => ?_) (fun hb => ?_) | refine And.intro ?_ ?_)
        all_goals first | exact True.intro | omega | with_reducible rfl | exact congrArg (AV.int _) (by omega) | (refine LoopEnd.intro (k + 1) (by first | omega) (by first | omega | (dsimp only; omega)) (by omega) ?_; simp only [go_sem, ↓reduceIte, Nat.reduceEqDiff, Nat.reduceBEq, Nat.reduceAdd, Nat.reduceSub, Nat.reduceLeDiff, Nat.reduceMul, Nat.reduceLT]; (repeat' (first | refine fork_intro (fun hb => ?_) (fun hb => ?_) | refine partB_intro (fun hb => ?_) (fun hb => ?_) | refine And.intro ?_ ?_)); all_goals first | exact True.intro | omega | with_reducible rfl | exact congrArg (AV.int _) (by omega) | (first | rfl)) | (first | rfl)
      · repeat' (first | refine fork_intro (fun hb => ?_) (fun hb => ?_) | refine partB_intro (fun hb => ?_) (fun hb => ?_) | refine And.intro ?_ ?_)
        all_goals first | exact True.intro | omega | with_reducible rfl | exact congrArg (AV.int _) (by omega) | (refine LoopEnd.intro (i + 1) (by first | omega) (by first | omega | (dsimp only; omega)) (by omega) ?_; simp only [go_sem, ↓reduceIte, Nat.reduceEqDiff, Nat.reduceBEq, Nat.reduceAdd, Nat.reduceSub, Nat.reduceLeDiff, Nat.reduceMul, Nat.reduceLT]; (repeat' (first | refine fork_intro (fun hb => ?_) (fun hb => ?_) | refine partB_intro (fun hb => ?_) (fun hb => ?_) | refine And.intro ?_ ?_)); all_goals first | exact True.intro | omega | with_reducible rfl | exact congrArg (AV.int _) (by omega) | (first | rfl)) | (first | rfl)
  · have hid : i = d.length := by omega
    subst hid
    have ef : maxF ((tab d.length fun i => near (ix d (i : Int)) S).take d.length) 0 = far d S := by rw [List.take_of_length_le (by omega)]; rfl
    have ev : sumN (fun i => near (ix d (i : Int)) S) d.length = svc d S := rfl
    refine loop_intro (fun k : Nat => [(38, .int .i64 k), (34, .int .i64 (far d S)), (33, .int .i64 (svc d S)), (3, .iptr [.ints o, .rows d]), (4, .ints S), (9, .int .i64 (svc d S)), (13, .int .i64 (pay o S)), (17, .int .i64 (total o d S)), (21, .int .i64 (far d S)), (25, .rows (groupsL d S d.length)), (29, .ints (idleL d S))]) (fun _ => []) 5 (fun k => k ≤ S.length) (fun k => S.length - k) 0 (by omega) (by omega) ?_ ?_
    · simp only [go_sem, ↓reduceIte, Nat.reduceEqDiff, Nat.reduceBEq, Nat.reduceAdd, Nat.reduceSub, Nat.reduceLeDiff, Nat.reduceMul, Nat.reduceLT]
      repeat' (first | refine fork_intro (fun hb => ?_) (fun hb => ?_) | refine partB_intro (fun hb => ?_) (fun hb => ?_) | refine And.intro ?_ ?_)
      all_goals first | exact True.intro | omega | with_reducible rfl | exact congrArg (AV.int _) (by omega) | (first | rfl | exact congrArg (AV.int .i64) ef)
    intro k hk
    simp only [go_sem, ↓reduceIte, Nat.reduceEqDiff, Nat.reduceBEq, Nat.reduceAdd, Nat.reduceSub, Nat.reduceLeDiff, Nat.reduceMul, Nat.reduceLT]
    refine fork_intro (fun hd => ?_) (fun hd => ?_)
    · have hgk := (hglen k (by omega))
      have hik : decide (ix S (k : Int) ∈ idleL d S) = decide (((ix (groupsL d S d.length) (k : Int)).length : Int) = 0) := idle_has (by omega)
      rw [hik]
      refine ⟨by omega, hil, by omega, partB_self ?_⟩
      repeat' (first | refine fork_intro (fun hb => ?_) (fun hb => ?_) | refine partB_intro (fun hb => ?_) (fun hb => ?_) | refine And.intro ?_ ?_)
      all_goals first | exact True.intro | omega | with_reducible rfl | exact congrArg (AV.int _) (by omega) | (refine LoopEnd.intro (k + 1) (by first | omega) (by first | omega | (dsimp only; omega)) (by omega) ?_; simp only [go_sem, ↓reduceIte, Nat.reduceEqDiff, Nat.reduceBEq, Nat.reduceAdd, Nat.reduceSub, Nat.reduceLeDiff, Nat.reduceMul, Nat.reduceLT]; (repeat' (first | refine fork_intro (fun hb => ?_) (fun hb => ?_) | refine partB_intro (fun hb => ?_) (fun hb => ?_) | refine And.intro ?_ ?_)); all_goals first | exact True.intro | omega | with_reducible rfl | exact congrArg (AV.int _) (by omega) | (first | rfl)) | (first | rfl)
    · have hsv := h.svc_bd
      have hpy := h.pay.bd (Nat.le_refl _)
      rw [List.take_length] at hpy
      refine forkP_true (forkP_true ⟨by omega, fork_intro (fun _ => ?_) (fun hx => absurd (by show pay o S + svc d S = _; omega) hx)⟩)
      refine loop_intro (fun a : Nat => [(39, .int .i64 a), (3, .iptr [.ints o, .rows d]), (4, .ints S), (9, .int .i64 (svc d S)), (13, .int .i64 (pay o S)), (21, .int .i64 (far d S))]) (fun _ => []) 5 (fun a => a ≤ o.length) (fun a => o.length - a) 0 (by omega) (by omega) ?_ ?_
      · simp only [go_sem, ↓reduceIte, Nat.reduceEqDiff, Nat.reduceBEq, Nat.reduceAdd, Nat.reduceSub, Nat.reduceLeDiff, Nat.reduceMul, Nat.reduceLT]
        repeat' (first | refine fork_intro (fun hb => ?_) (fun hb => ?_) | refine partB_intro (fun hb => ?_) (fun hb => ?_) | refine And.intro ?_ ?_)
        all_goals first | exact True.intro | omega | with_reducible rfl | exact congrArg (AV.int _) (by omega) | (first | rfl)
      intro a ha
      simp only [go_sem, ↓reduceIte, Nat.reduceEqDiff, Nat.reduceBEq, Nat.reduceAdd, Nat.reduceSub, Nat.reduceLeDiff, Nat.reduceMul, Nat.reduceLT]
      refine fork_intro (fun he => ?_) (fun he => ?_)
      · have ho9 := h.f.o99 _ (ix_mem o (show a < o.length by omega))
        refine ⟨by omega, fork_intro (fun hm' => ?_) (fun hm' => ?_)⟩
        · repeat' (first | refine fork_intro (fun hb => ?_) (fun hb => ?_) | refine partB_intro (fun hb => ?_) (fun hb => ?_) | refine And.intro ?_ ?_)
          all_goals first | exact True.intro | omega | with_reducible rfl | exact congrArg (AV.int _) (by omega) | (refine LoopEnd.intro (a + 1) (by first | omega) (by first | omega | (dsimp only; omega)) (by omega) ?_; simp only [go_sem, ↓reduceIte, Nat.reduceEqDiff, Nat.reduceBEq, Nat.reduceAdd, Nat.reduceSub, Nat.reduceLeDiff, Nat.reduceMul, Nat.reduceLT]; (repeat' (first | refine fork_intro (fun hb => ?_) (fun hb => ?_) | refine partB_intro (fun hb => ?_) (fun hb => ?_) | refine And.intro ?_ ?_)); all_goals first | exact True.intro | omega | with_reducible rfl | exact congrArg (AV.int _) (by omega) | (first | rfl)) | (first | rfl)
        · have hu := opened_up hg
          have ep : srtd ((a : Int) :: S) 1002 = putF S a := srtd_put hu (fun x hx => by have := open_rng h hx; omega) ⟨by omega, by omega⟩
          have hop := opened_put (a := (a : Int)) hpre.2 hg ⟨by omega, by omega⟩
          have hgp : (good o d && ris 0 (o.length - 1) (putF S a)) = true := by
            simp only [opened, Bool.and_eq_true] at hop ⊢
            exact ⟨hop.1, hop.2.1⟩
          have hsp := svc_put (d := d) (a := (a : Int)) hpos
          have hfp := far_put (d := d) (a := (a : Int)) hpos
          have hpp := pay_put (o := o) hm'
          have hle := putF_le (xs := S) (n := (a : Int))
          rw [ep, hop, hgp, if_pos rfl]
          refine ⟨by omega, by omega, ⟨hpre.1, by omega⟩, ⟨hpre.1, by omega⟩, ⟨hpre.1, by omega⟩, partB_tt (partB_tt (partB_tt (fork_intro (fun hx => ?_) (fun _ => fork_intro (fun hx => ?_) (fun _ => ⟨by omega, by omega, fork_intro (fun _ => ?_) (fun hx => absurd hpp hx)⟩)))))⟩
          · rw [cond_true] at hx; omega
          · rw [cond_true] at hx; omega
          · repeat' (first | refine fork_intro (fun hb => ?_) (fun hb => ?_) | refine partB_intro (fun hb => ?_) (fun hb => ?_) | refine And.intro ?_ ?_)
            all_goals first | exact True.intro | omega | with_reducible rfl | exact congrArg (AV.int _) (by omega) | (refine LoopEnd.intro (a + 1) (by first | omega) (by first | omega | (dsimp only; omega)) (by omega) ?_; simp only [go_sem, ↓reduceIte, Nat.reduceEqDiff, Nat.reduceBEq, Nat.reduceAdd, Nat.reduceSub, Nat.reduceLeDiff, Nat.reduceMul, Nat.reduceLT]; (repeat' (first | refine fork_intro (fun hb => ?_) (fun hb => ?_) | refine partB_intro (fun hb => ?_) (fun hb => ?_) | refine And.intro ?_ ?_)); all_goals first | exact True.intro | omega | with_reducible rfl | exact congrArg (AV.int _) (by omega) | (first | rfl)) | (first | rfl)
      · trivial
def t_lawFnServing : Table := [(3, pureC g_lawFnServing)]
theorem t_lawFnServing_ok : TabOK Try.prog t_lawFnServing := .cons Try.func3 (by kernel_rfl) (.pure (by intro args hp; unfold g_lawFnServing at hp ⊢; split at hp <;> first | exact hp.elim | exact lawFnServing_ok _ hp)) (.nil _)
attribute [go_sem] g_lawFnServing_eq t_lawFnServing
end Go.Proofs.Yteefjdbdknkcjaa
