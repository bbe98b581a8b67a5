/- Fields scaled: what the implementation does. -/
import Derived.Test.YtgcbdpehnonghaaSC
import Derived.Test.YtgcbdpehnonghaaXV
import Derived.Test.YtgcbdpehnonghaaPlQ
namespace Go.Proofs.Ytgcbdpehnonghaa
open Go.Vc
set_option maxRecDepth 100000
set_option maxHeartbeats 1600000
set_option linter.unusedSimpArgs false
set_option linter.unusedVariables false
theorem over_keep (b : Int) {x : List Int} {a : Nat} (h : a < x.length) (h0 : ix x (a : Int) = 0) : over (scl b x) x (a + 1) = over (scl b x) x a := by
  have e1 := row_step b h
  have e2 := over_ix (scl b x) x (scl_len b x).symm h
  have hl := over_len (scl b x) x (scl_len b x).symm (show a <= x.length by omega)
  rw [<- e1, h0, Int.zero_mul, <- h0, <- e2]
  exact set_self (by omega)
def g_scaleI : List AV -> Prop × AV × Heap
  | [.agg [.ints o, .rows d], .int .i64 n] => ((o.length <= 1048576000 /\ d.length <= 1048576000 /\ ∀ x ∈ d, x.length <= 1048576000) /\ RK .i64 n, .tup [.agg [.sl 1, .mt 2], .bool (sclB o d n)], [(1, .arr (.ints (bif sclB o d n then scl (min n 100) o else []))), (2, .mat (bif sclB o d n then d.map (scl (min n 100)) else []))])
  | _ => (False, .undef, [])
theorem g_scaleI_eq (o : List Int) (d : List (List Int)) (n : Int) : g_scaleI [.agg [.ints o, .rows d], .int .i64 n] = ((o.length <= 1048576000 /\ d.length <= 1048576000 /\ ∀ x ∈ d, x.length <= 1048576000) /\ RK .i64 n, .tup [.agg [.sl 1, .mt 2], .bool (sclB o d n)], [(1, .arr (.ints (bif sclB o d n then scl (min n 100) o else []))), (2, .mat (bif sclB o d n then d.map (scl (min n 100)) else []))]) := (rfl)
theorem scaleI_ok (o : List Int) (d : List (List Int)) (n : Int) (hp : (o.length <= 1048576000 /\ d.length <= 1048576000 /\ ∀ x ∈ d, x.length <= 1048576000) /\ RK .i64 n) : SpecOK Try.prog 18 [.agg [.ints o, .rows d], .int .i64 n] (.tup [.agg [.sl 1, .mt 2], .bool (sclB o d n)]) [(1, .arr (.ints (bif sclB o d n then scl (min n 100) o else []))), (2, .mat (bif sclB o d n then d.map (scl (min n 100)) else []))] := by
  refine fun_ok (C := t_isF ++ t_cloneI ++ t_copyL) (hint := hintX [4, 6, 21, 24] [(2, [.post, .upf 4 0 (.arr (.ints [])), .upf 4 1 (.mat [])]), (4, [.mv 0 0]), (6, [.mv 0 0]), (14, [.cut [6, 4, 5]]), (15, [.post, .drop [1, 2, 3] 1, .upf 4 0 (.arr (.ints [])), .upf 4 1 (.mat [])])] 0 [] [] [] []) (((t_isF_ok).append t_cloneI_ok).append t_copyL_ok) mixed Try.func18 rfl (by kernel_rfl) rfl ?_
  show codeA _ _ _ _ _ _ _ _
  simp only [go_sem, Try.results18]
  obtain ⟨hpre, hn⟩ := hp
  refine ⟨hpre, partB_intro (fun hg => fork_intro (fun h1 => ?_) (fun h1 => ?_)) (fun hg => ?_)⟩
  · have hB : sclB o d n = false := by unfold sclB; rw [decide_eq_false (by omega), Bool.false_and, Bool.and_false]
    rw [hB]
    exact ⟨rfl, rfl, rfl⟩
  · have hF := good_iff.1 hg
    have hn7 := hF.n7
    have hm7 := hF.m7
    have hB : sclB o d n = good (scl (min n 100) o) (d.map (scl (min n 100))) := by unfold sclB; rw [hg, decide_eq_true (by omega), Bool.true_and, Bool.true_and]
    rw [hB]
    generalize hb : min n 100 = b at *
    have hb1 : 1 <= b /\ b <= 100 := by omega
    refine ⟨by omega, ⟨by omega, hpre.2.2⟩, view_region (q := 3) (r := 1) (m := 2) rfl rfl rfl rfl (by omega) ?_⟩
    refine loop_intro (fun j : Nat => [(33, .int .i64 j), (32, .int .i64 ((d.length : Int) + 1)), (31, .vec (vwL 1 2 d.length)), (6, .bx 3 0), (4, .bx 0 0), (5, .bool false), (1, .int .i64 n)]) (fun j => [(0, .box [.nils, .nils]), (1, .arr (.ints (if j = 0 then o else scl b o))), (2, .mat (over (d.map (scl b)) d (j - 1))), (3, .box [.sl 1, .mt 2])]) 4 (fun j => j <= d.length + 1) (fun j => d.length + 1 - j) 0 (Nat.zero_le _) (Nat.zero_le _) ?_ ?_
    · simp only [go_sem, tr_vec, co_vec, over_zero]
      repeat' (first | refine fork_intro (fun hb => ?_) (fun hb => ?_) | refine partB_intro (fun hb => ?_) (fun hb => ?_) | refine And.intro ?_ ?_)
      all_goals first | exact True.intro | omega | with_reducible rfl | exact congrArg (AV.int _) (by omega) | (first | rfl | exact congrArg AV.vec (vwL_tr rfl (fun _ => rfl)))
    · intro j hj
      simp only [go_sem]
      refine fork_intro (fun hc => ?_) (fun hc => ?_)
      · have hjl : j < (vwL 1 2 d.length).length := by rw [vwL_len]; omega
        have hml := over_len (d.map (scl b)) d (by simp) (show j - 1 <= d.length by omega)
        rcases j with _ | p
        · refine pick_region (r := 1) (m := 2) (k := d.length) (j := 0) (y := .sl 1) rfl rfl rfl ?_
          simp only [go_sem]
          refine loop_intro (fun i : Nat => [(39, .int .i64 i), (38, .int .i64 o.length), (37, .sl 1), (8, .sl 1), (33, .int .i64 0), (32, .int .i64 ((d.length : Int) + 1)), (31, .vec (vwL 1 2 d.length)), (6, .bx 3 0), (4, .bx 0 0), (5, .bool false), (1, .int .i64 n)]) (fun i => [(0, .box [.nils, .nils]), (1, .arr (.ints (over (scl b o) o i))), (2, .mat d), (3, .box [.sl 1, .mt 2])]) 4 (fun i => i <= o.length) (fun i => o.length - i) 0 (Nat.zero_le _) (Nat.zero_le _) ?_ ?_
          · simp only [go_sem, tr_vec, co_vec, over_zero]
            repeat' (first | refine fork_intro (fun hb => ?_) (fun hb => ?_) | refine partB_intro (fun hb => ?_) (fun hb => ?_) | refine And.intro ?_ ?_)
            all_goals first | exact True.intro | omega | with_reducible rfl | exact congrArg (AV.int _) (by omega) | (first | rfl | exact congrArg AV.vec (vwL_tr rfl (fun _ => rfl)))
          · intro i hi
            have hol := over_len (scl b o) o (scl_len b o).symm hi
            simp only [go_sem, hb]
            refine fork_intro (fun hc2 => ?_) (fun hc2 => ?_)
            · have hil : i < o.length := by omega
              have hx := over_ix (scl b o) o (scl_len b o).symm hil
              have hx0 := hF.o99 _ (ix_mem o hil)
              have hxb := scl_bnd hb1 hx0
              have hst := row_step b hil
              rw [hx]
              refine ⟨by omega, fork_intro (fun h0 => ?_) (fun h0 => ?_)⟩
              · refine ⟨by omega, by omega, by omega, ?_⟩
                rw [hst]
                refine LoopEnd.intro (i + 1) ?_ ?_ (Nat.zero_le _) ?_ <;> (try omega)
                simp only [go_sem, tr_vec, co_vec]
                repeat' (first | refine fork_intro (fun hb => ?_) (fun hb => ?_) | refine partB_intro (fun hb => ?_) (fun hb => ?_) | refine And.intro ?_ ?_)
                all_goals first | exact True.intro | omega | with_reducible rfl | exact congrArg (AV.int _) (by omega) | (first | rfl | exact congrArg AV.vec (vwL_tr rfl (fun _ => rfl)))
              · have e0 := over_keep b hil (by omega)
                refine ⟨by omega, ?_⟩
                rw [<- e0]
                refine LoopEnd.intro (i + 1) ?_ ?_ (Nat.zero_le _) ?_ <;> (try omega)
                simp only [go_sem, tr_vec, co_vec]
                repeat' (first | refine fork_intro (fun hb => ?_) (fun hb => ?_) | refine partB_intro (fun hb => ?_) (fun hb => ?_) | refine And.intro ?_ ?_)
                all_goals first | exact True.intro | omega | with_reducible rfl | exact congrArg (AV.int _) (by omega) | (first | rfl | exact congrArg AV.vec (vwL_tr rfl (fun _ => rfl)))
            · have hie : i = o.length := by omega
              have hoe := over_end (scl b o) o (scl_len b o).symm
              refine ⟨by omega, ?_⟩
              rw [hie, hoe]
              refine LoopEnd.intro 1 ?_ ?_ (Nat.zero_le _) ?_ <;> (try omega)
              simp only [go_sem, tr_vec, co_vec, over_zero]
              repeat' (first | refine fork_intro (fun hb => ?_) (fun hb => ?_) | refine partB_intro (fun hb => ?_) (fun hb => ?_) | refine And.intro ?_ ?_)
              all_goals first | exact True.intro | omega | with_reducible rfl | exact congrArg (AV.int _) (by omega) | (first | rfl | exact congrArg AV.vec (vwL_tr rfl (fun _ => rfl)))
        · have hpl : p < d.length := by omega
          refine pick_region (r := 1) (m := 2) (k := d.length) (j := p + 1) (y := .mr 2 p) rfl rfl (by rw [vwL, List.getElem?_cons_succ, List.getElem?_map, List.getElem?_range hpl]; rfl) ?_
          have hxl := hF.len _ (ix_mem d hpl)
          have hop := over_ix (d.map (scl b)) d (by simp) hpl
          have hols := over_set (d.map (scl b)) d (by simp) hpl
          rw [ix_map _ _ hpl] at hols
          have hll := over_len (d.map (scl b)) d (by simp) (show p <= d.length by omega)
          rw [show p + 1 - 1 = p from rfl]
          simp only [go_sem]
          rw [hop, hxl]
          generalize hx : ix d (p : Int) = x at *
          generalize hM : over (d.map (scl b)) d p = M at *
          have hx99 : ∀ y ∈ x, 0 <= y /\ y <= 99 := by rw [<- hx]; exact hF.d99 _ (ix_mem d hpl)
          have e0 : M.set p x = M := by rw [<- hop]; exact set_self (by omega)
          refine loop_intro (fun i : Nat => [(39, .int .i64 i), (38, .int .i64 o.length), (37, .mr 2 p), (8, .mr 2 p), (33, .int .i64 ((p + 1 : Nat) : Int)), (32, .int .i64 ((d.length : Int) + 1)), (31, .vec (vwL 1 2 d.length)), (6, .bx 3 0), (4, .bx 0 0), (5, .bool false), (1, .int .i64 n)]) (fun i => [(0, .box [.nils, .nils]), (1, .arr (.ints (scl b o))), (2, .mat (M.set p (over (scl b x) x i))), (3, .box [.sl 1, .mt 2])]) 4 (fun i => i <= o.length) (fun i => o.length - i) 0 (Nat.zero_le _) (Nat.zero_le _) ?_ ?_
          · simp only [go_sem, tr_vec, co_vec, over_zero, e0]
            repeat' (first | refine fork_intro (fun hb => ?_) (fun hb => ?_) | refine partB_intro (fun hb => ?_) (fun hb => ?_) | refine And.intro ?_ ?_)
            all_goals first | exact True.intro | omega | with_reducible rfl | exact congrArg (AV.int _) (by omega) | (first | rfl | exact congrArg AV.vec (vwL_tr rfl (fun _ => rfl)))
          · intro i hi
            have hml2 : (M.set p (over (scl b x) x i)).length = d.length := by rw [List.length_set]; exact hll
            have hmi : ix (M.set p (over (scl b x) x i)) (p : Int) = over (scl b x) x i := by rw [ix_set _ _ (by omega), if_pos rfl]
            have hol := over_len (scl b x) x (scl_len b x).symm (show i <= x.length by omega)
            simp only [go_sem, hb, hmi, List.set_set]
            refine fork_intro (fun hc2 => ?_) (fun hc2 => ?_)
            · have hil : i < x.length := by omega
              have hxi := over_ix (scl b x) x (scl_len b x).symm hil
              have hx0 := hx99 _ (ix_mem x hil)
              have hxb := scl_bnd hb1 hx0
              have hst := row_step b hil
              rw [hxi]
              refine ⟨by omega, fork_intro (fun h0 => ?_) (fun h0 => ?_)⟩
              · refine ⟨by omega, by omega, by omega, ?_⟩
                rw [hst]
                refine LoopEnd.intro (i + 1) ?_ ?_ (Nat.zero_le _) ?_ <;> (try omega)
                simp only [go_sem, tr_vec, co_vec]
                repeat' (first | refine fork_intro (fun hb => ?_) (fun hb => ?_) | refine partB_intro (fun hb => ?_) (fun hb => ?_) | refine And.intro ?_ ?_)
                all_goals first | exact True.intro | omega | with_reducible rfl | exact congrArg (AV.int _) (by omega) | (first | rfl | exact congrArg AV.vec (vwL_tr rfl (fun _ => rfl)))
              · have e1 := over_keep b hil (by omega)
                refine ⟨by omega, ?_⟩
                rw [<- e1]
                refine LoopEnd.intro (i + 1) ?_ ?_ (Nat.zero_le _) ?_ <;> (try omega)
                simp only [go_sem, tr_vec, co_vec]
                repeat' (first | refine fork_intro (fun hb => ?_) (fun hb => ?_) | refine partB_intro (fun hb => ?_) (fun hb => ?_) | refine And.intro ?_ ?_)
                all_goals first | exact True.intro | omega | with_reducible rfl | exact congrArg (AV.int _) (by omega) | (first | rfl | exact congrArg AV.vec (vwL_tr rfl (fun _ => rfl)))
            · have hie : i = x.length := by omega
              have hoe := over_end (scl b x) x (scl_len b x).symm
              refine ⟨by omega, ?_⟩
              rw [hie, hoe, hols]
              refine LoopEnd.intro (p + 1 + 1) ?_ ?_ (Nat.zero_le _) ?_ <;> (try omega)
              simp only [go_sem, tr_vec, co_vec]
              repeat' (first | refine fork_intro (fun hb => ?_) (fun hb => ?_) | refine partB_intro (fun hb => ?_) (fun hb => ?_) | refine And.intro ?_ ?_)
              all_goals first | exact True.intro | omega | with_reducible rfl | exact congrArg (AV.int _) (by omega) | (first | rfl | exact congrArg AV.vec (vwL_tr rfl (fun _ => rfl)))
      · refine stop_intro ?_
        have hje : j = d.length + 1 := by omega
        rw [hje, if_neg (by omega), Nat.add_sub_cancel]
        have hoe := over_end (d.map (scl b)) d (by simp)
        rw [hoe]
        simp only [go_sem]
        refine ⟨⟨by rw [scl_len]; omega, by rw [List.length_map]; omega, fun x hx => ?_⟩, partB_intro (fun h => ?_) (fun h => ?_)⟩
        · obtain ⟨y, hy, rfl⟩ := List.mem_map.1 hx
          rw [scl_len, hF.len y hy]; omega
        · rw [h]; exact ⟨rfl, rfl, rfl⟩
        · rw [h]; exact ⟨rfl, rfl, rfl⟩
  · have hB : sclB o d n = false := by unfold sclB; rw [hg, Bool.false_and]
    rw [hB]
    exact ⟨rfl, rfl, rfl⟩
def t_scaleI : Table := [(18, ownC g_scaleI)]
theorem t_scaleI_ok : TabOK Try.prog t_scaleI := .cons Try.func18 (by kernel_rfl) (.own (by intro args hp; unfold g_scaleI at hp ⊢; split at hp <;> first | exact hp.elim | exact ⟨scaleI_ok _ _ _ hp, rfl⟩)) (.nil _)
attribute [go_sem] g_scaleI_eq t_scaleI
end Go.Proofs.Ytgcbdpehnonghaa
