/- Fields scaled: what the reference does. -/
import Derived.Test.YtgcbdpehnonghaaA13
import Derived.Test.YtgcbdpehnonghaaA15
namespace Go.Proofs.Ytgcbdpehnonghaa
open Go.Vc
set_option maxRecDepth 100000
set_option maxHeartbeats 1600000
set_option linter.unusedSimpArgs false
set_option linter.unusedVariables false
def scl (by_ : Int) (xs : List Int) : List Int := xs.map fun x => x * by_
theorem scl_len (b : Int) (xs : List Int) : (scl b xs).length = xs.length := by simp [scl]
theorem scl_ix (b : Int) {xs : List Int} {k : Nat} (h : k < xs.length) : ix (scl b xs) (k : Int) = ix xs (k : Int) * b := by
  have e := ix_some (scl b xs) (k := k) (by rw [scl_len]; exact h)
  unfold scl at e
  rw [List.getElem?_map, ix_some xs h] at e
  exact (Option.some.inj e).symm
theorem scl_bnd {b x : Int} (hb : 1 <= b /\ b <= 100) (hx : 0 <= x /\ x <= 99) : 0 <= x * b /\ x * b <= 9900 := by
  obtain ⟨h1, h2⟩ := hx
  refine ⟨Int.mul_nonneg h1 (by omega), ?_⟩
  have := Int.mul_le_mul h2 hb.2 (by omega) (by omega)
  omega
/-- A row of the matrix, scaled up to a. -/
def sclR (b : Int) (a : Nat) (d : List (List Int)) : List (List Int) := d.map fun x => over (scl b x) x a
theorem sclR_len (b : Int) (a : Nat) (d : List (List Int)) : (sclR b a d).length = d.length := by simp [sclR]
theorem sclR_zero (b : Int) (d : List (List Int)) : sclR b 0 d = d := by simp [sclR, over_zero]
theorem sclR_end (b : Int) {m : Nat} {d : List (List Int)} (h : ∀ x ∈ d, x.length = m) : sclR b m d = d.map (scl b) := by
  unfold sclR
  refine List.map_congr_left (fun x hx => ?_)
  rw [<- h x hx]
  exact over_end _ _ (scl_len b x).symm
theorem sclR_ix (b : Int) (a : Nat) {d : List (List Int)} {i : Nat} (h : i < d.length) : ix (sclR b a d) (i : Int) = over (scl b (ix d (i : Int))) (ix d (i : Int)) a := by
  unfold sclR; rw [ix_map _ _ h]
theorem row_step (b : Int) {x : List Int} {a : Nat} (h : a < x.length) : (over (scl b x) x a).set a (ix x (a : Int) * b) = over (scl b x) x (a + 1) := by
  have := over_set (scl b x) x (scl_len b x).symm h
  rw [scl_ix b h] at this
  exact this
theorem mat_step (b : Int) {m : Nat} {d : List (List Int)} (hd : ∀ x ∈ d, x.length = m) {a i : Nat} (ha : a < m) (hi : i < d.length) :
    (over (sclR b (a + 1) d) (sclR b a d) i).set i ((over (scl b (ix d (i : Int))) (ix d (i : Int)) a).set a (ix (ix d (i : Int)) (a : Int) * b)) = over (sclR b (a + 1) d) (sclR b a d) (i + 1) := by
  have := over_set (sclR b (a + 1) d) (sclR b a d) (k := i) (by rw [sclR_len, sclR_len]) (by rw [sclR_len]; exact hi)
  rw [sclR_ix b _ hi] at this
  rw [row_step b (by rw [hd _ (ix_mem d hi)]; exact ha)]
  exact this
def sclB (o : List Int) (d : List (List Int)) (n : Int) : Bool := good o d && (decide (1 <= n) && good (scl (min n 100) o) (d.map (scl (min n 100))))
def g_scaleS : List AV -> Prop × AV
  | [.agg [.ints o, .rows d], .int .i64 n] => ((o.length <= 1048576000 /\ d.length <= 1048576000 /\ ∀ x ∈ d, x.length <= 1048576000) /\ RK .i64 n, .tup [.agg [.ints (bif sclB o d n then scl (min n 100) o else []), .rows (bif sclB o d n then d.map (scl (min n 100)) else [])], .bool (sclB o d n)])
  | _ => (False, .undef)
theorem g_scaleS_eq (o : List Int) (d : List (List Int)) (n : Int) : g_scaleS [.agg [.ints o, .rows d], .int .i64 n] = ((o.length <= 1048576000 /\ d.length <= 1048576000 /\ ∀ x ∈ d, x.length <= 1048576000) /\ RK .i64 n, .tup [.agg [.ints (bif sclB o d n then scl (min n 100) o else []), .rows (bif sclB o d n then d.map (scl (min n 100)) else [])], .bool (sclB o d n)]) := (rfl)
theorem scaleS_ok (o : List Int) (d : List (List Int)) (n : Int) (hp : (o.length <= 1048576000 /\ d.length <= 1048576000 /\ ∀ x ∈ d, x.length <= 1048576000) /\ RK .i64 n) : SpecOK Try.prog 17 [.agg [.ints o, .rows d], .int .i64 n] (.tup [.agg [.ints (bif sclB o d n then scl (min n 100) o else []), .rows (bif sclB o d n then d.map (scl (min n 100)) else [])], .bool (sclB o d n)]) [] := by
  refine fun_ok (C := t_l2Good ++ t_l2Own ++ t_least2) (hint := hintX [4, 6, 19] [] 0 [] [] [] []) (((t_l2Good_ok).append t_l2Own_ok).append t_least2_ok) mixed Try.func17 rfl (by kernel_rfl) rfl ?_
  show codeA _ _ _ _ _ _ _ _
  simp only [go_sem, Try.results17]
  obtain ⟨hpre, hn⟩ := hp
  refine ⟨hpre, partB_intro (fun hg => fork_intro (fun h1 => ?_) (fun h1 => ?_)) (fun hg => ?_)⟩
  · have hB : sclB o d n = false := by unfold sclB; rw [decide_eq_false (by omega), Bool.false_and, Bool.and_false]
    rw [hB]
    exact ⟨⟨rfl, rfl⟩, rfl⟩
  · have hF := good_iff.1 hg
    have hn7 := hF.n7
    have hm7 := hF.m7
    have hB : sclB o d n = good (scl (min n 100) o) (d.map (scl (min n 100))) := by unfold sclB; rw [hg, decide_eq_true (by omega), Bool.true_and, Bool.true_and]
    rw [hB]
    generalize hb : min n 100 = b at *
    have hb1 : 1 <= b /\ b <= 100 := by omega
    refine ⟨hpre, ?_⟩
    refine loop_intro (fun a : Nat => [(8, .int .i64 a), (7, .int .i64 b), (6, .bx 5 0), (4, .bx 0 0), (5, .bool false)]) (fun a => [(0, .box [.nils, .nils]), (2, .arr (.ints (over (scl b o) o a))), (4, .mat (sclR b a d)), (5, .box [.sl 2, .mt 4])]) 6 (fun a => a <= o.length) (fun a => o.length - a) 0 (Nat.zero_le _) (by omega) ?_ ?_
    · simp only [go_sem, over_zero, sclR_zero]
      repeat' (first | refine fork_intro (fun hb => ?_) (fun hb => ?_) | refine partB_intro (fun hb => ?_) (fun hb => ?_) | refine And.intro ?_ ?_)
      all_goals first | exact True.intro | omega | with_reducible rfl | exact congrArg (AV.int _) (by omega)
    · intro a ha
      have hol := over_len (scl b o) o (scl_len b o).symm ha
      have hml := sclR_len b a d
      simp only [go_sem]
      refine fork_intro (fun hc => ?_) (fun hc => ?_)
      · have hal : a < o.length := by omega
        have hx := over_ix (scl b o) o (scl_len b o).symm hal
        have hxb := scl_bnd hb1 (hF.o99 _ (ix_mem o hal))
        have hst := row_step b hal
        rw [hx]
        refine ⟨by omega, by omega, by omega, ?_⟩
        rw [hst]
        refine loop_intro (fun i : Nat => [(9, .int .i64 i), (8, .int .i64 a), (7, .int .i64 b), (6, .bx 5 0), (4, .bx 0 0), (5, .bool false)]) (fun i => [(0, .box [.nils, .nils]), (2, .arr (.ints (over (scl b o) o (a + 1)))), (4, .mat (over (sclR b (a + 1) d) (sclR b a d) i)), (5, .box [.sl 2, .mt 4])]) 6 (fun i => i <= d.length) (fun i => d.length - i) 0 (Nat.zero_le _) (by omega) ?_ ?_
        · simp only [go_sem, over_zero]
          repeat' (first | refine fork_intro (fun hb => ?_) (fun hb => ?_) | refine partB_intro (fun hb => ?_) (fun hb => ?_) | refine And.intro ?_ ?_)
          all_goals first | exact True.intro | omega | with_reducible rfl | exact congrArg (AV.int _) (by omega)
        · intro i hi
          have hll := over_len (sclR b (a + 1) d) (sclR b a d) (k := i) (by rw [sclR_len, sclR_len]) (by rw [sclR_len]; exact hi)
          rw [sclR_len] at hll
          simp only [go_sem]
          refine fork_intro (fun hc2 => ?_) (fun hc2 => ?_)
          · have hil : i < d.length := by omega
            have hy := over_ix (sclR b (a + 1) d) (sclR b a d) (k := i) (by rw [sclR_len, sclR_len]) (by rw [sclR_len]; exact hil)
            rw [sclR_ix b _ hil] at hy
            have hxl := hF.len _ (ix_mem d hil)
            have hx2 := over_ix (scl b (ix d (i : Int))) (ix d (i : Int)) (scl_len b _).symm (k := a) (by omega)
            have hol2 := over_len (scl b (ix d (i : Int))) (ix d (i : Int)) (scl_len b _).symm (k := a) (by omega)
            have hxb2 := scl_bnd hb1 (hF.d99 _ (ix_mem d hil) _ (ix_mem _ (k := a) (by omega)))
            have hms := mat_step b hF.len hal hil
            rw [hy, hx2]
            refine ⟨by omega, by omega, by omega, by omega, by omega, by omega, ?_⟩
            rw [hms]
            refine LoopEnd.intro (i + 1) ?_ ?_ (Nat.zero_le _) ?_ <;> (try omega)
            simp only [go_sem]
            repeat' (first | refine fork_intro (fun hb => ?_) (fun hb => ?_) | refine partB_intro (fun hb => ?_) (fun hb => ?_) | refine And.intro ?_ ?_)
            all_goals first | exact True.intro | omega | with_reducible rfl | exact congrArg (AV.int _) (by omega)
          · refine ⟨by omega, ?_⟩
            have hie : i = (sclR b a d).length := by rw [sclR_len]; omega
            have hoe := over_end (sclR b (a + 1) d) (sclR b a d) (by rw [sclR_len, sclR_len])
            rw [hie, hoe]
            refine LoopEnd.intro (a + 1) ?_ ?_ (Nat.zero_le _) ?_ <;> (try omega)
            simp only [go_sem]
            repeat' (first | refine fork_intro (fun hb => ?_) (fun hb => ?_) | refine partB_intro (fun hb => ?_) (fun hb => ?_) | refine And.intro ?_ ?_)
            all_goals first | exact True.intro | omega | with_reducible rfl | exact congrArg (AV.int _) (by omega)
      · have hae : a = o.length := by omega
        have hoe := over_end (scl b o) o (scl_len b o).symm
        rw [hae, hoe, sclR_end b hF.len]
        refine ⟨⟨by rw [scl_len]; omega, by rw [List.length_map]; omega, fun x hx => ?_⟩, partB_intro (fun h => ?_) (fun h => ?_)⟩
        · obtain ⟨y, hy, rfl⟩ := List.mem_map.1 hx
          rw [scl_len, hF.len y hy]; omega
        · rw [h]; exact ⟨⟨rfl, rfl⟩, rfl⟩
        · rw [h]; exact ⟨⟨rfl, rfl⟩, rfl⟩
  · have hB : sclB o d n = false := by unfold sclB; rw [hg, Bool.false_and]
    rw [hB]
    exact ⟨⟨rfl, rfl⟩, rfl⟩
def t_scaleS : Table := [(17, pureC g_scaleS)]
theorem t_scaleS_ok : TabOK Try.prog t_scaleS := .cons Try.func17 (by kernel_rfl) (.pure (by intro args hp; unfold g_scaleS at hp ⊢; split at hp <;> first | exact hp.elim | exact scaleS_ok _ _ _ hp)) (.nil _)
attribute [go_sem] g_scaleS_eq t_scaleS
end Go.Proofs.Ytgcbdpehnonghaa
