/- Texts joined: A23i A24i LFnGrowth PlKb. -/
import Derived.Test.YteefjdbdknkcjaaGreatJ9
import Derived.Test.YteefjdbdknkcjaaGreatVc
import Derived.ChangeSlices
namespace Go.Proofs.YteefjdbdknkcjaaGreat
open Go.Vc
set_option maxRecDepth 100000
set_option linter.unusedSimpArgs false
set_option linter.unusedVariables false

def g_setsI : List AV -> Prop × AV
  | [.int .i64 m] => (1 <= m /\ m <= 7, .rows (setsL m.toNat))
  | _ => (False, .undef)
theorem g_setsI_eq (m : Int) : g_setsI [.int .i64 m] = (1 <= m /\ m <= 7, .rows (setsL m.toNat)) := (rfl)
theorem setsI_ok (m : Int) (hp : 1 <= m /\ m <= 7) : SpecOK Tryz.prog 83 [.int .i64 m] (.rows (setsL m.toNat)) [] := by
  refine fun_ok (C := t_listI ++ t_sortC) (hint := hintX [3, 5, 16] [] 0 [136] [] [] []) ((t_listI_ok).append t_sortC_ok) mixed Tryz.func83 rfl (by kernel_rfl) rfl ?_
  show codeA _ _ _ _ _ _ _ _
  simp only [go_sem, Tryz.results83]
  obtain ⟨n, rfl⟩ : ∃ n : Nat, m = n := ⟨m.toNat, by omega⟩
  have hp7 := pow_7 n (by omega)
  simp only [Int.toNat_natCast]
  refine loop_intro (fun c : Nat => [(3, .sl 0), (4, .int .u64 ((c + 1 : Nat) : Int)), (0, .int .i64 n)]) (fun c => [(0, .arr (.rows (allK n c)))]) 1 (fun c => c <= 2 ^ n - 1) (fun c => 2 ^ n - 1 - c) 0 (by omega) (by omega) ?_ ?_
  · simp only [go_sem]
    repeat' (first | refine fork_intro (fun hb => ?_) (fun hb => ?_) | refine partB_intro (fun hb => ?_) (fun hb => ?_) | refine And.intro ?_ ?_)
    all_goals first | exact True.intro | omega | with_reducible rfl | exact congrArg (AV.int _) (by omega) | (first | rfl)
  · intro c hc
    have hcl : (allK n c).length = c := tab_len _ _
    have e := tab_succ c fun c => bagL (c + 1)
    have hw : IntKind.u64.wrap (((c + 1 : Nat) : Int) + 1) = ((c + 1 + 1 : Nat) : Int) := by
      have := wrap_nat (x := c + 1 + 1) (by omega)
      rw [<- this]; congr 1
    simp only [go_sem, v_addu, p_addu]
    rw [hw]
    refine ⟨by omega, fork_intro (fun h1 => ?_) (fun h1 => ?_)⟩
    · have hn2 : c + 1 < 2 ^ n := by have := hp7.2.2; omega
      refine ⟨⟨by omega, by omega⟩, by omega, ?_⟩
      refine LoopEnd.intro (c + 1) (by omega) (by omega) (by omega) ?_
      simp only [go_sem]
      exact congrArg AV.rows e.symm
    · have hce : c = 2 ^ n - 1 := by omega
      subst hce
      have hnd := allL_nodup (n := n) (by omega)
      have hme := fun (x : List Int) hx => (allL_mem (n := n) (by omega) (set := x) hx).2.1
      refine ⟨⟨by rw [hcl]; have := pow_ge2 n (by omega); omega, by omega, hnd, fun x hx => Nat.le_trans (hme x hx) (by omega)⟩, rfl⟩
def t_setsI : Table := [(83, pureC g_setsI)]
theorem t_setsI_ok : TabOK Tryz.prog t_setsI := .cons Tryz.func83 (by kernel_rfl) (.pure (by intro args hp; unfold g_setsI at hp ⊢; split at hp <;> first | exact hp.elim | exact setsI_ok _ hp)) (.nil _)
attribute [go_sem] g_setsI_eq t_setsI
end Go.Proofs.YteefjdbdknkcjaaGreat
namespace Go.Proofs.YteefjdbdknkcjaaGreat
open Go.Vc
set_option maxRecDepth 100000
set_option linter.unusedSimpArgs false
set_option linter.unusedVariables false

def valG (g : Nat) (o : List Int) (d : List (List Int)) (set : List Int) : Int := if g = 67 then total o d set else svc d set
def g_least : List AV -> Prop × AV
  | [.rows xss, .bnd g [.agg [.ints o, .rows d]]] => ((g = 67 \/ g = 71) /\ 0 < xss.length /\ xss.length <= 1048576000 /\ ∀ x ∈ xss, OpenOK o d x, .ints (bestT (valG g o d) xss xss.length))
  | _ => (False, .undef)
theorem g_least_eq (xss : List (List Int)) (g : Nat) (o : List Int) (d : List (List Int)) : g_least [.rows xss, .bnd g [.agg [.ints o, .rows d]]] = ((g = 67 \/ g = 71) /\ 0 < xss.length /\ xss.length <= 1048576000 /\ ∀ x ∈ xss, OpenOK o d x, .ints (bestT (valG g o d) xss xss.length)) := (rfl)
theorem least_ok (xss : List (List Int)) (g : Nat) (o : List Int) (d : List (List Int)) (hp : (g = 67 \/ g = 71) /\ 0 < xss.length /\ xss.length <= 1048576000 /\ ∀ x ∈ xss, OpenOK o d x) : SpecOK Tryz.prog 82 [.rows xss, .bnd g [.agg [.ints o, .rows d]]] (.ints (bestT (valG g o d) xss xss.length)) [] := by
  refine fun_ok (C := t_totalI ++ t_serviceI) (hint := hintX [] [] 0 [] [] [] []) ((t_totalI_ok).append t_serviceI_ok) mixed Tryz.func82 rfl (by kernel_rfl) rfl ?_
  show codeA _ _ _ _ _ _ _ _
  simp only [go_sem, Tryz.results82]
  obtain ⟨hg, h0, h1, ho⟩ := hp
  have hb := fun k hk => ho _ (bestT_mem (valG g o d) h0 k hk)
  have hx := fun k (hk : k < xss.length) => ho _ (ix_mem xss hk)
  have step := fun (k : Nat) => (show bestT (valG g o d) xss (k + 1) = if valG g o d (ix xss (k : Int)) < valG g o d (bestT (valG g o d) xss k) then ix xss (k : Int) else bestT (valG g o d) xss k from rfl)
  have go : ∀ v : List Int -> Int, v = valG g o d -> True := fun _ _ => trivial
  rcases hg with rfl | rfl
  · have ev : ∀ s, valG 67 o d s = total o d s := fun s => rfl
    generalize valG 67 o d = v at *
    refine ⟨by omega, ?_⟩
    refine loop_intro (fun k : Nat => [(5, .ints (bestT v xss k)), (11, .rows xss), (12, .int .i64 xss.length), (13, .int .i64 k), (1, .bnd 67 [.agg [.ints o, .rows d]])]) (fun _ => []) 0 (fun k => k <= xss.length) (fun k => xss.length - k) 0 (by omega) (by omega) ?_ ?_
    · simp only [go_sem]
      repeat' (first | refine fork_intro (fun hb => ?_) (fun hb => ?_) | refine partB_intro (fun hb => ?_) (fun hb => ?_) | refine And.intro ?_ ?_)
      all_goals first | exact True.intro | omega | with_reducible rfl | exact congrArg (AV.int _) (by omega) | (first | rfl)
    · intro k hk
      have e := step k
      rw [ev, ev] at e
      simp only [go_sem]
      refine fork_intro (fun hc => ?_) (fun hc => ?_)
      · refine ⟨⟨by omega, by omega⟩, hx k (by omega), hb k hk, fork_intro (fun h3 => ?_) (fun h3 => ?_)⟩
        · rw [if_pos h3] at e
          repeat' (first | refine fork_intro (fun hb => ?_) (fun hb => ?_) | refine partB_intro (fun hb => ?_) (fun hb => ?_) | refine And.intro ?_ ?_)
          all_goals first | exact True.intro | omega | with_reducible rfl | exact congrArg (AV.int _) (by omega) | (refine LoopEnd.intro (k + 1) (by first | omega) (by first | omega | (dsimp only; omega)) (by omega) ?_; simp only [go_sem]; (repeat' (first | refine fork_intro (fun hb => ?_) (fun hb => ?_) | refine partB_intro (fun hb => ?_) (fun hb => ?_) | refine And.intro ?_ ?_)); all_goals first | exact True.intro | omega | with_reducible rfl | exact congrArg (AV.int _) (by omega) | (first | rw [e])) | (first | rw [e])
        · rw [if_neg h3] at e
          repeat' (first | refine fork_intro (fun hb => ?_) (fun hb => ?_) | refine partB_intro (fun hb => ?_) (fun hb => ?_) | refine And.intro ?_ ?_)
          all_goals first | exact True.intro | omega | with_reducible rfl | exact congrArg (AV.int _) (by omega) | (refine LoopEnd.intro (k + 1) (by first | omega) (by first | omega | (dsimp only; omega)) (by omega) ?_; simp only [go_sem]; (repeat' (first | refine fork_intro (fun hb => ?_) (fun hb => ?_) | refine partB_intro (fun hb => ?_) (fun hb => ?_) | refine And.intro ?_ ?_)); all_goals first | exact True.intro | omega | with_reducible rfl | exact congrArg (AV.int _) (by omega) | (first | rw [e])) | (first | rw [e])
      · rw [show k = xss.length by omega]
  · have ev : ∀ s, valG 71 o d s = svc d s := fun s => rfl
    generalize valG 71 o d = v at *
    refine ⟨by omega, ?_⟩
    refine loop_intro (fun k : Nat => [(5, .ints (bestT v xss k)), (11, .rows xss), (12, .int .i64 xss.length), (13, .int .i64 k), (1, .bnd 71 [.agg [.ints o, .rows d]])]) (fun _ => []) 0 (fun k => k <= xss.length) (fun k => xss.length - k) 0 (by omega) (by omega) ?_ ?_
    · simp only [go_sem]
      repeat' (first | refine fork_intro (fun hb => ?_) (fun hb => ?_) | refine partB_intro (fun hb => ?_) (fun hb => ?_) | refine And.intro ?_ ?_)
      all_goals first | exact True.intro | omega | with_reducible rfl | exact congrArg (AV.int _) (by omega) | (first | rfl)
    · intro k hk
      have e := step k
      rw [ev, ev] at e
      simp only [go_sem]
      refine fork_intro (fun hc => ?_) (fun hc => ?_)
      · refine ⟨⟨by omega, by omega⟩, hx k (by omega), hb k hk, fork_intro (fun h3 => ?_) (fun h3 => ?_)⟩
        · rw [if_pos h3] at e
          repeat' (first | refine fork_intro (fun hb => ?_) (fun hb => ?_) | refine partB_intro (fun hb => ?_) (fun hb => ?_) | refine And.intro ?_ ?_)
          all_goals first | exact True.intro | omega | with_reducible rfl | exact congrArg (AV.int _) (by omega) | (refine LoopEnd.intro (k + 1) (by first | omega) (by first | omega | (dsimp only; omega)) (by omega) ?_; simp only [go_sem]; (repeat' (first | refine fork_intro (fun hb => ?_) (fun hb => ?_) | refine partB_intro (fun hb => ?_) (fun hb => ?_) | refine And.intro ?_ ?_)); all_goals first | exact True.intro | omega | with_reducible rfl | exact congrArg (AV.int _) (by omega) | (first | rw [e])) | (first | rw [e])
        · rw [if_neg h3] at e
          repeat' (first | refine fork_intro (fun hb => ?_) (fun hb => ?_) | refine partB_intro (fun hb => ?_) (fun hb => ?_) | refine And.intro ?_ ?_)
          all_goals first | exact True.intro | omega | with_reducible rfl | exact congrArg (AV.int _) (by omega) | (refine LoopEnd.intro (k + 1) (by first | omega) (by first | omega | (dsimp only; omega)) (by omega) ?_; simp only [go_sem]; (repeat' (first | refine fork_intro (fun hb => ?_) (fun hb => ?_) | refine partB_intro (fun hb => ?_) (fun hb => ?_) | refine And.intro ?_ ?_)); all_goals first | exact True.intro | omega | with_reducible rfl | exact congrArg (AV.int _) (by omega) | (first | rw [e])) | (first | rw [e])
      · rw [show k = xss.length by omega]
def t_least : Table := [(82, pureC g_least)]
theorem t_least_ok : TabOK Tryz.prog t_least := .cons Tryz.func82 (by kernel_rfl) (.pure (by intro args hp; unfold g_least at hp ⊢; split at hp <;> first | exact hp.elim | exact least_ok _ _ _ _ hp)) (.nil _)
attribute [go_sem] g_least_eq t_least
def g_bestSetI : List AV -> Prop × AV
  | [.agg [.ints o, .rows d]] => (o.length <= 1048576000 /\ d.length <= 1048576000 /\ ∀ x ∈ d, x.length <= 1048576000, .tup [.ints (bif good o d then bestL o d else []), .bool (good o d)])
  | _ => (False, .undef)
theorem g_bestSetI_eq (o : List Int) (d : List (List Int)) : g_bestSetI [.agg [.ints o, .rows d]] = (o.length <= 1048576000 /\ d.length <= 1048576000 /\ ∀ x ∈ d, x.length <= 1048576000, .tup [.ints (bif good o d then bestL o d else []), .bool (good o d)]) := (rfl)
theorem bestSetI_ok (o : List Int) (d : List (List Int)) (hp : o.length <= 1048576000 /\ d.length <= 1048576000 /\ ∀ x ∈ d, x.length <= 1048576000) : SpecOK Tryz.prog 32 [.agg [.ints o, .rows d]] (.tup [.ints (bif good o d then bestL o d else []), .bool (good o d)]) [] := by
  refine fun_ok (C := t_isF ++ t_setsI ++ t_least) (hint := hintX [] [] 0 [] [] [] []) (((t_isF_ok).append t_setsI_ok).append t_least_ok) mixed Tryz.func32 rfl (by kernel_rfl) rfl ?_
  show codeA _ _ _ _ _ _ _ _
  simp only [go_sem, Tryz.results32]
  refine ⟨hp, partB_intro (fun hg => ?_) (fun hg => ?_)⟩
  · rw [hg]
    have hf := good_iff.1 hg
    have hn := hf.n7
    have hn1 := hf.n1
    have hl := setsL_len o.length
    have h2 := pow_ge2 o.length hn1
    have h3 := pow_7 o.length hn
    refine ⟨by omega, ⟨.inl trivial, by omega, by omega, fun x hx => setsL_open hf hx⟩, rfl, rfl⟩
  · rw [hg]
    repeat' (first | refine fork_intro (fun hb => ?_) (fun hb => ?_) | refine partB_intro (fun hb => ?_) (fun hb => ?_) | refine And.intro ?_ ?_)
    all_goals first | exact True.intro | omega | with_reducible rfl | exact congrArg (AV.int _) (by omega) | (first | rfl)
def t_bestSetI : Table := [(32, pureC g_bestSetI)]
theorem t_bestSetI_ok : TabOK Tryz.prog t_bestSetI := .cons Tryz.func32 (by kernel_rfl) (.pure (by intro args hp; unfold g_bestSetI at hp ⊢; split at hp <;> first | exact hp.elim | exact bestSetI_ok _ _ hp)) (.nil _)
attribute [go_sem] g_bestSetI_eq t_bestSetI
def g_bestTotalI : List AV -> Prop × AV
  | [.agg [.ints o, .rows d]] => (o.length <= 1048576000 /\ d.length <= 1048576000 /\ ∀ x ∈ d, x.length <= 1048576000, .tup [.int .i64 (bif good o d then total o d (bestL o d) else 0), .bool (good o d)])
  | _ => (False, .undef)
theorem g_bestTotalI_eq (o : List Int) (d : List (List Int)) : g_bestTotalI [.agg [.ints o, .rows d]] = (o.length <= 1048576000 /\ d.length <= 1048576000 /\ ∀ x ∈ d, x.length <= 1048576000, .tup [.int .i64 (bif good o d then total o d (bestL o d) else 0), .bool (good o d)]) := (rfl)
theorem bestTotalI_ok (o : List Int) (d : List (List Int)) (hp : o.length <= 1048576000 /\ d.length <= 1048576000 /\ ∀ x ∈ d, x.length <= 1048576000) : SpecOK Tryz.prog 21 [.agg [.ints o, .rows d]] (.tup [.int .i64 (bif good o d then total o d (bestL o d) else 0), .bool (good o d)]) [] := by
  refine fun_ok (C := t_bestSetI ++ t_totalI) (hint := hintX [] [] 0 [] [] [] []) ((t_bestSetI_ok).append t_totalI_ok) mixed Tryz.func21 rfl (by kernel_rfl) rfl ?_
  show codeA _ _ _ _ _ _ _ _
  simp only [go_sem, Tryz.results21]
  refine ⟨hp, partB_intro (fun hg => ?_) (fun hg => ?_)⟩
  · rw [hg]
    have hf := good_iff.1 hg
    exact ⟨bestL_open hf, rfl, rfl⟩
  · rw [hg]
    repeat' (first | refine fork_intro (fun hb => ?_) (fun hb => ?_) | refine partB_intro (fun hb => ?_) (fun hb => ?_) | refine And.intro ?_ ?_)
    all_goals first | exact True.intro | omega | with_reducible rfl | exact congrArg (AV.int _) (by omega) | (first | rfl)
def t_bestTotalI : Table := [(21, pureC g_bestTotalI)]
theorem t_bestTotalI_ok : TabOK Tryz.prog t_bestTotalI := .cons Tryz.func21 (by kernel_rfl) (.pure (by intro args hp; unfold g_bestTotalI at hp ⊢; split at hp <;> first | exact hp.elim | exact bestTotalI_ok _ _ hp)) (.nil _)
attribute [go_sem] g_bestTotalI_eq t_bestTotalI
end Go.Proofs.YteefjdbdknkcjaaGreat
namespace Go.Proofs.YteefjdbdknkcjaaGreat
open Go.Vc
set_option maxRecDepth 100000
set_option maxHeartbeats 1600000
set_option linter.unusedSimpArgs false
set_option linter.unusedVariables false

theorem confR_mem {q : Nat -> Nat -> Bool} {a : Nat} {x : Int × Int} : ∀ {k : Nat}, x ∈ confR q a k -> ∃ j : Nat, a < j /\ x = ((a : Int), (j : Int)) /\ q a j = true
  | 0, h => by cases h
  | k + 1, h => by
    unfold confR at h
    rcases List.mem_append.1 h with h | h
    · exact confR_mem h
    · split at h
      · rename_i hc
        rw [List.mem_singleton] at h
        exact ⟨k, hc.1, h, hc.2⟩
      · cases h
theorem confA_mem {q : Nat -> Nat -> Bool} {n : Nat} {x : Int × Int} : ∀ {a : Nat}, x ∈ confA q n a -> ∃ i j : Nat, i < j /\ x = ((i : Int), (j : Int)) /\ q i j = true
  | 0, h => by cases h
  | a + 1, h => by
    unfold confA at h
    rcases List.mem_append.1 h with h | h
    · exact confA_mem h
    · obtain ⟨j, h1, h2, h3⟩ := confR_mem h
      exact ⟨a, j, h1, h2, h3⟩
theorem conf_free {o : List Int} {d : List (List Int)} {x : Int × Int} (h : x ∈ confL o d) : x.1 ∈ gsetL o d -> ¬ x.2 ∈ gsetL o d := by
  obtain ⟨i, j, hij, rfl, hq⟩ := confA_mem h
  intro h1 h2
  unfold cnfQ cnfB at hq
  simp only [Bool.and_eq_true] at hq
  have hx := hq.2
  obtain ⟨k, hk, _⟩ := of_decide_eq_true hx
  have hd : d.length ≠ 0 := by omega
  have := (gset_kept hd).free _ h1 _ h2 (by dsimp only; omega)
  rw [this] at hx
  cases hx
def g_lawFnGrowth : List AV -> Prop × AV
  | [.bytes code] => (code.length <= 9223372036854775807, .bool true)
  | _ => (False, .undef)
theorem lawFnGrowth_ok (code : List UInt8) (hp : code.length <= 9223372036854775807) : SpecOK Tryz.prog 3 [.bytes code] (.bool true) [] := by
  refine fun_ok (C := t_vBig ++ t_drawGrowth ++ t_growthPricesI ++ t_growthPricesS ++ t_tightTimesI ++ t_tightTimesS ++ t_witnessesOfI ++ t_witnessesOfS ++ t_conflictsOfI ++ t_conflictsOfS ++ t_growthSetI ++ t_growthSetS ++ t_vInts ++ t_vPairs ++ t_vHas ++ t_vSum ++ t_bestTotalI ++ t_metI ++ t_payImp ++ t_serviceOfI) (hint := hintX [3] [(4, [.frb 3, .cut [3]]), (5, [.cut [3, 4, 5]]), (6, [.cut [3, 4, 5, 6, 7]]), (7, [.cut [3, 4, 5, 6, 7, 8, 9]]), (8, [.cut [3, 4, 5, 6, 7, 8, 9, 10, 11]]), (9, [.cut [3, 4, 5, 6, 7, 8, 9, 10, 11, 12, 13]]), (10, [.cut [3, 4, 5, 6, 7, 8, 9, 10, 11, 12, 13, 14, 15]]), (11, [.cut [3, 4, 5, 6, 7, 8, 9, 10, 11, 12, 13, 14, 15, 16, 17]]), (12, [.cut [3, 4, 5, 6, 7, 8, 9, 10, 11, 12, 13, 14, 15, 16, 17, 18, 19]]), (13, [.cut [3, 4, 5, 6, 7, 8, 9, 10, 11, 12, 13, 14, 15, 16, 17, 18, 19, 20, 21]]), (14, [.cut [3, 4, 5, 6, 7, 8, 9, 10, 11, 12, 13, 14, 15, 16, 17, 18, 19, 20, 21, 22, 23]]), (16, [.cut [3, 4, 5, 8, 12, 16, 20]]), (30, [.cut [3, 4, 8, 12, 16, 20]]), (36, [.cut [3, 4, 16, 20]]), (41, [.cut [3, 4, 20]]), (42, [.cut [3, 4, 20, 31]]), (46, [.cut [3, 4, 20]]), (47, [.cut [3, 4, 20, 33]]), (48, [.cut [3, 4, 20, 33, 35]]), (49, [.cut [4, 33, 35, 37, 38]])] 0 [7, 1000007] [] [] []) ((((((((((((((((((((t_vBig_ok).append t_drawGrowth_ok).append t_growthPricesI_ok).append t_growthPricesS_ok).append t_tightTimesI_ok).append t_tightTimesS_ok).append t_witnessesOfI_ok).append t_witnessesOfS_ok).append t_conflictsOfI_ok).append t_conflictsOfS_ok).append t_growthSetI_ok).append t_growthSetS_ok).append t_vInts_ok).append t_vPairs_ok).append t_vHas_ok).append t_vSum_ok).append t_bestTotalI_ok).append t_metI_ok).append t_payImp_ok).append t_serviceOfI_ok) mixed Tryz.func3 rfl (by kernel_rfl) rfl ?_
  show codeA _ _ _ _ _ _ _ _
  simp only [go_sem, Tryz.results3]
  refine ⟨hp, fork_intro (fun _ => trivial) (fun hc => ⟨by omega, fun z hz => ?_⟩)⟩
  obtain ⟨b1, b2, b3⟩ := hz
  generalize z.xs = o at *
  generalize z.xss = d at *
  have hpre : o.length <= 1048576000 /\ d.length <= 1048576000 /\ ∀ x ∈ d, x.length <= 1048576000 := ⟨by omega, by omega, fun x hx => by have := b3 x hx; omega⟩
  refine stop_intro ?_
  simp only [go_sem]
  refine ⟨hpre, ?_⟩
  refine stop_intro ?_
  simp only [go_sem]
  refine ⟨hpre, ?_⟩
  refine stop_intro ?_
  simp only [go_sem]
  refine ⟨hpre, ?_⟩
  refine stop_intro ?_
  simp only [go_sem]
  refine ⟨hpre, ?_⟩
  refine stop_intro ?_
  simp only [go_sem]
  refine ⟨hpre, ?_⟩
  refine stop_intro ?_
  simp only [go_sem]
  refine ⟨hpre, ?_⟩
  refine stop_intro ?_
  simp only [go_sem]
  refine ⟨hpre, ?_⟩
  refine stop_intro ?_
  simp only [go_sem]
  refine ⟨hpre, ?_⟩
  refine stop_intro ?_
  simp only [go_sem]
  refine ⟨hpre, ?_⟩
  refine stop_intro ?_
  simp only [go_sem]
  refine ⟨hpre, ?_⟩
  refine stop_intro ?_
  simp only [go_sem, ↓partB_true, ↓partB_false, decide_true, Bool.not_true, Bool.not_false, beq_self_eq_true, eq_self]
  obtain ⟨q1, q2, q3⟩ := grown_lens o d
  have l1 : (bif good o d then (grown o d).p else []).length <= 1048576000 := by
    cases good o d
    · simp
    · rw [cond_true]; omega
  have l2 : (bif good o d then (grown o d).t else []).length <= 1048576000 := by
    cases good o d
    · simp
    · rw [cond_true]; omega
  have l3 : (bif good o d then (grown o d).w else []).length <= 1048576000 := by
    cases good o d
    · simp
    · rw [cond_true]; omega
  have l4 : (bif good o d then confL o d else []).length <= 1048576000 := by
    cases hg : good o d with
    | false => simp
    | true => have := conf7 (good_iff.1 hg).n7 (cnfQ d (grown o d)) (Nat.le_refl o.length); rw [cond_true]; unfold confL; omega
  have l5 : (bif good o d then gsetL o d else []).length <= 1048576000 := by
    cases hg : good o d with
    | false => simp
    | true => have := gset_len (good_iff.1 hg); rw [cond_true]; omega
  refine ⟨⟨l1, l1⟩, ⟨l2, l2⟩, ⟨l3, l3⟩, ⟨l4, l4⟩, ⟨l5, l5⟩, ?_⟩
  refine stop_intro ?_
  simp only [go_sem]
  refine partB_intro (fun hg => ?_) (fun _ => trivial)
  rw [hg, cond_true, cond_true, cond_true, cond_true, cond_true]
  have hf := good_iff.1 hg
  have g := grown_fin hf
  have hn := hf.n7
  have hm := hf.m7
  have l6 := gset_len hf
  refine loop_intro (fun a : Nat => [(24, .int .i64 a), (3, .iptr [.ints o, .rows d]), (4, .ints (grown o d).p), (8, .ints (grown o d).t), (12, .ints (grown o d).w), (16, .pairs (confL o d)), (20, .ints (gsetL o d))]) (fun _ => []) 5 (fun a => a <= o.length) (fun a => o.length - a) 0 (by omega) (by omega) ?_ ?_
  · simp only [go_sem]
    repeat' (first | refine fork_intro (fun hb => ?_) (fun hb => ?_) | refine partB_intro (fun hb => ?_) (fun hb => ?_) | refine And.intro ?_ ?_)
    all_goals first | exact True.intro | omega | with_reducible rfl | exact congrArg (AV.int _) (by omega) | (first | rfl)
  intro a ha
  simp only [go_sem]
  refine fork_intro (fun hd => ?_) (fun hd => ?_)
  · have hcl : ClmOK o d (grown o d).p 2520 := ⟨hf, q1, fun k hk => by have := g.p0 k (by omega); omega, by omega⟩
    refine loop_intro (fun j : Nat => [(25, .int .i64 (sumN (clmT d (grown o d).p 2520 (a : Int)) j)), (26, .int .i64 j), (24, .int .i64 a), (3, .iptr [.ints o, .rows d]), (4, .ints (grown o d).p), (8, .ints (grown o d).t), (12, .ints (grown o d).w), (16, .pairs (confL o d)), (20, .ints (gsetL o d))]) (fun _ => []) 5 (fun j => j <= d.length) (fun j => d.length - j) 0 (by omega) (by omega) ?_ ?_
    · simp only [go_sem]
      repeat' (first | refine fork_intro (fun hb => ?_) (fun hb => ?_) | refine partB_intro (fun hb => ?_) (fun hb => ?_) | refine And.intro ?_ ?_)
      all_goals first | exact True.intro | omega | with_reducible rfl | exact congrArg (AV.int _) (by omega) | (first | rfl)
    intro j hj
    have hsb := sumN_bd (f := clmT d (grown o d).p 2520 (a : Int)) (lo := 0) (hi := 1000000) (n := j) (fun i hi => (hcl.t_bd (a := (a : Int)) (by omega) (by omega) (j := i) (by omega)).2)
    simp only [go_sem]
    refine fork_intro (fun he => ?_) (fun he => ?_)
    · have hrow := hf.d_len (k := (j : Int)) (by omega) (by omega)
      have hdx := hf.d_ix (k := (j : Int)) (a := (a : Int)) (by omega) (by omega) (by omega) (by omega)
      have hpj := g.p0 j (by omega)
      have e1 : sumN (clmT d (grown o d).p 2520 (a : Int)) (j + 1) = sumN (clmT d (grown o d).p 2520 (a : Int)) j + max 0 (ix (grown o d).p (j : Int) - 2520 * ix (ix d (j : Int)) (a : Int)) := rfl
      refine ⟨by omega, by omega, by omega, by omega, by omega, fork_intro (fun h0 => ?_) (fun h0 => ?_)⟩
      · repeat' (first | refine fork_intro (fun hb => ?_) (fun hb => ?_) | refine partB_intro (fun hb => ?_) (fun hb => ?_) | refine And.intro ?_ ?_)
        all_goals first | exact True.intro | omega | with_reducible rfl | exact congrArg (AV.int _) (by omega) | (refine LoopEnd.intro (j + 1) (by first | omega) (by first | omega | (dsimp only; omega)) (by omega) ?_; simp only [go_sem]; (repeat' (first | refine fork_intro (fun hb => ?_) (fun hb => ?_) | refine partB_intro (fun hb => ?_) (fun hb => ?_) | refine And.intro ?_ ?_)); all_goals first | exact True.intro | omega | with_reducible rfl | exact congrArg (AV.int _) (by omega) | (first | rfl)) | (first | rfl)
      · repeat' (first | refine fork_intro (fun hb => ?_) (fun hb => ?_) | refine partB_intro (fun hb => ?_) (fun hb => ?_) | refine And.intro ?_ ?_)
        all_goals first | exact True.intro | omega | with_reducible rfl | exact congrArg (AV.int _) (by omega) | (refine LoopEnd.intro (j + 1) (by first | omega) (by first | omega | (dsimp only; omega)) (by omega) ?_; simp only [go_sem]; (repeat' (first | refine fork_intro (fun hb => ?_) (fun hb => ?_) | refine partB_intro (fun hb => ?_) (fun hb => ?_) | refine And.intro ?_ ?_)); all_goals first | exact True.intro | omega | with_reducible rfl | exact congrArg (AV.int _) (by omega) | (first | rfl)) | (first | rfl)
    · have ej : j = d.length := by omega
      have ec : sumN (clmT d (grown o d).p 2520 (a : Int)) j = clm d (grown o d).p 2520 (a : Int) := by
        unfold clm; rw [ej, q1]
      have hfa := g.fair a (by omega)
      have hte := g.te a (by omega)
      have hoa := hf.o99 _ (ix_mem o (show a < o.length by omega))
      rw [ec]
      refine ⟨by omega, by omega, fork_intro (fun hx => by omega) (fun _ => ⟨by omega, fork_intro (fun hx => ⟨by omega, by omega, fork_intro (fun _ => ?_) (fun hy => absurd (hte hx) hy)⟩) (fun hx => ?_)⟩)⟩
      · repeat' (first | refine fork_intro (fun hb => ?_) (fun hb => ?_) | refine partB_intro (fun hb => ?_) (fun hb => ?_) | refine And.intro ?_ ?_)
        all_goals first | exact True.intro | omega | with_reducible rfl | exact congrArg (AV.int _) (by omega) | (refine LoopEnd.intro (a + 1) (by first | omega) (by first | omega | (dsimp only; omega)) (by omega) ?_; simp only [go_sem]; (repeat' (first | refine fork_intro (fun hb => ?_) (fun hb => ?_) | refine partB_intro (fun hb => ?_) (fun hb => ?_) | refine And.intro ?_ ?_)); all_goals first | exact True.intro | omega | with_reducible rfl | exact congrArg (AV.int _) (by omega) | (first | rfl)) | (first | rfl)
      · repeat' (first | refine fork_intro (fun hb => ?_) (fun hb => ?_) | refine partB_intro (fun hb => ?_) (fun hb => ?_) | refine And.intro ?_ ?_)
        all_goals first | exact True.intro | omega | with_reducible rfl | exact congrArg (AV.int _) (by omega) | (refine LoopEnd.intro (a + 1) (by first | omega) (by first | omega | (dsimp only; omega)) (by omega) ?_; simp only [go_sem]; (repeat' (first | refine fork_intro (fun hb => ?_) (fun hb => ?_) | refine partB_intro (fun hb => ?_) (fun hb => ?_) | refine And.intro ?_ ?_)); all_goals first | exact True.intro | omega | with_reducible rfl | exact congrArg (AV.int _) (by omega) | (first | rfl)) | (first | rfl)
  · refine stop_intro ?_
    simp only [go_sem]
    refine loop_intro (fun j : Nat => [(28, .int .i64 j), (3, .iptr [.ints o, .rows d]), (4, .ints (grown o d).p), (8, .ints (grown o d).t), (12, .ints (grown o d).w), (16, .pairs (confL o d)), (20, .ints (gsetL o d))]) (fun _ => []) 5 (fun j => j <= d.length) (fun j => d.length - j) 0 (by omega) (by omega) ?_ ?_
    · simp only [go_sem]
      repeat' (first | refine fork_intro (fun hb => ?_) (fun hb => ?_) | refine partB_intro (fun hb => ?_) (fun hb => ?_) | refine And.intro ?_ ?_)
      all_goals first | exact True.intro | omega | with_reducible rfl | exact congrArg (AV.int _) (by omega) | (first | rfl)
    intro j hj
    simp only [go_sem]
    refine fork_intro (fun he => ?_) (fun he => ?_)
    · have hrow := hf.d_len (k := (j : Int)) (by omega) (by omega)
      have hpj := g.p0 j (by omega)
      have hw0 := g.w0 j (by omega)
      have hwt := g.wt j (by omega)
      have hdx := hf.d_ix (k := (j : Int)) (a := ix (grown o d).w (j : Int)) (by omega) (by omega) (by omega) (by omega)
      obtain ⟨⟨w1, w2⟩, w3⟩ := hwt
      refine ⟨by omega, by omega, fork_intro (fun hx => by omega) (fun _ => ⟨by omega, by omega, fork_intro (fun hx => by omega) (fun _ => ⟨by omega, by omega, by omega, by omega, fork_intro (fun hx => by omega) (fun _ => ?_)⟩)⟩)⟩
      repeat' (first | refine fork_intro (fun hb => ?_) (fun hb => ?_) | refine partB_intro (fun hb => ?_) (fun hb => ?_) | refine And.intro ?_ ?_)
      all_goals first | exact True.intro | omega | with_reducible rfl | exact congrArg (AV.int _) (by omega) | (refine LoopEnd.intro (j + 1) (by first | omega) (by first | omega | (dsimp only; omega)) (by omega) ?_; simp only [go_sem]; (repeat' (first | refine fork_intro (fun hb => ?_) (fun hb => ?_) | refine partB_intro (fun hb => ?_) (fun hb => ?_) | refine And.intro ?_ ?_)); all_goals first | exact True.intro | omega | with_reducible rfl | exact congrArg (AV.int _) (by omega) | (first | rfl)) | (first | rfl)
    · refine stop_intro ?_
      simp only [go_sem]
      have l7 := conf7 hn (cnfQ d (grown o d)) (Nat.le_refl o.length)
      have l8 : (confL o d).length <= 49 := l7
      refine loop_intro (fun i : Nat => [(30, .int .i64 i), (3, .iptr [.ints o, .rows d]), (4, .ints (grown o d).p), (16, .pairs (confL o d)), (20, .ints (gsetL o d))]) (fun _ => []) 5 (fun i => i <= (confL o d).length) (fun i => (confL o d).length - i) 0 (by omega) (by omega) ?_ ?_
      · simp only [go_sem]
        repeat' (first | refine fork_intro (fun hb => ?_) (fun hb => ?_) | refine partB_intro (fun hb => ?_) (fun hb => ?_) | refine And.intro ?_ ?_)
        all_goals first | exact True.intro | omega | with_reducible rfl | exact congrArg (AV.int _) (by omega) | (first | rfl)
      intro i hi
      simp only [go_sem, Int.toNat_zero, Int.toNat_one, Nat.mul_one, List.drop_zero, List.drop_succ_cons]
      refine fork_intro (fun hx => ?_) (fun hx => ?_)
      · have hno := conf_free (o := o) (d := d) (ix_mem (confL o d) (show i < (confL o d).length by omega))
        refine ⟨by omega, by omega, by omega, fork_intro (fun h1 => ⟨by omega, by omega, by omega, fork_intro (fun h2 => absurd h2 (hno h1)) (fun _ => ?_)⟩) (fun _ => ?_)⟩
        · repeat' (first | refine fork_intro (fun hb => ?_) (fun hb => ?_) | refine partB_intro (fun hb => ?_) (fun hb => ?_) | refine And.intro ?_ ?_)
          all_goals first | exact True.intro | omega | with_reducible rfl | exact congrArg (AV.int _) (by omega) | (refine LoopEnd.intro (i + 1) (by first | omega) (by first | omega | (dsimp only; omega)) (by omega) ?_; simp only [go_sem]; (repeat' (first | refine fork_intro (fun hb => ?_) (fun hb => ?_) | refine partB_intro (fun hb => ?_) (fun hb => ?_) | refine And.intro ?_ ?_)); all_goals first | exact True.intro | omega | with_reducible rfl | exact congrArg (AV.int _) (by omega) | (first | rfl)) | (first | rfl)
        · repeat' (first | refine fork_intro (fun hb => ?_) (fun hb => ?_) | refine partB_intro (fun hb => ?_) (fun hb => ?_) | refine And.intro ?_ ?_)
          all_goals first | exact True.intro | omega | with_reducible rfl | exact congrArg (AV.int _) (by omega) | (refine LoopEnd.intro (i + 1) (by first | omega) (by first | omega | (dsimp only; omega)) (by omega) ?_; simp only [go_sem]; (repeat' (first | refine fork_intro (fun hb => ?_) (fun hb => ?_) | refine partB_intro (fun hb => ?_) (fun hb => ?_) | refine And.intro ?_ ?_)); all_goals first | exact True.intro | omega | with_reducible rfl | exact congrArg (AV.int _) (by omega) | (first | rfl)) | (first | rfl)
      · refine stop_intro ?_
        simp only [go_sem]
        refine ⟨hpre, ?_⟩
        refine stop_intro ?_
        simp only [go_sem]
        refine fork_intro (fun h0 => ?_) (fun h0 => ?_)
        · have e : gsetL o d = [(chpF o o.length : Int)] := by unfold gsetL; rw [if_pos (by omega)]
          rw [e]; rfl
        · have hd0 : d.length ≠ 0 := by omega
          have hk := gset_kept (o := o) hd0
          have hkp := hk.pos hf hd0
          have hbo := bestL_open hf
          have hu := units_le g hbo
          have hbt := hbo.svc_bd
          have hbp := hbo.pay.bd (Nat.le_refl _)
          rw [List.take_length] at hbp
          have h8 : (bestL o d).length <= 64 := by
            have h1 := setsL_len o.length
            have h2 := pow_ge2 o.length hf.n1
            exact (setsL_mem hf.n7 (bestT_mem (total o d) (by omega) _ (Nat.le_refl _))).2.1
          have htt : total o d (bestL o d) = pay o (bestL o d) + svc d (bestL o d) := rfl
          have hps : ∀ x ∈ (grown o d).p, -1000000000 <= x /\ x <= 1000000000 := fun x hx => by
            obtain ⟨k, hk, rfl⟩ := mem_ix hx
            have := g.p0 k (by omega)
            omega
          have hsb := sum_take_bd hps (Nat.le_refl (grown o d).p.length)
          rw [List.take_length] at hsb
          rw [hg, cond_true]
          refine ⟨⟨by omega, hps⟩, by omega, fork_intro (fun hx => by omega) (fun _ => fork_intro (fun hx => by omega) (fun _ => ?_))⟩
          refine stop_intro ?_
          simp only [go_sem]
          refine ⟨hpre, ?_⟩
          refine stop_intro ?_
          simp only [go_sem]
          refine ⟨⟨hpre, by omega⟩, ?_⟩
          refine stop_intro ?_
          simp only [go_sem]
          refine ⟨⟨hpre, by omega⟩, ?_⟩
          refine stop_intro ?_
          simp only [go_sem]
          have hr := up_ris (lo := 0) (hi := (o.length : Int) - 1) hk.up (fun x hx => by have := hk.tight x hx; omega)
          have hop : opened o d (gsetL o d) = true := by
            simp only [opened, Bool.and_eq_true, decide_eq_true_eq]
            exact ⟨hg, hr, by omega⟩
          have hgp : (good o d && ris 0 (o.length - 1) (gsetL o d)) = true := by rw [hg, hr]; rfl
          have hoo := opened_iff (by omega) hop
          have hgt := hoo.svc_bd
          have hgb := hoo.pay.bd (Nat.le_refl _)
          rw [List.take_length] at hgb
          rw [hop, hgp, if_pos rfl, hg, cond_true]
          refine partB_tt (partB_intro (fun hmt => ?_) (fun _ => trivial))
          have h3 := three_le g hk hkp ((metric_iff rfl).1 (by simpa using hmt))
          rw [decide_eq_true h3]
          exact ⟨by omega, by omega, by omega, ⟨by omega, hps⟩, by omega, rfl⟩
def t_lawFnGrowth : Table := [(3, pureC g_lawFnGrowth)]
attribute [go_sem] t_lawFnGrowth
end Go.Proofs.YteefjdbdknkcjaaGreat
namespace Go.Vc
open Go.RowKit Go.ChangeShapes Go.WideShapes Go.Deep Go.Joins
set_option linter.unusedSimpArgs false
set_option linter.unusedVariables false
section
variable {H : Type} {enc : TypeId × Value -> H} {P : Program} {w : World} {base : Nat} {held : Bool}
def toByte (n : Int) : UInt8 := UInt8.ofNat n.toNat
theorem wf_byte {n : Int} (h : (Lit.int .u8 n).wf = true) : ((toByte n).toNat : Int) = n := by
  have h1 : 0 <= n /\ n <= 255 := by
    have h2 : IntKind.u8.min <= n /\ n <= IntKind.u8.max := by simpa [Lit.wf] using h
    exact h2
  unfold toByte
  rw [UInt8.toNat_ofNat']
  have : n.toNat % 2 ^ 8 = n.toNat := Nat.mod_eq_of_lt (by omega)
  omega
theorem bytes_seen {a : Option Addr} {len cap : Nat} (zs : List Int) (hl : len <= cap) (hz : len <= zs.length) (hw : ∀ n ∈ zs, (Lit.int .u8 n).wf = true) (hc : ∀ x, a = some x -> ∀ c, c < len -> w.cell? (x.add c) = some (.int .u8 (zs.getD c 0))) (hn : a = none -> len = 0) : Sees (allS w) (.bytes ((zs.take len).map toByte)) (.slice a len cap) := by
  have e0 : len = (((zs.take len).map toByte).map AV.byte).length := by simp; omega
  by_cases h0 : len = 0
  · subst h0
    have := Sees.lst (S := allS w) (.bytes []) [] 1 a cap rfl (Nat.zero_le _) 0 0 #[] (fun _ _ => Go.undef) (fun h => (h rfl).elim) (fun x hx => by cases hx) (fun i x j y hx => by simp at hx) (fun i x j y hx => by simp at hx)
    simpa using this
  · cases a with
    | none => exact (h0 (hn rfl)).elim
    | some x =>
      obtain ⟨b, o, c, rfl, hS, _⟩ := cell_here (hc x rfl 0 (by omega))
      have hcell : ∀ i, i < len -> c[o + i]? = some (.int .u8 (zs.getD i 0)) := fun i hi => by
        obtain ⟨c', hS', hc'⟩ := cell_at (hc _ rfl i hi)
        rw [hS] at hS'; cases hS'
        exact hc'
      have key : ∀ i x, (((zs.take len).map toByte).map AV.byte)[i]? = some x -> i < len /\ x = .byte (toByte (zs.getD i 0)) /\ ((toByte (zs.getD i 0)).toNat : Int) = zs.getD i 0 := fun i x hx => by
        have hi := (List.getElem?_eq_some_iff.1 hx).1
        simp at hi
        have hiz : i < zs.length := by omega
        have h2 : zs[i]? = some zs[i] := by simp
        have h3 : zs.getD i 0 = zs[i] := by rw [List.getD_eq_getElem?_getD, h2]; rfl
        refine ⟨by omega, ?_, ?_⟩
        · rw [List.getElem?_map, List.getElem?_map, List.getElem?_take, if_pos (by omega), h2] at hx
          simp at hx
          rw [<- hx, h3]
        · rw [h3]; exact wf_byte (hw _ (List.getElem_mem hiz))
      have := Sees.lst (S := allS w) (.bytes ((zs.take len).map toByte)) (((zs.take len).map toByte).map .byte) 1 (some ⟨b, o, none⟩) cap rfl (by simp; omega) b o c (fun i _ => .int .u8 (zs.getD i 0)) (fun _ => ⟨rfl, hS⟩) (fun x hx => by obtain ⟨n, _, rfl⟩ := List.mem_map.1 hx; rfl)
        (fun i x j y hx hy => by
          obtain ⟨hi, rfl, _⟩ := key i x hx
          cases j with
          | zero => rw [Nat.mul_one, Nat.add_zero]; exact hcell i hi
          | succ j => simp [AV.cells] at hy)
        (fun i x j y hx hy => by
          obtain ⟨hi, rfl, e⟩ := key i x hx
          cases j with
          | zero => simp [AV.cells] at hy; subst hy; rw [<- e]; exact .int _ _
          | succ j => simp [AV.cells] at hy)
      rw [<- e0] at this
      exact this
theorem sees_Bytes {t e : TypeId} {v : Value} {d : DataW H} {p : List MemPlace} (ht : P.underlying t = some (.slice e)) (he : P.underlying e = some (.int .u8)) (hc : P.cellsOf e = 1) (hv : ∃ a n c, v = .slice a n c)
    (h : DataW.Trod enc P w base (fun _ => true) held t v d p) : ∃ xs : List UInt8, xs.length <= 9223372036854775807 /\ Sees (allS w) (.bytes xs) v := by
  obtain ⟨a, n, c, rfl⟩ := hv
  obtain ⟨fuel, hf⟩ := h
  have hmx : maxLen = 9223372036854775807 := by decide
  rcases open_ints ht he hc (show DataW.trod enc P w base (fun _ => true) held fuel t [.slice a n c] = some (d, p) by simpa [Value.cells] using hf) with ⟨hcs, _⟩ | ⟨a', len, cap, zs, hcs, _, hl, hm, hz, _, hcell, hwz⟩
  · simp at hcs; obtain ⟨rfl, rfl, rfl⟩ := hcs
    exact ⟨[], by simp, sees_nil rfl _⟩
  · simp at hcs; obtain ⟨rfl, rfl, rfl⟩ := hcs
    simp only [if_true] at hz
    refine ⟨(zs.take n).map toByte, by simp; omega, bytes_seen zs hl (by omega) hwz (fun x hx c hc' => ?_) (fun h => by cases h)⟩
    cases hx
    exact hcell c (by omega)
end
end Go.Vc
