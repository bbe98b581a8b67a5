/- The best set, in memory of one's own. -/
import Derived.Test.YtgcbdpehnonghaaA24i
import Derived.Test.YtgcbdpehnonghaaXM
namespace Go.Proofs.Ytgcbdpehnonghaa
open Go.Vc Go.RowKit Go.Sort
set_option maxRecDepth 100000
set_option maxHeartbeats 1600000
set_option linter.unusedSimpArgs false
set_option linter.unusedVariables false
def g_setsM : List AV -> Prop × AV × Heap
  | [.int .i64 m] => (1 <= m /\ m <= 7, .mt 0, [(0, .mat (setsL m.toNat))])
  | _ => (False, .undef, [])
theorem g_setsM_eq (m : Int) : g_setsM [.int .i64 m] = (1 <= m /\ m <= 7, .mt 0, [(0, .mat (setsL m.toNat))]) := (rfl)
theorem setsM_ok (m : Int) (hp : 1 <= m /\ m <= 7) : SpecOK Try.prog 41 [.int .i64 m] (.mt 0) [(0, .mat (setsL m.toNat))] := by
  refine fun_ok (C := t_listI) (hint := hintX [3, 5, 14, 16] [(6, [.mv 0 0])] 0 [] [5] [] []) (t_listI_ok) mixed Try.func41 rfl (by kernel_rfl) rfl ?_
  show codeA _ _ _ _ _ _ _ _
  simp only [go_sem, Try.results41]
  obtain ⟨n, rfl⟩ : ∃ n : Nat, m = n := ⟨m.toNat, by omega⟩
  have hp7 := pow_7 n (by omega)
  simp only [Int.toNat_natCast]
  refine loop_intro (fun c : Nat => [(3, .mt 0), (4, .int .u64 ((c + 1 : Nat) : Int)), (0, .int .i64 n)]) (fun c => [(0, .mat (allK n c))]) 1 (fun c => c <= 2 ^ n - 1) (fun c => 2 ^ n - 1 - c) 0 (by omega) (by omega) ?_ ?_
  · simp only [go_sem]
    repeat' (first | refine fork_intro (fun hb => ?_) (fun hb => ?_) | refine partB_intro (fun hb => ?_) (fun hb => ?_) | refine And.intro ?_ ?_)
    all_goals first | exact True.intro | omega | with_reducible rfl | exact congrArg (AV.int _) (by omega) | (first | rfl)
  · intro c hc
    have hcl : (allK n c).length = c := tab_len _ _
    have e := tab_succ c fun c => bagL (c + 1)
    have hw : IntKind.u64.wrap (((c + 1 : Nat) : Int) + 1) = ((c + 1 + 1 : Nat) : Int) := by
      have := wrap_nat (x := c + 1 + 1) (by omega)
      rw [<- this]; congr 1
    simp only [go_sem, v_addu, p_addu]
    rw [hw]
    refine ⟨by omega, fork_intro (fun h1 => ?_) (fun h1 => ?_)⟩
    · have hn2 : c + 1 < 2 ^ n := by have := hp7.2.2; omega
      refine ⟨⟨by omega, by omega⟩, by omega, ?_⟩
      refine LoopEnd.intro (c + 1) (by omega) (by omega) (by omega) ?_
      simp only [go_sem]
      exact e.symm
    · have hce : c = 2 ^ n - 1 := by omega
      subst hce
      have hnd := allL_nodup (n := n) (by omega)
      have hme := fun (x : List Int) hx => (allL_mem (n := n) (by omega) (set := x) hx).2.1
      have hpg := pow_ge2 n (by omega)
      refine sort_region (allK n (2 ^ n - 1)) (by rw [hcl]; omega) (by rw [hcl]; omega) hnd (fun x hx => Nat.le_trans (hme x hx) (by omega)) rfl rfl ?_
      simp only [go_sem]
      rfl
def t_setsM : Table := [(41, ownC g_setsM)]
theorem t_setsM_ok : TabOK Try.prog t_setsM := .cons Try.func41 (by kernel_rfl) (.own (by intro args hp; unfold g_setsM at hp ⊢; split at hp <;> first | exact hp.elim | exact ⟨setsM_ok _ hp, rfl⟩)) (.nil _)
attribute [go_sem] g_setsM_eq t_setsM
def bestI (v : List Int -> Int) (xss : List (List Int)) : Nat -> Nat
  | 0 => 0
  | k + 1 => if v (ix xss (k : Int)) < v (ix xss (bestI v xss k : Int)) then k else bestI v xss k
theorem bestI_lt (v : List Int -> Int) {xss : List (List Int)} (h : 0 < xss.length) : ∀ k, k <= xss.length -> bestI v xss k < xss.length
  | 0, _ => h
  | k + 1, hk => by
    unfold bestI
    split
    · omega
    · exact bestI_lt v h k (by omega)
theorem bestI_ix (v : List Int -> Int) (xss : List (List Int)) : ∀ k, ix xss (bestI v xss k : Int) = bestT v xss k
  | 0 => rfl
  | k + 1 => by
    unfold bestI bestT
    rw [<- bestI_ix v xss k]
    split <;> rfl
def g_leastM : List AV -> Heap -> Prop × AV × Heap
  | [.mt 0, .bnd 42 [.agg [.ints o, .rows d]]], [(0, .mat xss)] => (0 < xss.length /\ xss.length <= 1048576000 /\ ∀ x ∈ xss, OpenOK o d x, .mr 0 (bestI (total o d) xss xss.length), [(0, .mat xss)])
  | _, _ => (False, .undef, [])
theorem g_leastM_eq (xss : List (List Int)) (o : List Int) (d : List (List Int)) : g_leastM [.mt 0, .bnd 42 [.agg [.ints o, .rows d]]] [(0, .mat xss)] = (0 < xss.length /\ xss.length <= 1048576000 /\ ∀ x ∈ xss, OpenOK o d x, .mr 0 (bestI (total o d) xss xss.length), [(0, .mat xss)]) := (rfl)
theorem leastM_ok (xss : List (List Int)) (o : List Int) (d : List (List Int)) (hp : 0 < xss.length /\ xss.length <= 1048576000 /\ ∀ x ∈ xss, OpenOK o d x) : SpecM Try.prog 40 [.mt 0, .bnd 42 [.agg [.ints o, .rows d]]] [(0, .mat xss)] 1 (.mr 0 (bestI (total o d) xss xss.length)) [(0, .mat xss)] := by
  refine fun_okM (C := t_totalI) (hint := hintX [] [] 1 [] [] [] []) (t_totalI_ok) mixed Try.func40 rfl (by kernel_rfl) rfl (Nat.le_refl _) (upTo_look rfl) (shapes ?_) ?_
  · exact ⟨fun k' h => by cases h; exact ss_mat rfl, trivial⟩
  show codeA _ _ _ _ _ _ _ _
  simp only [go_sem, Try.results40]
  obtain ⟨h0, h1, ho⟩ := hp
  have hx := fun k (hk : k < xss.length) => ho _ (ix_mem xss hk)
  have hbl := fun k hk => bestI_lt (total o d) h0 k hk
  have step := fun (k : Nat) => (show bestI (total o d) xss (k + 1) = if total o d (ix xss (k : Int)) < total o d (ix xss (bestI (total o d) xss k : Int)) then k else bestI (total o d) xss k from rfl)
  refine ⟨by omega, ?_⟩
  refine loop_intro (fun k : Nat => [(5, .mr 0 (bestI (total o d) xss k)), (11, .mt 0), (12, .int .i64 xss.length), (13, .int .i64 k), (1, .bnd 42 [.agg [.ints o, .rows d]])]) (fun _ => [(0, .mat xss)]) 1 (fun k => k <= xss.length) (fun k => xss.length - k) 0 (by omega) (by omega) ?_ ?_
  · simp only [go_sem]
    repeat' (first | refine fork_intro (fun hb => ?_) (fun hb => ?_) | refine partB_intro (fun hb => ?_) (fun hb => ?_) | refine And.intro ?_ ?_)
    all_goals first | exact True.intro | omega | with_reducible rfl | exact congrArg (AV.int _) (by omega) | (first | rfl)
  · intro k hk
    have e := step k
    have hb := hbl k hk
    have hob := hx _ hb
    simp only [go_sem]
    refine fork_intro (fun hc => ?_) (fun hc => ?_)
    · refine ⟨by omega, hx k (by omega), hob, fork_intro (fun h3 => ?_) (fun h3 => ?_)⟩
      · rw [if_pos h3] at e
        repeat' (first | refine fork_intro (fun hb => ?_) (fun hb => ?_) | refine partB_intro (fun hb => ?_) (fun hb => ?_) | refine And.intro ?_ ?_)
        all_goals first | exact True.intro | omega | with_reducible rfl | exact congrArg (AV.int _) (by omega) | (refine LoopEnd.intro (k + 1) (by first | omega) (by first | omega | (dsimp only; omega)) (by omega) ?_; simp only [go_sem]; (repeat' (first | refine fork_intro (fun hb => ?_) (fun hb => ?_) | refine partB_intro (fun hb => ?_) (fun hb => ?_) | refine And.intro ?_ ?_)); all_goals first | exact True.intro | omega | with_reducible rfl | exact congrArg (AV.int _) (by omega) | (first | rw [e])) | (first | rw [e])
      · rw [if_neg h3] at e
        repeat' (first | refine fork_intro (fun hb => ?_) (fun hb => ?_) | refine partB_intro (fun hb => ?_) (fun hb => ?_) | refine And.intro ?_ ?_)
        all_goals first | exact True.intro | omega | with_reducible rfl | exact congrArg (AV.int _) (by omega) | (refine LoopEnd.intro (k + 1) (by first | omega) (by first | omega | (dsimp only; omega)) (by omega) ?_; simp only [go_sem]; (repeat' (first | refine fork_intro (fun hb => ?_) (fun hb => ?_) | refine partB_intro (fun hb => ?_) (fun hb => ?_) | refine And.intro ?_ ?_)); all_goals first | exact True.intro | omega | with_reducible rfl | exact congrArg (AV.int _) (by omega) | (first | rw [e])) | (first | rw [e])
    · rw [show k = xss.length by omega]
def t_leastM : Table := [(40, mutC 1 g_leastM)]
theorem t_leastM_ok : TabOK Try.prog t_leastM := .cons Try.func40 (by kernel_rfl) (.mut (by intro args pre _ hp; unfold g_leastM at hp ⊢; split at hp <;> first | exact hp.elim | exact leastM_ok _ _ _ hp)) (.nil _)
attribute [go_sem] g_leastM_eq t_leastM
def g_bestSetM : List AV -> Prop × AV × Heap
  | [.agg [.ints o, .rows d]] => (o.length <= 1048576000 /\ d.length <= 1048576000 /\ ∀ x ∈ d, x.length <= 1048576000, .tup [.sl 0, .bool (good o d)], [(0, .arr (.ints (bif good o d then bestL o d else [])))])
  | _ => (False, .undef, [])
theorem g_bestSetM_eq (o : List Int) (d : List (List Int)) : g_bestSetM [.agg [.ints o, .rows d]] = (o.length <= 1048576000 /\ d.length <= 1048576000 /\ ∀ x ∈ d, x.length <= 1048576000, .tup [.sl 0, .bool (good o d)], [(0, .arr (.ints (bif good o d then bestL o d else [])))]) := (rfl)
theorem bestSetM_ok (o : List Int) (d : List (List Int)) (hp : o.length <= 1048576000 /\ d.length <= 1048576000 /\ ∀ x ∈ d, x.length <= 1048576000) : SpecOK Try.prog 16 [.agg [.ints o, .rows d]] (.tup [.sl 0, .bool (good o d)]) [(0, .arr (.ints (bif good o d then bestL o d else [])))] := by
  refine fun_ok (C := t_isF ++ t_setsM ++ t_leastM) (hint := hintX [10] [(2, [.post, .up 2 (.arr (.ints []))]), (3, [.post, .row 2, .ren 2 0])] 0 [40] [10] [] []) (((t_isF_ok).append t_setsM_ok).append t_leastM_ok) mixed Try.func16 rfl (by kernel_rfl) rfl ?_
  show codeA _ _ _ _ _ _ _ _
  simp only [go_sem, Try.results16]
  refine ⟨hp, partB_intro (fun hg => ?_) (fun hg => ?_)⟩
  · rw [hg]
    have hf := good_iff.1 hg
    have hn := hf.n7
    have hn1 := hf.n1
    have hl := setsL_len o.length
    have h2 := pow_ge2 o.length hn1
    have h3 := pow_7 o.length hn
    have e : ix (setsL o.length) (bestI (total o d) (setsL o.length) (setsL o.length).length : Int) = bestL o d := bestI_ix _ _ _
    rw [e]
    refine ⟨by omega, ⟨by omega, by omega, fun x hx => setsL_open hf hx⟩, ?_⟩
    trace_state
    repeat' (first | refine fork_intro (fun hb => ?_) (fun hb => ?_) | refine partB_intro (fun hb => ?_) (fun hb => ?_) | refine And.intro ?_ ?_)
    all_goals first | trivial | rfl | omega
  · rw [hg]
    repeat' (first | refine fork_intro (fun hb => ?_) (fun hb => ?_) | refine partB_intro (fun hb => ?_) (fun hb => ?_) | refine And.intro ?_ ?_)
    all_goals first | exact True.intro | omega | with_reducible rfl | exact congrArg (AV.int _) (by omega) | (first | rfl)
def t_bestSetM : Table := [(16, ownC g_bestSetM)]
theorem t_bestSetM_ok : TabOK Try.prog t_bestSetM := .cons Try.func16 (by kernel_rfl) (.own (by intro args hp; unfold g_bestSetM at hp ⊢; split at hp <;> first | exact hp.elim | exact ⟨bestSetM_ok _ _ hp, rfl⟩)) (.nil _)
attribute [go_sem] g_bestSetM_eq t_bestSetM
end Go.Proofs.Ytgcbdpehnonghaa
