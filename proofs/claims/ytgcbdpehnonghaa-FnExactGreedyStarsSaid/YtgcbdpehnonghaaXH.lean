/- Stars: the clients of one site in the order of their lengths, in both packages. -/
import Derived.Test.YtgcbdpehnonghaaXG
namespace Go.Proofs.Ytgcbdpehnonghaa
open Go.Vc
set_option maxRecDepth 100000
set_option maxHeartbeats 1600000
set_option linter.unusedSimpArgs false
set_option linter.unusedVariables false
/-- Clients of a field. -/
structure ClOK (o : List Int) (d : List (List Int)) (xs : List Int) (s : Int) : Prop where
  f : FieldOK o d
  l7 : xs.length <= 7
  s0 : 0 <= s /\ s < o.length
  mem : ∀ x ∈ xs, 0 <= x /\ x < d.length
theorem colT_ixI {d : List (List Int)} {s y : Int} (h : 0 <= y /\ y < d.length) : ix (colT d s) y = ix (ix d y) s := by
  obtain ⟨y, rfl⟩ : ∃ k : Nat, y = k := ⟨y.toNat, by omega⟩
  exact colT_ix d s (by omega)
def g_nrI : List AV -> Prop × AV × Heap
  | [.agg [.ints o, .rows d], .int .i64 s, .ints xs] => (ClOK o d xs s, .sl 0, [(0, .arr (.ints (near d s xs)))])
  | _ => (False, .undef, [])
theorem g_nrI_eq (o : List Int) (d : List (List Int)) (s : Int) (xs : List Int) : g_nrI [.agg [.ints o, .rows d], .int .i64 s, .ints xs] = (ClOK o d xs s, .sl 0, [(0, .arr (.ints (near d s xs)))]) := (rfl)
theorem nrI_ok (o : List Int) (d : List (List Int)) (s : Int) (xs : List Int) (hp : ClOK o d xs s) : SpecOK Try.prog 32 [.agg [.ints o, .rows d], .int .i64 s, .ints xs] (.sl 0) [(0, .arr (.ints (near d s xs)))] := by
  refine fun_ok (C := t_cloneI ++ t_stabI) (hint := hintX [9] [] 0 [58] [] [] []) ((t_cloneI_ok).append t_stabI_ok) mixed Try.func32 rfl (by kernel_rfl) rfl ?_
  show codeA _ _ _ _ _ _ _ _
  simp only [go_sem, Try.results32]
  obtain ⟨hf, h7, hs, hm⟩ := hp
  exact ⟨by omega, ⟨h7, hf, hs, hm⟩, rfl⟩
def t_nrI : Table := [(32, ownC g_nrI)]
theorem t_nrI_ok : TabOK Try.prog t_nrI := .cons Try.func32 (by kernel_rfl) (.own (by intro args hp; unfold g_nrI at hp ⊢; split at hp <;> first | exact hp.elim | exact ⟨nrI_ok _ _ _ _ hp, rfl⟩)) (.nil _)
attribute [go_sem] g_nrI_eq t_nrI
def g_nrS : List AV -> Prop × AV
  | [.agg [.ints o, .rows d], .ints xs, .int .i64 s] => (ClOK o d xs s, .ints (near d s xs))
  | _ => (False, .undef)
theorem g_nrS_eq (o : List Int) (d : List (List Int)) (xs : List Int) (s : Int) : g_nrS [.agg [.ints o, .rows d], .ints xs, .int .i64 s] = (ClOK o d xs s, .ints (near d s xs)) := (rfl)
theorem nrS_ok (o : List Int) (d : List (List Int)) (xs : List Int) (s : Int) (hp : ClOK o d xs s) : SpecOK Try.prog 50 [.agg [.ints o, .rows d], .ints xs, .int .i64 s] (.ints (near d s xs)) [] := by
  refine fun_ok (C := t_ownI) (hint := hintX [51] [] 0 [] [] [(8, [0, 1, 2, 3, 4, 5, 6, 7, 8, 10, 11, 12, 9, 13, 14])] [(8, [9, 12])]) (t_ownI_ok) mixed Try.func50 rfl (by kernel_rfl) rfl ?_
  show codeA _ _ _ _ _ _ _ _
  simp only [go_sem, Try.results50]
  obtain ⟨hf, h7, hs, hm⟩ := hp
  obtain ⟨s, rfl⟩ : ∃ k : Nat, s = k := ⟨s.toNat, by omega⟩
  have hm7 := hf.m7
  refine loop_intro (fun i : Nat => [(7, .ints (near d (s : Int) (xs.take i))), (8, .int .i64 i), (1, .ints xs), (2, .int .i64 s), (3, .iptr [.ints o, .rows d])]) (fun _ => []) 0 (fun i => i <= xs.length) (fun i => xs.length - i) 0 (Nat.zero_le _) (Nat.zero_le _) ?_ ?_
  · simp only [go_sem]
    repeat' (first | refine fork_intro (fun hb => ?_) (fun hb => ?_) | refine partB_intro (fun hb => ?_) (fun hb => ?_) | refine And.intro ?_ ?_)
    all_goals first | exact True.intro | omega | with_reducible rfl | exact congrArg (AV.int _) (by omega) | (first | rfl)
  · intro i hi
    have hnl := near_len d (s : Int) (xs.take i)
    have htl : (xs.take i).length = i := by rw [List.length_take]; omega
    simp only [go_sem]
    refine fork_intro (fun hc => ?_) (fun hc => ?_)
    · have hil : i < xs.length := by omega
      have hx := hm _ (ix_mem xs hil)
      refine loop_intro (fun k : Nat => [(9, .int .i64 k), (7, .ints (near d (s : Int) (xs.take i))), (8, .int .i64 i), (1, .ints xs), (2, .int .i64 s), (3, .iptr [.ints o, .rows d])]) (fun _ => []) 0 (fun k => k <= cutF (ltT (colT d s)) (near d (s : Int) (xs.take i)) (ix xs (i : Int)) i) (fun k => i - k) 0 (Nat.zero_le _) (Nat.zero_le _) ?_ ?_
      · simp only [go_sem]
        repeat' (first | refine fork_intro (fun hb => ?_) (fun hb => ?_) | refine partB_intro (fun hb => ?_) (fun hb => ?_) | refine And.intro ?_ ?_)
        all_goals first | exact True.intro | omega | with_reducible rfl | exact congrArg (AV.int _) (by omega) | (first | rfl)
      · obtain ⟨N, hN⟩ : ∃ N, N = near d (s : Int) (xs.take i) := ⟨_, rfl⟩
        have hNm : ∀ x ∈ N, 0 <= x /\ x < d.length := fun x hx => by rw [hN] at hx; exact hm x (List.mem_of_mem_take (near_mem.1 hx))
        have hso : SortT (colT d (s : Int)) N := by rw [hN]; exact sort_insF _ xs i (by omega)
        have hnx : near d (s : Int) (xs.take (i + 1)) = insL (ltT (colT d (s : Int))) N (ix xs (i : Int)) := by rw [hN]; exact insF_succ _ hil
        rw [<- hN] at hnl ⊢
        rw [htl] at hnl
        obtain ⟨cf1, cf2⟩ := cut_facts (x := ix xs (i : Int)) hso i (by omega)
        have hcl := cutF_le (ltT (colT d (s : Int))) N (ix xs (i : Int)) i
        unfold insL at hnx
        rw [hnl] at hnx
        generalize hc0 : cutF (ltT (colT d (s : Int))) N (ix xs (i : Int)) i = c at *
        rw [colT_ixI hx] at cf1 cf2
        have hlx := hf.len _ (ix_memI d hx.1 hx.2)
        intro k hk
        have e1 := cutL_pre N k
        have e2 := cutL_suf N k
        have hl1 : (N.take k).length = k := by rw [List.length_take]; omega
        have hl2 : (N.drop k).length = i - k := by rw [List.length_drop]; omega
        simp only [go_sem]
        simp only [e1, e2]
        refine fork_intro (fun hc2 => ?_) (fun hc2 => ?_)
        · have hkm := hNm _ (ix_mem N (show k < N.length by omega))
          have hlk := hf.len _ (ix_memI d hkm.1 hkm.2)
          have ck := colT_ixI (s := (s : Int)) hkm
          refine ⟨by omega, by omega, by omega, by omega, by omega, by omega, fork_intro (fun h3 => ?_) (fun h3 => ?_)⟩
          · have hkc : k < c := by
              rcases Nat.lt_or_ge k c with h | h
              · exact h
              · have hkc : k = c := by omega
                rw [<- hkc, ck] at cf2
                have := cf2 (by omega)
                omega
            repeat' (first | refine fork_intro (fun hb => ?_) (fun hb => ?_) | refine partB_intro (fun hb => ?_) (fun hb => ?_) | refine And.intro ?_ ?_)
            all_goals first | exact True.intro | omega | with_reducible rfl | exact congrArg (AV.int _) (by omega) | (refine LoopEnd.intro (k + 1) (by first | omega) (by first | omega | (dsimp only; omega)) (by omega) ?_; simp only [go_sem]; (repeat' (first | refine fork_intro (fun hb => ?_) (fun hb => ?_) | refine partB_intro (fun hb => ?_) (fun hb => ?_) | refine And.intro ?_ ?_)); all_goals first | exact True.intro | omega | with_reducible rfl | exact congrArg (AV.int _) (by omega) | (first | rfl)) | (first | rfl)
          · have hkc : k = c := by
              rcases Nat.lt_or_ge k c with h | h
              · have := cf1 k h
                rw [ck] at this
                omega
              · omega
            refine ⟨by omega, by omega, by omega, by omega, by omega, by omega, by omega, by omega, ?_⟩
            refine LoopEnd.intro (i + 1) ?_ ?_ (Nat.zero_le _) ?_ <;> (try omega)
            rw [hnx, <- hkc]
            simp only [go_sem, List.append_assoc, List.singleton_append]
            repeat' (first | refine fork_intro (fun hb => ?_) (fun hb => ?_) | refine partB_intro (fun hb => ?_) (fun hb => ?_) | refine And.intro ?_ ?_)
            all_goals first | exact True.intro | omega | with_reducible rfl | exact congrArg (AV.int _) (by omega) | (first | rfl)
        · have hkc : k = c := by omega
          refine ⟨by omega, by omega, by omega, by omega, by omega, by omega, by omega, by omega, ?_⟩
          refine LoopEnd.intro (i + 1) ?_ ?_ (Nat.zero_le _) ?_ <;> (try omega)
          rw [hnx, <- hkc]
          simp only [go_sem, List.append_assoc, List.singleton_append]
          repeat' (first | refine fork_intro (fun hb => ?_) (fun hb => ?_) | refine partB_intro (fun hb => ?_) (fun hb => ?_) | refine And.intro ?_ ?_)
          all_goals first | exact True.intro | omega | with_reducible rfl | exact congrArg (AV.int _) (by omega) | (first | rfl)
    · rw [show i = xs.length by omega, List.take_length]
def t_nrS : Table := [(50, pureC g_nrS)]
theorem t_nrS_ok : TabOK Try.prog t_nrS := .cons Try.func50 (by kernel_rfl) (.pure (by intro args hp; unfold g_nrS at hp ⊢; split at hp <;> first | exact hp.elim | exact nrS_ok _ _ _ _ hp)) (.nil _)
attribute [go_sem] g_nrS_eq t_nrS
end Go.Proofs.Ytgcbdpehnonghaa
