/- Best sets, as the program finds them. -/
import Derived.Test.YtgcbdpehnonghaaA24
import Derived.Test.YtgcbdpehnonghaaA23i
namespace Go.Proofs.Ytgcbdpehnonghaa
open Go.Vc
set_option maxRecDepth 100000
set_option linter.unusedSimpArgs false
set_option linter.unusedVariables false

def valG (g : Nat) (o : List Int) (d : List (List Int)) (set : List Int) : Int := if g = 42 then total o d set else svc d set
def g_least : List AV -> Prop × AV
  | [.rows xss, .bnd g [.agg [.ints o, .rows d]]] => ((g = 42 \/ g = 67) /\ 0 < xss.length /\ xss.length <= 1048576000 /\ ∀ x ∈ xss, OpenOK o d x, .ints (bestT (valG g o d) xss xss.length))
  | _ => (False, .undef)
theorem g_least_eq (xss : List (List Int)) (g : Nat) (o : List Int) (d : List (List Int)) : g_least [.rows xss, .bnd g [.agg [.ints o, .rows d]]] = ((g = 42 \/ g = 67) /\ 0 < xss.length /\ xss.length <= 1048576000 /\ ∀ x ∈ xss, OpenOK o d x, .ints (bestT (valG g o d) xss xss.length)) := (rfl)
theorem least_ok (xss : List (List Int)) (g : Nat) (o : List Int) (d : List (List Int)) (hp : (g = 42 \/ g = 67) /\ 0 < xss.length /\ xss.length <= 1048576000 /\ ∀ x ∈ xss, OpenOK o d x) : SpecOK Try.prog 40 [.rows xss, .bnd g [.agg [.ints o, .rows d]]] (.ints (bestT (valG g o d) xss xss.length)) [] := by
  refine fun_ok (C := t_totalI ++ t_serviceI) (hint := hintX [] [] 0 [] [] [] []) ((t_totalI_ok).append t_serviceI_ok) mixed Try.func40 rfl (by kernel_rfl) rfl ?_
  show codeA _ _ _ _ _ _ _ _
  simp only [go_sem, Try.results40]
  obtain ⟨hg, h0, h1, ho⟩ := hp
  have hb := fun k hk => ho _ (bestT_mem (valG g o d) h0 k hk)
  have hx := fun k (hk : k < xss.length) => ho _ (ix_mem xss hk)
  have step := fun (k : Nat) => (show bestT (valG g o d) xss (k + 1) = if valG g o d (ix xss (k : Int)) < valG g o d (bestT (valG g o d) xss k) then ix xss (k : Int) else bestT (valG g o d) xss k from rfl)
  have go : ∀ v : List Int -> Int, v = valG g o d -> True := fun _ _ => trivial
  rcases hg with rfl | rfl
  · have ev : ∀ s, valG 42 o d s = total o d s := fun s => rfl
    generalize valG 42 o d = v at *
    refine ⟨by omega, ?_⟩
    refine loop_intro (fun k : Nat => [(5, .ints (bestT v xss k)), (11, .rows xss), (12, .int .i64 xss.length), (13, .int .i64 k), (1, .bnd 42 [.agg [.ints o, .rows d]])]) (fun _ => []) 0 (fun k => k <= xss.length) (fun k => xss.length - k) 0 (by omega) (by omega) ?_ ?_
    · simp only [go_sem]
      repeat' (first | refine fork_intro (fun hb => ?_) (fun hb => ?_) | refine partB_intro (fun hb => ?_) (fun hb => ?_) | refine And.intro ?_ ?_)
      all_goals first | exact True.intro | omega | with_reducible rfl | exact congrArg (AV.int _) (by omega) | (first | rfl)
    · intro k hk
      have e := step k
      rw [ev, ev] at e
      simp only [go_sem]
      refine fork_intro (fun hc => ?_) (fun hc => ?_)
      · refine ⟨⟨by omega, by omega⟩, hx k (by omega), hb k hk, fork_intro (fun h3 => ?_) (fun h3 => ?_)⟩
        · rw [if_pos h3] at e
          repeat' (first | refine fork_intro (fun hb => ?_) (fun hb => ?_) | refine partB_intro (fun hb => ?_) (fun hb => ?_) | refine And.intro ?_ ?_)
          all_goals first | exact True.intro | omega | with_reducible rfl | exact congrArg (AV.int _) (by omega) | (refine LoopEnd.intro (k + 1) (by first | omega) (by first | omega | (dsimp only; omega)) (by omega) ?_; simp only [go_sem]; (repeat' (first | refine fork_intro (fun hb => ?_) (fun hb => ?_) | refine partB_intro (fun hb => ?_) (fun hb => ?_) | refine And.intro ?_ ?_)); all_goals first | exact True.intro | omega | with_reducible rfl | exact congrArg (AV.int _) (by omega) | (first | rw [e])) | (first | rw [e])
        · rw [if_neg h3] at e
          repeat' (first | refine fork_intro (fun hb => ?_) (fun hb => ?_) | refine partB_intro (fun hb => ?_) (fun hb => ?_) | refine And.intro ?_ ?_)
          all_goals first | exact True.intro | omega | with_reducible rfl | exact congrArg (AV.int _) (by omega) | (refine LoopEnd.intro (k + 1) (by first | omega) (by first | omega | (dsimp only; omega)) (by omega) ?_; simp only [go_sem]; (repeat' (first | refine fork_intro (fun hb => ?_) (fun hb => ?_) | refine partB_intro (fun hb => ?_) (fun hb => ?_) | refine And.intro ?_ ?_)); all_goals first | exact True.intro | omega | with_reducible rfl | exact congrArg (AV.int _) (by omega) | (first | rw [e])) | (first | rw [e])
      · rw [show k = xss.length by omega]
  · have ev : ∀ s, valG 67 o d s = svc d s := fun s => rfl
    generalize valG 67 o d = v at *
    refine ⟨by omega, ?_⟩
    refine loop_intro (fun k : Nat => [(5, .ints (bestT v xss k)), (11, .rows xss), (12, .int .i64 xss.length), (13, .int .i64 k), (1, .bnd 67 [.agg [.ints o, .rows d]])]) (fun _ => []) 0 (fun k => k <= xss.length) (fun k => xss.length - k) 0 (by omega) (by omega) ?_ ?_
    · simp only [go_sem]
      repeat' (first | refine fork_intro (fun hb => ?_) (fun hb => ?_) | refine partB_intro (fun hb => ?_) (fun hb => ?_) | refine And.intro ?_ ?_)
      all_goals first | exact True.intro | omega | with_reducible rfl | exact congrArg (AV.int _) (by omega) | (first | rfl)
    · intro k hk
      have e := step k
      rw [ev, ev] at e
      simp only [go_sem]
      refine fork_intro (fun hc => ?_) (fun hc => ?_)
      · refine ⟨⟨by omega, by omega⟩, hx k (by omega), hb k hk, fork_intro (fun h3 => ?_) (fun h3 => ?_)⟩
        · rw [if_pos h3] at e
          repeat' (first | refine fork_intro (fun hb => ?_) (fun hb => ?_) | refine partB_intro (fun hb => ?_) (fun hb => ?_) | refine And.intro ?_ ?_)
          all_goals first | exact True.intro | omega | with_reducible rfl | exact congrArg (AV.int _) (by omega) | (refine LoopEnd.intro (k + 1) (by first | omega) (by first | omega | (dsimp only; omega)) (by omega) ?_; simp only [go_sem]; (repeat' (first | refine fork_intro (fun hb => ?_) (fun hb => ?_) | refine partB_intro (fun hb => ?_) (fun hb => ?_) | refine And.intro ?_ ?_)); all_goals first | exact True.intro | omega | with_reducible rfl | exact congrArg (AV.int _) (by omega) | (first | rw [e])) | (first | rw [e])
        · rw [if_neg h3] at e
          repeat' (first | refine fork_intro (fun hb => ?_) (fun hb => ?_) | refine partB_intro (fun hb => ?_) (fun hb => ?_) | refine And.intro ?_ ?_)
          all_goals first | exact True.intro | omega | with_reducible rfl | exact congrArg (AV.int _) (by omega) | (refine LoopEnd.intro (k + 1) (by first | omega) (by first | omega | (dsimp only; omega)) (by omega) ?_; simp only [go_sem]; (repeat' (first | refine fork_intro (fun hb => ?_) (fun hb => ?_) | refine partB_intro (fun hb => ?_) (fun hb => ?_) | refine And.intro ?_ ?_)); all_goals first | exact True.intro | omega | with_reducible rfl | exact congrArg (AV.int _) (by omega) | (first | rw [e])) | (first | rw [e])
      · rw [show k = xss.length by omega]
def t_least : Table := [(40, pureC g_least)]
theorem t_least_ok : TabOK Try.prog t_least := .cons Try.func40 (by kernel_rfl) (.pure (by intro args hp; unfold g_least at hp ⊢; split at hp <;> first | exact hp.elim | exact least_ok _ _ _ _ hp)) (.nil _)
attribute [go_sem] g_least_eq t_least
def g_bestSetS : List AV -> Prop × AV
  | [.agg [.ints o, .rows d]] => (o.length <= 1048576000 /\ d.length <= 1048576000 /\ ∀ x ∈ d, x.length <= 1048576000, .tup [.ints (bif good o d then bestL o d else []), .bool (good o d)])
  | _ => (False, .undef)
theorem g_bestSetS_eq (o : List Int) (d : List (List Int)) : g_bestSetS [.agg [.ints o, .rows d]] = (o.length <= 1048576000 /\ d.length <= 1048576000 /\ ∀ x ∈ d, x.length <= 1048576000, .tup [.ints (bif good o d then bestL o d else []), .bool (good o d)]) := (rfl)
theorem bestSetS_ok (o : List Int) (d : List (List Int)) (hp : o.length <= 1048576000 /\ d.length <= 1048576000 /\ ∀ x ∈ d, x.length <= 1048576000) : SpecOK Try.prog 15 [.agg [.ints o, .rows d]] (.tup [.ints (bif good o d then bestL o d else []), .bool (good o d)]) [] := by
  refine fun_ok (C := t_l2Good ++ t_bestS) (hint := hintX [] [] 0 [] [] [] []) ((t_l2Good_ok).append t_bestS_ok) mixed Try.func15 rfl (by kernel_rfl) rfl ?_
  show codeA _ _ _ _ _ _ _ _
  simp only [go_sem, Try.results15]
  refine ⟨hp, partB_intro (fun hg => ?_) (fun hg => ?_)⟩
  · rw [hg]
    exact ⟨good_iff.1 hg, rfl, rfl⟩
  · rw [hg]
    repeat' (first | refine fork_intro (fun hb => ?_) (fun hb => ?_) | refine partB_intro (fun hb => ?_) (fun hb => ?_) | refine And.intro ?_ ?_)
    all_goals first | exact True.intro | omega | with_reducible rfl | exact congrArg (AV.int _) (by omega) | (first | rfl)
def t_bestSetS : Table := [(15, pureC g_bestSetS)]
theorem t_bestSetS_ok : TabOK Try.prog t_bestSetS := .cons Try.func15 (by kernel_rfl) (.pure (by intro args hp; unfold g_bestSetS at hp ⊢; split at hp <;> first | exact hp.elim | exact bestSetS_ok _ _ hp)) (.nil _)
attribute [go_sem] g_bestSetS_eq t_bestSetS
def g_bestSetI : List AV -> Prop × AV
  | [.agg [.ints o, .rows d]] => (o.length <= 1048576000 /\ d.length <= 1048576000 /\ ∀ x ∈ d, x.length <= 1048576000, .tup [.ints (bif good o d then bestL o d else []), .bool (good o d)])
  | _ => (False, .undef)
theorem g_bestSetI_eq (o : List Int) (d : List (List Int)) : g_bestSetI [.agg [.ints o, .rows d]] = (o.length <= 1048576000 /\ d.length <= 1048576000 /\ ∀ x ∈ d, x.length <= 1048576000, .tup [.ints (bif good o d then bestL o d else []), .bool (good o d)]) := (rfl)
theorem bestSetI_ok (o : List Int) (d : List (List Int)) (hp : o.length <= 1048576000 /\ d.length <= 1048576000 /\ ∀ x ∈ d, x.length <= 1048576000) : SpecOK Try.prog 16 [.agg [.ints o, .rows d]] (.tup [.ints (bif good o d then bestL o d else []), .bool (good o d)]) [] := by
  refine fun_ok (C := t_isF ++ t_setsI ++ t_least) (hint := hintX [] [] 0 [] [] [] []) (((t_isF_ok).append t_setsI_ok).append t_least_ok) mixed Try.func16 rfl (by kernel_rfl) rfl ?_
  show codeA _ _ _ _ _ _ _ _
  simp only [go_sem, Try.results16]
  refine ⟨hp, partB_intro (fun hg => ?_) (fun hg => ?_)⟩
  · rw [hg]
    have hf := good_iff.1 hg
    have hn := hf.n7
    have hn1 := hf.n1
    have hl := setsL_len o.length
    have h2 := pow_ge2 o.length hn1
    have h3 := pow_7 o.length hn
    refine ⟨by omega, ⟨.inl trivial, by omega, by omega, fun x hx => setsL_open hf hx⟩, rfl, rfl⟩
  · rw [hg]
    repeat' (first | refine fork_intro (fun hb => ?_) (fun hb => ?_) | refine partB_intro (fun hb => ?_) (fun hb => ?_) | refine And.intro ?_ ?_)
    all_goals first | exact True.intro | omega | with_reducible rfl | exact congrArg (AV.int _) (by omega) | (first | rfl)
def t_bestSetI : Table := [(16, pureC g_bestSetI)]
theorem t_bestSetI_ok : TabOK Try.prog t_bestSetI := .cons Try.func16 (by kernel_rfl) (.pure (by intro args hp; unfold g_bestSetI at hp ⊢; split at hp <;> first | exact hp.elim | exact bestSetI_ok _ _ hp)) (.nil _)
attribute [go_sem] g_bestSetI_eq t_bestSetI
end Go.Proofs.Ytgcbdpehnonghaa
