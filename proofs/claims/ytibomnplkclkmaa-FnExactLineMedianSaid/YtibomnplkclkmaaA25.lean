/- Medians on a line: both packages say the same. -/
import Derived.Test.YtibomnplkclkmaaA24
import Derived.Test.YtibomnplkclkmaaXD
import Derived.Test.YtibomnplkclkmaaA11
import Derived.Test.YtibomnplkclkmaaA19b
namespace Go.Proofs.Ytibomnplkclkmaa
open Go.Vc
set_option maxRecDepth 100000
set_option linter.unusedSimpArgs false
set_option linter.unusedVariables false

def g_setsO : List AV → Prop × AV × Heap
  | [.int .i64 m] => (1 ≤ m ∧ m ≤ 7, .sl 0, [(0, .arr (.rows (setsL m.toNat)))])
  | _ => (False, .undef, [])
theorem g_setsO_eq (m : Int) : g_setsO [.int .i64 m] = (1 ≤ m ∧ m ≤ 7, .sl 0, [(0, .arr (.rows (setsL m.toNat)))]) := (rfl)
theorem setsO_ok (m : Int) (hp : 1 ≤ m ∧ m ≤ 7) : SpecOK Try.prog 103 [.int .i64 m] (.sl 0) [(0, .arr (.rows (setsL m.toNat)))] := by
  refine fun_ok (C := t_listI ++ t_sortC) (hint := hintX [3, 5, 16] [] 0 [145] [] [] []) ((t_listI_ok).append t_sortC_ok) mixed Try.func103 rfl (by kernel_rfl) rfl ?_
  show codeA _ _ _ _ _ _ _ _
  simp only [go_sem, ↓reduceIte, Nat.reduceEqDiff, Nat.reduceBEq, Nat.reduceAdd, Nat.reduceSub, Nat.reduceLeDiff, Nat.reduceMul, Nat.reduceLT, Try.results103]
  obtain ⟨n, rfl⟩ : ∃ n : Nat, m = n := ⟨m.toNat, by omega⟩
  have hp7 := pow_7 n (by omega)
  simp only [Int.toNat_natCast]
  refine loop_intro (fun c : Nat => [(3, .sl 0), (4, .int .u64 ((c + 1 : Nat) : Int)), (0, .int .i64 n)]) (fun c => [(0, .arr (.rows (allK n c)))]) 1 (fun c => c ≤ 2 ^ n - 1) (fun c => 2 ^ n - 1 - c) 0 (by omega) (by omega) ?_ ?_
  · simp only [go_sem, ↓reduceIte, Nat.reduceEqDiff, Nat.reduceBEq, Nat.reduceAdd, Nat.reduceSub, Nat.reduceLeDiff, Nat.reduceMul, Nat.reduceLT]
    repeat' (first | refine fork_intro (fun hb => ?_) (fun hb => ?_) | refine partB_intro (fun hb => ?_) (fun hb => ?_) | refine And.intro ?_ ?_)
    all_goals first | exact True.intro | omega | with_reducible rfl | exact congrArg (AV.int _) (by omega) | (first | rfl)
  · intro c hc
    have hcl : (allK n c).length = c := tab_len _ _
    have e := tab_succ c fun c => bagL (c + 1)
    have hw : IntKind.u64.wrap (((c + 1 : Nat) : Int) + 1) = ((c + 1 + 1 : Nat) : Int) := by
      have := wrap_nat (x := c + 1 + 1) (by omega)
      rw [← this]; congr 1
    simp only [go_sem, ↓reduceIte, Nat.reduceEqDiff, Nat.reduceBEq, Nat.reduceAdd, Nat.reduceSub, Nat.reduceLeDiff, Nat.reduceMul, Nat.reduceLT, v_addu, p_addu]
    rw [hw]
    refine ⟨by omega, fork_intro (fun h1 => ?_) (fun h1 => ?_)⟩
    · have hn2 : c + 1 < 2 ^ n := by have := hp7.2.2; omega
      refine ⟨⟨by omega, by omega⟩, by omega, ?_⟩
      refine LoopEnd.intro (c + 1) (by omega) (by omega) (by omega) ?_
      simp only [go_sem, ↓reduceIte, Nat.reduceEqDiff, Nat.reduceBEq, Nat.reduceAdd, Nat.reduceSub, Nat.reduceLeDiff, Nat.reduceMul, Nat.reduceLT]
      exact congrArg AV.rows e.symm
    · have hce : c = 2 ^ n - 1 := by omega
      subst hce
      have hnd := allL_nodup (n := n) (by omega)
      have hme := fun (x : List Int) hx => (allL_mem (n := n) (by omega) (set := x) hx).2.1
      refine ⟨⟨by rw [hcl]; have := pow_ge2 n (by omega); omega, by omega, hnd, fun x hx => Nat.le_trans (hme x hx) (by omega)⟩, ?_⟩
      first | rfl | exact ⟨rfl, rfl⟩
def t_setsO : Table := [(103, ownC g_setsO)]
theorem t_setsO_ok : TabOK Try.prog t_setsO := .cons Try.func103 (by kernel_rfl) (.own (by intro args hp; unfold g_setsO at hp ⊢; split at hp <;> first | exact hp.elim | exact ⟨setsO_ok _ hp, rfl⟩)) (.nil _)
attribute [go_sem] g_setsO_eq t_setsO

def msets (n : Nat) (k : Int) : List (List Int) := (setsL n).filter fun s => decide ((s.length : Int) = k)
def medL (o : List Int) (d : List (List Int)) (k : Int) : List Int := bestT (svc d) (msets o.length k) (msets o.length k).length
theorem ones_len : ∀ k : Nat, k ≤ 7 → 1 ≤ k → (bagL (2 ^ k - 1)).length = k ∧ 1 ≤ 2 ^ k - 1 := by decide +kernel
theorem msets_pos {n : Nat} {k : Int} (hn : n ≤ 7) (h1 : 1 ≤ k) (h2 : k ≤ n) : 0 < (msets n k).length := by
  obtain ⟨j, rfl⟩ : ∃ j : Nat, k = j := ⟨k.toNat, by omega⟩
  obtain ⟨e1, e2⟩ := ones_len j (by omega) (by omega)
  have hle : 2 ^ j ≤ 2 ^ n := Nat.pow_le_pow_right (by omega) (by omega)
  have hm : bagL (2 ^ j - 1) ∈ allL n := mem_tab.2 ⟨2 ^ j - 1 - 1, by omega, by rw [show 2 ^ j - 1 - 1 + 1 = 2 ^ j - 1 by omega]⟩
  have hm2 : bagL (2 ^ j - 1) ∈ msets n j := List.mem_filter.2 ⟨(sortS_perm (allL n)).mem_iff.2 hm, decide_eq_true (by rw [e1])⟩
  exact List.length_pos_of_mem hm2
theorem msets_open {o : List Int} {d : List (List Int)} (hf : FieldOK o d) {k : Int} {set : List Int} (hm : set ∈ msets o.length k) : OpenOK o d set := setsL_open hf (List.mem_filter.1 hm).1
theorem msets_le (n : Nat) (k : Int) : (msets n k).length ≤ 2 ^ n - 1 := Nat.le_trans (List.length_filter_le _ _) (by rw [setsL_len]; omega)
theorem medL_open {o : List Int} {d : List (List Int)} (hf : FieldOK o d) {k : Int} (h1 : 1 ≤ k) (h2 : k ≤ o.length) : OpenOK o d (medL o d k) :=
  msets_open hf (bestT_mem _ (msets_pos hf.n7 h1 h2) _ (Nat.le_refl _))

theorem bestT_app (v : List Int → Int) (ys : List (List Int)) (x : List Int) (h : ys ≠ []) : ∀ k, k ≤ ys.length → bestT v (ys ++ [x]) k = bestT v ys k := by
  have hi : ∀ k : Nat, k < ys.length → ix (ys ++ [x]) (k : Int) = ix ys (k : Int) := fun k hk => by
    have e1 := ix_some (ys ++ [x]) (k := k) (by simp; omega)
    have e2 := ix_some ys hk
    rw [List.getElem?_append_left hk, e2] at e1
    exact (Option.some.inj e1).symm
  intro k
  induction k with
  | zero => intro _; exact hi 0 (List.length_pos_iff.2 h)
  | succ k ih => intro hk; unfold bestT; rw [ih (by omega), hi k (by omega)]
def bM (v : List Int → Int) (k : Int) (xss : List (List Int)) : Nat → List Int
  | 0 => []
  | i + 1 => if ((ix xss (i : Int)).length : Int) = k ∧ ((bM v k xss i).length = 0 ∨ v (ix xss (i : Int)) < v (bM v k xss i)) then ix xss (i : Int) else bM v k xss i
theorem bM_eq (v : List Int → Int) (k : Int) {xss : List (List Int)} (hne : ∀ x ∈ xss, 0 < x.length) : ∀ i, i ≤ xss.length →
    bM v k xss i = bestT v ((xss.take i).filter fun s => decide ((s.length : Int) = k)) ((xss.take i).filter fun s => decide ((s.length : Int) = k)).length := by
  intro i
  induction i with
  | zero => intro _; rfl
  | succ i ih =>
    intro hi
    have ih := ih (by omega)
    have hx := ix_some xss (k := i) (by omega)
    have et : xss.take (i + 1) = xss.take i ++ [ix xss (i : Int)] := by rw [List.take_add_one, hx]; rfl
    rw [et, List.filter_append]
    generalize hys : ((xss.take i).filter fun s => decide ((s.length : Int) = k)) = ys at *
    generalize ix xss (i : Int) = x at *
    have hb : bM v k xss (i + 1) = if (x.length : Int) = k ∧ ((bM v k xss i).length = 0 ∨ v x < v (bM v k xss i)) then x else bM v k xss i := by
      have : ix xss (i : Int) = x := by have := ix_some xss (k := i) (by omega); rw [hx] at this; exact (Option.some.inj this).symm
      show (if ((ix xss (i : Int)).length : Int) = k ∧ _ then _ else _) = _
      rw [this]
    rw [hb]
    by_cases hk : (x.length : Int) = k
    · have ef : ([x].filter fun s => decide ((s.length : Int) = k)) = [x] := by simp [hk]
      rw [ef]
      by_cases hy : ys = []
      · subst hy
        have e0 : bM v k xss i = [] := by rw [ih]; rfl
        rw [e0, if_pos ⟨hk, .inl rfl⟩]
        show x = bestT v [x] 1
        rw [bestT_one]; rfl
      · have hlen : 0 < ys.length := List.length_pos_iff.2 hy
        have hpos : (bestT v ys ys.length).length ≠ 0 := by
          have hm := bestT_mem v hlen ys.length (Nat.le_refl _)
          generalize bestT v ys ys.length = b at *
          rw [← hys] at hm
          have := hne _ (List.mem_of_mem_take (List.mem_filter.1 hm).1)
          omega
        have e1 := bestT_app v ys x hy ys.length (Nat.le_refl _)
        have e2 : ix (ys ++ [x]) (ys.length : Int) = x := by
          have := ix_some (ys ++ [x]) (k := ys.length) (by simp)
          rw [List.getElem?_append_right (Nat.le_refl _)] at this
          simp at this; exact this.symm
        have e3 : bestT v (ys ++ [x]) (ys ++ [x]).length = if v x < v (bestT v ys ys.length) then x else bestT v ys ys.length := by
          rw [List.length_append]
          show (if v (ix (ys ++ [x]) (ys.length : Int)) < v (bestT v (ys ++ [x]) ys.length) then _ else _) = _
          rw [e1, e2]
        rw [e3, ih]
        by_cases hv : v x < v (bestT v ys ys.length)
        · rw [if_pos hv, if_pos ⟨hk, .inr hv⟩]
        · rw [if_neg hv, if_neg (fun h => by rcases h.2 with h | h; exact hpos h; exact hv h)]
    · have ef : ([x].filter fun s => decide ((s.length : Int) = k)) = [] := by simp [hk]
      rw [ef, List.append_nil, if_neg (fun h => hk h.1), ih]
theorem bM_all (v : List Int → Int) (k : Int) {xss : List (List Int)} (hne : ∀ x ∈ xss, 0 < x.length) : bM v k xss xss.length = bestT v (xss.filter fun s => decide ((s.length : Int) = k)) (xss.filter fun s => decide ((s.length : Int) = k)).length := by
  have := bM_eq v k hne xss.length (Nat.le_refl _)
  rwa [List.take_length] at this
theorem bM_mem (v : List Int → Int) (k : Int) {xss : List (List Int)} : ∀ i, i ≤ xss.length → (bM v k xss i).length ≠ 0 → bM v k xss i ∈ xss := by
  intro i
  induction i with
  | zero => intro _ h; exact (h rfl).elim
  | succ i ih =>
    intro hi
    unfold bM
    split
    · intro _; exact ix_mem xss (by omega)
    · exact ih (by omega)

def g_fieldMedI : List AV → Prop × AV
  | [.agg [.ints o, .rows d], .int .i64 k] => (FieldOK o d ∧ 1 ≤ k ∧ k ≤ o.length, .ints (medL o d k))
  | _ => (False, .undef)
theorem g_fieldMedI_eq (o : List Int) (d : List (List Int)) (k : Int) : g_fieldMedI [.agg [.ints o, .rows d], .int .i64 k] = (FieldOK o d ∧ 1 ≤ k ∧ k ≤ o.length, .ints (medL o d k)) := (rfl)
theorem fieldMedI_ok (o : List Int) (d : List (List Int)) (k : Int) (hp : FieldOK o d ∧ 1 ≤ k ∧ k ≤ o.length) : SpecOK Try.prog 144 [.agg [.ints o, .rows d], .int .i64 k] (.ints (medL o d k)) [] := by
  refine fun_ok (C := t_setsO ++ t_deleteC ++ t_least) (hint := hintX [9, 11] [(2, [.fz [5]])] 0 [168] [] [] []) (((t_setsO_ok).append t_deleteC_ok).append t_least_ok) mixed Try.func144 rfl (by kernel_rfl) rfl ?_
  show codeA _ _ _ _ _ _ _ _
  simp only [go_sem, ↓reduceIte, Nat.reduceEqDiff, Nat.reduceBEq, Nat.reduceAdd, Nat.reduceSub, Nat.reduceLeDiff, Nat.reduceMul, Nat.reduceLT, Try.results144]
  obtain ⟨hf, h1, h2⟩ := hp
  have hn := hf.n7
  have hn1 := hf.n1
  have hl := setsL_len o.length
  have g2 := pow_ge2 o.length hn1
  have g3 := pow_7 o.length hn
  have m1 := msets_pos hn h1 h2
  have m2 := msets_le o.length k
  refine ⟨by omega, ⟨by omega, by omega⟩, ?_⟩
  have ev : valG 60 o d = svc d := funext fun s => if_neg (by decide)
  refine ⟨⟨.inr trivial, m1, by have e : ((setsL o.length).filter fun s => decide ((s.length : Int) = k)) = msets o.length k := rfl; rw [e]; omega, fun x hx => msets_open hf hx⟩, ?_⟩
  rw [ev]; rfl
def t_fieldMedI : Table := [(144, pureC g_fieldMedI)]
theorem t_fieldMedI_ok : TabOK Try.prog t_fieldMedI := .cons Try.func144 (by kernel_rfl) (.pure (by intro args hp; unfold g_fieldMedI at hp ⊢; split at hp <;> first | exact hp.elim | exact fieldMedI_ok _ _ _ hp)) (.nil _)
attribute [go_sem] g_fieldMedI_eq t_fieldMedI
def g_medianS4 : List AV → Prop × AV
  | [.agg [.ints o, .rows d], .int .i64 k] => (FieldOK o d, .ints (medL o d k))
  | _ => (False, .undef)
theorem g_medianS4_eq (o : List Int) (d : List (List Int)) (k : Int) : g_medianS4 [.agg [.ints o, .rows d], .int .i64 k] = (FieldOK o d, .ints (medL o d k)) := (rfl)
theorem medianS4_ok (o : List Int) (d : List (List Int)) (k : Int) (hp : FieldOK o d) : SpecOK Try.prog 98 [.agg [.ints o, .rows d], .int .i64 k] (.ints (medL o d k)) [] := by
  refine fun_ok (C := t_setsS ++ t_serveS) (hint := hintX [] [] 0 [] [] [] []) ((t_setsS_ok).append t_serveS_ok) mixed Try.func98 rfl (by kernel_rfl) rfl ?_
  show codeA _ _ _ _ _ _ _ _
  simp only [go_sem, ↓reduceIte, Nat.reduceEqDiff, Nat.reduceBEq, Nat.reduceAdd, Nat.reduceSub, Nat.reduceLeDiff, Nat.reduceMul, Nat.reduceLT, Try.results98]
  have hn := hp.n7
  have hn1 := hp.n1
  have hl := setsL_len o.length
  have h2 := pow_ge2 o.length hn1
  have h3 := pow_7 o.length hn
  have hx := fun k (hk : k < (setsL o.length).length) => setsL_open hp (ix_mem (setsL o.length) hk)
  have hb := fun i hi h0 => setsL_open hp (bM_mem (svc d) k (xss := setsL o.length) i hi h0)
  have em : medL o d k = bM (svc d) k (setsL o.length) (setsL o.length).length := (bM_all (svc d) k (fun x hx => (setsL_mem hn hx).1)).symm
  have hlen := fun i (hi : i < (setsL o.length).length) => (setsL_mem hn (ix_mem (setsL o.length) hi)).2.1
  rw [em]
  clear em
  refine ⟨by omega, ?_⟩
  generalize setsL o.length = xss at *
  refine loop_intro (fun i : Nat => [(6, .ints (bM (svc d) k xss i)), (7, .int .i64 i), (5, .rows xss), (1, .int .i64 k), (2, .iptr [.ints o, .rows d])]) (fun _ => []) 0 (fun i => i ≤ xss.length) (fun i => xss.length - i) 0 (by omega) (by omega) ?_ ?_
  · simp only [go_sem, ↓reduceIte, Nat.reduceEqDiff, Nat.reduceBEq, Nat.reduceAdd, Nat.reduceSub, Nat.reduceLeDiff, Nat.reduceMul, Nat.reduceLT]
    repeat' (first | refine fork_intro (fun hb => ?_) (fun hb => ?_) | refine partB_intro (fun hb => ?_) (fun hb => ?_) | refine And.intro ?_ ?_)
    all_goals first | exact True.intro | omega | with_reducible rfl | exact congrArg (AV.int _) (by omega) | (first | rfl)
  · intro i hi
    have e : bM (svc d) k xss (i + 1) = if ((ix xss (i : Int)).length : Int) = k ∧ ((bM (svc d) k xss i).length = 0 ∨ svc d (ix xss (i : Int)) < svc d (bM (svc d) k xss i)) then ix xss (i : Int) else bM (svc d) k xss i := rfl
    simp only [go_sem, ↓reduceIte, Nat.reduceEqDiff, Nat.reduceBEq, Nat.reduceAdd, Nat.reduceSub, Nat.reduceLeDiff, Nat.reduceMul, Nat.reduceLT]
    refine fork_intro (fun hc => ?_) (fun hc => ?_)
    · have hle := hlen i (by omega)
      refine ⟨by omega, fork_intro (fun h4 => fork_intro (fun h5 => ?_) (fun h5 => ?_)) (fun h4 => ?_)⟩
      · rw [if_pos ⟨h4, .inl (by omega)⟩] at e
        repeat' (first | refine fork_intro (fun hb => ?_) (fun hb => ?_) | refine partB_intro (fun hb => ?_) (fun hb => ?_) | refine And.intro ?_ ?_)
        all_goals first | exact True.intro | omega | with_reducible rfl | exact congrArg (AV.int _) (by omega) | (refine LoopEnd.intro (i + 1) (by first | omega) (by first | omega | (dsimp only; omega)) (by omega) ?_; simp only [go_sem, ↓reduceIte, Nat.reduceEqDiff, Nat.reduceBEq, Nat.reduceAdd, Nat.reduceSub, Nat.reduceLeDiff, Nat.reduceMul, Nat.reduceLT]; (repeat' (first | refine fork_intro (fun hb => ?_) (fun hb => ?_) | refine partB_intro (fun hb => ?_) (fun hb => ?_) | refine And.intro ?_ ?_)); all_goals first | exact True.intro | omega | with_reducible rfl | exact congrArg (AV.int _) (by omega) | (first | rw [e])) | (first | rw [e])
      · refine ⟨by omega, hx i (by omega), hb i hi (by omega), fork_intro (fun h6 => ?_) (fun h6 => ?_)⟩
        · rw [if_pos ⟨h4, .inr h6⟩] at e
          repeat' (first | refine fork_intro (fun hb => ?_) (fun hb => ?_) | refine partB_intro (fun hb => ?_) (fun hb => ?_) | refine And.intro ?_ ?_)
          all_goals first | exact True.intro | omega | with_reducible rfl | exact congrArg (AV.int _) (by omega) | (refine LoopEnd.intro (i + 1) (by first | omega) (by first | omega | (dsimp only; omega)) (by omega) ?_; simp only [go_sem, ↓reduceIte, Nat.reduceEqDiff, Nat.reduceBEq, Nat.reduceAdd, Nat.reduceSub, Nat.reduceLeDiff, Nat.reduceMul, Nat.reduceLT]; (repeat' (first | refine fork_intro (fun hb => ?_) (fun hb => ?_) | refine partB_intro (fun hb => ?_) (fun hb => ?_) | refine And.intro ?_ ?_)); all_goals first | exact True.intro | omega | with_reducible rfl | exact congrArg (AV.int _) (by omega) | (first | rw [e])) | (first | rw [e])
        · rw [if_neg (fun h => by rcases h.2 with h | h <;> omega)] at e
          repeat' (first | refine fork_intro (fun hb => ?_) (fun hb => ?_) | refine partB_intro (fun hb => ?_) (fun hb => ?_) | refine And.intro ?_ ?_)
          all_goals first | exact True.intro | omega | with_reducible rfl | exact congrArg (AV.int _) (by omega) | (refine LoopEnd.intro (i + 1) (by first | omega) (by first | omega | (dsimp only; omega)) (by omega) ?_; simp only [go_sem, ↓reduceIte, Nat.reduceEqDiff, Nat.reduceBEq, Nat.reduceAdd, Nat.reduceSub, Nat.reduceLeDiff, Nat.reduceMul, Nat.reduceLT]; (repeat' (first | refine fork_intro (fun hb => ?_) (fun hb => ?_) | refine partB_intro (fun hb => ?_) (fun hb => ?_) | refine And.intro ?_ ?_)); all_goals first | exact True.intro | omega | with_reducible rfl | exact congrArg (AV.int _) (by omega) | (first | rw [e])) | (first | rw [e])
      · rw [if_neg (fun h => h4 h.1)] at e
        repeat' (first | refine fork_intro (fun hb => ?_) (fun hb => ?_) | refine partB_intro (fun hb => ?_) (fun hb => ?_) | refine And.intro ?_ ?_)
        all_goals first | exact True.intro | omega | with_reducible rfl | exact congrArg (AV.int _) (by omega) | (refine LoopEnd.intro (i + 1) (by first | omega) (by first | omega | (dsimp only; omega)) (by omega) ?_; simp only [go_sem, ↓reduceIte, Nat.reduceEqDiff, Nat.reduceBEq, Nat.reduceAdd, Nat.reduceSub, Nat.reduceLeDiff, Nat.reduceMul, Nat.reduceLT]; (repeat' (first | refine fork_intro (fun hb => ?_) (fun hb => ?_) | refine partB_intro (fun hb => ?_) (fun hb => ?_) | refine And.intro ?_ ?_)); all_goals first | exact True.intro | omega | with_reducible rfl | exact congrArg (AV.int _) (by omega) | (first | rw [e])) | (first | rw [e])
    · rw [show i = xss.length by omega]
def t_medianS4 : Table := [(98, pureC g_medianS4)]
theorem t_medianS4_ok : TabOK Try.prog t_medianS4 := .cons Try.func98 (by kernel_rfl) (.pure (by intro args hp; unfold g_medianS4 at hp ⊢; split at hp <;> first | exact hp.elim | exact medianS4_ok _ _ _ hp)) (.nil _)
attribute [go_sem] g_medianS4_eq t_medianS4
def g_medValI : List AV → Prop × AV
  | [.agg [.ints o, .rows d], .int .i64 k] => (o.length ≤ 1048576000 ∧ d.length ≤ 1048576000 ∧ ∀ x ∈ d, x.length ≤ 1048576000, .tup [.int .i64 (bif medB o d k then svc d (medL o d k) else 0), .bool (medB o d k)])
  | _ => (False, .undef)
theorem g_medValI_eq (o : List Int) (d : List (List Int)) (k : Int) : g_medValI [.agg [.ints o, .rows d], .int .i64 k] = (o.length ≤ 1048576000 ∧ d.length ≤ 1048576000 ∧ ∀ x ∈ d, x.length ≤ 1048576000, .tup [.int .i64 (bif medB o d k then svc d (medL o d k) else 0), .bool (medB o d k)]) := (rfl)
theorem medValI_ok (o : List Int) (d : List (List Int)) (k : Int) (hp : o.length ≤ 1048576000 ∧ d.length ≤ 1048576000 ∧ ∀ x ∈ d, x.length ≤ 1048576000) : SpecOK Try.prog 100 [.agg [.ints o, .rows d], .int .i64 k] (.tup [.int .i64 (bif medB o d k then svc d (medL o d k) else 0), .bool (medB o d k)]) [] := by
  refine fun_ok (C := t_medCase ++ t_fieldMedI ++ t_serviceI) (hint := hintX [] [] 0 [] [] [] []) (((t_medCase_ok).append t_fieldMedI_ok).append t_serviceI_ok) mixed Try.func100 rfl (by kernel_rfl) rfl ?_
  show codeA _ _ _ _ _ _ _ _
  simp only [go_sem, ↓reduceIte, Nat.reduceEqDiff, Nat.reduceBEq, Nat.reduceAdd, Nat.reduceSub, Nat.reduceLeDiff, Nat.reduceMul, Nat.reduceLT, Try.results100]
  refine ⟨hp, partB_intro (fun hg => ?_) (fun hg => ?_)⟩
  · have hg2 := hg
    simp only [medB, Bool.and_eq_true, decide_eq_true_eq] at hg2
    have hf := good_iff.1 hg2.1
    rw [hg]
    exact ⟨⟨hf, by omega, by omega⟩, medL_open hf (by omega) (by omega), rfl, rfl⟩
  · rw [hg]
    repeat' (first | refine fork_intro (fun hb => ?_) (fun hb => ?_) | refine partB_intro (fun hb => ?_) (fun hb => ?_) | refine And.intro ?_ ?_)
    all_goals first | exact True.intro | omega | with_reducible rfl | exact congrArg (AV.int _) (by omega) | (first | rfl)
def t_medValI : Table := [(100, pureC g_medValI)]
theorem t_medValI_ok : TabOK Try.prog t_medValI := .cons Try.func100 (by kernel_rfl) (.pure (by intro args hp; unfold g_medValI at hp ⊢; split at hp <;> first | exact hp.elim | exact medValI_ok _ _ _ hp)) (.nil _)
attribute [go_sem] g_medValI_eq t_medValI
theorem line_field {s c : List Int} (h : LineOK s c) : FieldOK (List.replicate s.length 0) (laidD s c) := by
  have hl : (laidD s c).length = c.length := tab_len _ _
  refine ⟨by rw [List.length_replicate]; exact h.n1, by rw [List.length_replicate]; exact h.n7, fun x hx => by rw [(List.mem_replicate.1 hx).2]; omega, by rw [hl]; exact h.m7, fun r hr => ?_, fun r hr x hx => ?_⟩
  · obtain ⟨i, hi, rfl⟩ := mem_tab.1 hr
    rw [tab_len, List.length_replicate]
  · obtain ⟨i, hi, rfl⟩ := mem_tab.1 hr
    obtain ⟨a, ha, rfl⟩ := mem_tab.1 hx
    have h1 := h.s99 a ha
    have h2 := h.c99 i hi
    omega
def lmB (s c : List Int) (k : Int) : Bool := lineB s c && decide (1 ≤ k ∧ k ≤ (s.length : Int))
theorem lm_med {s c : List Int} (h : lineB s c = true) (k : Int) : medB (List.replicate s.length 0) (laidD s c) k = decide (1 ≤ k ∧ k ≤ (s.length : Int)) := by
  have hg := good_iff.2 (line_field (lineB_iff h))
  rw [medB, hg, List.length_replicate, Bool.true_and]
def g_lineMedS : List AV → Prop × AV
  | [.ints s, .ints c, .int .i64 k] => (s.length ≤ 1048576000 ∧ c.length ≤ 1048576000, .tup [.int .i64 (bif lmB s c k then svc (laidD s c) (medL (List.replicate s.length 0) (laidD s c) k) else 0), .bool (lmB s c k)])
  | _ => (False, .undef)
theorem g_lineMedS_eq (s c : List Int) (k : Int) : g_lineMedS [.ints s, .ints c, .int .i64 k] = (s.length ≤ 1048576000 ∧ c.length ≤ 1048576000, .tup [.int .i64 (bif lmB s c k then svc (laidD s c) (medL (List.replicate s.length 0) (laidD s c) k) else 0), .bool (lmB s c k)]) := (rfl)
theorem lineMedS_ok (s c : List Int) (k : Int) (hp : s.length ≤ 1048576000 ∧ c.length ≤ 1048576000) : SpecOK Try.prog 42 [.ints s, .ints c, .int .i64 k] (.tup [.int .i64 (bif lmB s c k then svc (laidD s c) (medL (List.replicate s.length 0) (laidD s c) k) else 0), .bool (lmB s c k)]) [] := by
  refine fun_ok (C := t_lineS ++ t_l1In ++ t_laidS ++ t_medianS4 ++ t_serveS) (hint := hintX [8] [] 0 [] [] [] []) (((((t_lineS_ok).append t_l1In_ok).append t_laidS_ok).append t_medianS4_ok).append t_serveS_ok) mixed Try.func42 rfl (by kernel_rfl) rfl ?_
  show codeA _ _ _ _ _ _ _ _
  simp only [go_sem, ↓reduceIte, Nat.reduceEqDiff, Nat.reduceBEq, Nat.reduceAdd, Nat.reduceSub, Nat.reduceLeDiff, Nat.reduceMul, Nat.reduceLT, Try.results42]
  refine ⟨hp, partB_intro (fun hl => ?_) (fun hl => ?_)⟩
  · have hL := lineB_iff hl
    have hf := line_field hL
    have hlen : (List.replicate s.length (0 : Int)).length = s.length := List.length_replicate
    refine fork_intro (fun hk => ?_) (fun hk => ?_)
    · rw [show lmB s c k = true by rw [lmB, hl, decide_eq_true hk]; rfl]
      have ho := medL_open hf (k := k) hk.1 (by rw [hlen]; exact hk.2)
      exact ⟨hL, hf, ho, rfl, rfl⟩
    · rw [show lmB s c k = false by rw [lmB, hl, decide_eq_false hk]; rfl]
      repeat' (first | refine fork_intro (fun hb => ?_) (fun hb => ?_) | refine partB_intro (fun hb => ?_) (fun hb => ?_) | refine And.intro ?_ ?_)
      all_goals first | exact True.intro | omega | with_reducible rfl | exact congrArg (AV.int _) (by omega) | (first | rfl)
  · rw [show lmB s c k = false by rw [lmB, hl]; rfl]
    repeat' (first | refine fork_intro (fun hb => ?_) (fun hb => ?_) | refine partB_intro (fun hb => ?_) (fun hb => ?_) | refine And.intro ?_ ?_)
    all_goals first | exact True.intro | omega | with_reducible rfl | exact congrArg (AV.int _) (by omega) | (first | rfl)
def t_lineMedS : Table := [(42, pureC g_lineMedS)]
theorem t_lineMedS_ok : TabOK Try.prog t_lineMedS := .cons Try.func42 (by kernel_rfl) (.pure (by intro args hp; unfold g_lineMedS at hp ⊢; split at hp <;> first | exact hp.elim | exact lineMedS_ok _ _ _ hp)) (.nil _)
attribute [go_sem] g_lineMedS_eq t_lineMedS
def g_lineMedI : List AV → Prop × AV
  | [.ints s, .ints c, .int .i64 k] => (s.length ≤ 1048576000 ∧ c.length ≤ 1048576000, .tup [.int .i64 (bif lmB s c k then svc (laidD s c) (medL (List.replicate s.length 0) (laidD s c) k) else 0), .bool (lmB s c k)])
  | _ => (False, .undef)
theorem g_lineMedI_eq (s c : List Int) (k : Int) : g_lineMedI [.ints s, .ints c, .int .i64 k] = (s.length ≤ 1048576000 ∧ c.length ≤ 1048576000, .tup [.int .i64 (bif lmB s c k then svc (laidD s c) (medL (List.replicate s.length 0) (laidD s c) k) else 0), .bool (lmB s c k)]) := (rfl)
theorem lineMedI_ok (s c : List Int) (k : Int) (hp : s.length ≤ 1048576000 ∧ c.length ≤ 1048576000) : SpecOK Try.prog 43 [.ints s, .ints c, .int .i64 k] (.tup [.int .i64 (bif lmB s c k then svc (laidD s c) (medL (List.replicate s.length 0) (laidD s c) k) else 0), .bool (lmB s c k)]) [] := by
  refine fun_ok (C := t_lineFieldI ++ t_medValI) (hint := hintX [8] [] 0 [] [] [] []) ((t_lineFieldI_ok).append t_medValI_ok) mixed Try.func43 rfl (by kernel_rfl) rfl ?_
  show codeA _ _ _ _ _ _ _ _
  simp only [go_sem, ↓reduceIte, Nat.reduceEqDiff, Nat.reduceBEq, Nat.reduceAdd, Nat.reduceSub, Nat.reduceLeDiff, Nat.reduceMul, Nat.reduceLT, Try.results43]
  have hm := fun (h : lineB s c = true) => lm_med h k
  refine ⟨hp, partB_intro (fun hl => ?_) (fun hl => ?_)⟩
  · have hL := lineB_iff hl
    have hf := line_field hL
    have n7 := hf.n7
    have m7 := hf.m7
    have e1 : lmB s c k = medB (List.replicate s.length 0) (laidD s c) k := by rw [hm hl, lmB, hl]; rfl
    rw [e1, hl]
    simp only [cond_true]
    refine ⟨⟨by omega, by omega, fun x hx => by have := hf.len x hx; omega⟩, ?_⟩
    repeat' (first | refine fork_intro (fun hb => ?_) (fun hb => ?_) | refine partB_intro (fun hb => ?_) (fun hb => ?_) | refine And.intro ?_ ?_)
    all_goals first | exact True.intro | omega | with_reducible rfl | exact congrArg (AV.int _) (by omega) | (first | rfl)
  · rw [show lmB s c k = false by rw [lmB, hl]; rfl]
    repeat' (first | refine fork_intro (fun hb => ?_) (fun hb => ?_) | refine partB_intro (fun hb => ?_) (fun hb => ?_) | refine And.intro ?_ ?_)
    all_goals first | exact True.intro | omega | with_reducible rfl | exact congrArg (AV.int _) (by omega) | (first | rfl)
def t_lineMedI : Table := [(43, pureC g_lineMedI)]
theorem t_lineMedI_ok : TabOK Try.prog t_lineMedI := .cons Try.func43 (by kernel_rfl) (.pure (by intro args hp; unfold g_lineMedI at hp ⊢; split at hp <;> first | exact hp.elim | exact lineMedI_ok _ _ _ hp)) (.nil _)
attribute [go_sem] g_lineMedI_eq t_lineMedI
end Go.Proofs.Ytibomnplkclkmaa
