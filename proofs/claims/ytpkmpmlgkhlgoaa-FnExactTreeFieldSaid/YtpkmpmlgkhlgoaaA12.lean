/- TreeField: both packages say the same. -/
import Derived.Test.YtpkmpmlgkhlgoaaA6
import Derived.Test.YtpkmpmlgkhlgoaaPlF
namespace Go.Proofs.Ytpkmpmlgkhlgoaa
open Go.Vc
set_option maxRecDepth 100000
set_option linter.unusedSimpArgs false
set_option linter.unusedVariables false

def lensB (ps ls : List Int) : Bool := (rowOK 99 ls && decide ((ls.length : Int) = ps.length)) && decide (ix ls 0 = 0)
def treeD (ps ls : List Int) : List (List Int) := tab ps.length fun i => tab ps.length fun a => apart ps ls i a
def treeF (ps ls : List Int) : Bool := (tree ps && lensB ps ls) && good (List.replicate ps.length 0) (treeD ps ls)
structure LensOK (ps ls : List Int) : Prop where
  t : TreeOK ps
  len : ls.length = ps.length
  w : ∀ k : Nat, k < ps.length → 0 ≤ ix ls (k : Int) ∧ ix ls (k : Int) ≤ 99
theorem lens_iff {ps ls : List Int} (h1 : tree ps = true) (h2 : lensB ps ls = true) : LensOK ps ls := by
  simp only [lensB, Bool.and_eq_true, decide_eq_true_eq] at h2
  exact ⟨tree_iff.1 h1, by omega, fun k hk => rowOK_iff.1 h2.1.1 _ (ix_mem ls (by omega))⟩
theorem LensOK.bd {ps ls : List Int} (h : LensOK ps ls) {x y : Nat} (hx : x < ps.length) (hy : y < ps.length) : 0 ≤ apart ps ls x y ∧ apart ps ls x y ≤ 1386 := by
  have h7 := h.t.n7
  have := apart_bd h.t h.w (x + y) x y (Nat.le_refl _) hx hy
  omega

def g_lensS : List AV → Prop × AV
  | [.ints ps, .ints ls] => (TreeOK ps ∧ ls.length ≤ 1048576000, .bool (lensB ps ls))
  | _ => (False, .undef)
theorem g_lensS_eq (ps ls : List Int) : g_lensS [.ints ps, .ints ls] = (TreeOK ps ∧ ls.length ≤ 1048576000, .bool (lensB ps ls)) := (rfl)
theorem lensS_ok (ps ls : List Int) (hp : TreeOK ps ∧ ls.length ≤ 1048576000) : SpecOK Try.prog 69 [.ints ps, .ints ls] (.bool (lensB ps ls)) [] := by
  refine fun_ok (C := t_l2Row) (hint := hintX [] [] 0 [] [] []) (t_l2Row_ok) mixed Try.func69 rfl (by kernel_rfl) rfl ?_
  show codeA _ _ _ _ _ _ _ _
  simp only [go_sem, cond_true, cond_false, ↓reduceIte, Nat.reduceEqDiff, Nat.reduceBEq, List.map_cons, List.map_nil, List.append_nil, List.cons_append, List.nil_append, true_and, and_true, Nat.reduceAdd, Nat.reduceSub, Nat.zero_add, Nat.add_zero, List.drop_zero, List.drop_succ_cons, List.take_succ_cons, List.take_zero, List.all_cons, List.all_nil, Bool.and_true, Bool.true_and, Bool.and_false, Bool.false_and, Bool.or_true, Bool.true_or, Bool.or_false, Bool.false_or, Bool.not_false, Bool.not_true, Option.getD_some, List.length_cons, List.length_nil, Nat.reduceLeDiff, Option.isSome_none, Option.isSome_some, Nat.reduceMul, eq_self, exists_const, List.toList_toArray, partB_true, partB_false, RK_i64, RK_u64, RK_u8, LoopEnd, List.getElem?_cons_zero, List.getElem?_cons_succ, List.getElem?_nil, Nat.sub_zero, Nat.le_refl, Int.toNat_natCast, List.set_cons_zero, List.set_cons_succ, List.getD_cons_zero, List.getD_cons_succ, Nat.sub_self, Option.map_some, Option.map_none, List.length_append, Nat.reduceLT, Try.results69]
  have n1 := hp.1.n1
  refine ⟨hp.2, partB_intro (fun h => ?_) (fun h => ?_)⟩
  · have hl : ls.length = ps.length := by simp at h; omega
    refine ⟨by omega, ?_⟩
    rw [lensB, h]; rfl
  · rw [lensB, h]; rfl
def t_lensS : Table := [(69, pureC g_lensS)]
theorem t_lensS_ok : TabOK Try.prog t_lensS := .cons Try.func69 (by kernel_rfl) (.pure (by intro args hp; unfold g_lensS at hp ⊢; split at hp <;> first | exact hp.elim | exact lensS_ok _ _ hp)) (.nil _)
attribute [go_sem] g_lensS_eq t_lensS
def g_apartS : List AV → Prop × AV
  | [.ints ps, .ints ls, .int .i64 x, .int .i64 y] => (LensOK ps ls ∧ (0 ≤ x ∧ x < ps.length) ∧ 0 ≤ y ∧ y < ps.length, .int .i64 (apart ps ls x.toNat y.toNat))
  | _ => (False, .undef)
theorem g_apartS_eq (ps ls : List Int) (x y : Int) : g_apartS [.ints ps, .ints ls, .int .i64 x, .int .i64 y] = (LensOK ps ls ∧ (0 ≤ x ∧ x < ps.length) ∧ 0 ≤ y ∧ y < ps.length, .int .i64 (apart ps ls x.toNat y.toNat)) := (rfl)
theorem apartS_ok (ps ls : List Int) (x y : Int) (hp : LensOK ps ls ∧ (0 ≤ x ∧ x < ps.length) ∧ 0 ≤ y ∧ y < ps.length) : SpecOK Try.prog 70 [.ints ps, .ints ls, .int .i64 x, .int .i64 y] (.int .i64 (apart ps ls x.toNat y.toNat)) [] := by
  refine fun_ok (C := []) (hint := hintX [] [] 0 [] [] []) (TabOK.nil _) mixed Try.func70 rfl (by kernel_rfl) rfl ?_
  show codeA _ _ _ _ _ _ _ _
  simp only [go_sem, cond_true, cond_false, ↓reduceIte, Nat.reduceEqDiff, Nat.reduceBEq, List.map_cons, List.map_nil, List.append_nil, List.cons_append, List.nil_append, true_and, and_true, Nat.reduceAdd, Nat.reduceSub, Nat.zero_add, Nat.add_zero, List.drop_zero, List.drop_succ_cons, List.take_succ_cons, List.take_zero, List.all_cons, List.all_nil, Bool.and_true, Bool.true_and, Bool.and_false, Bool.false_and, Bool.or_true, Bool.true_or, Bool.or_false, Bool.false_or, Bool.not_false, Bool.not_true, Option.getD_some, List.length_cons, List.length_nil, Nat.reduceLeDiff, Option.isSome_none, Option.isSome_some, Nat.reduceMul, eq_self, exists_const, List.toList_toArray, partB_true, partB_false, RK_i64, RK_u64, RK_u8, LoopEnd, List.getElem?_cons_zero, List.getElem?_cons_succ, List.getElem?_nil, Nat.sub_zero, Nat.le_refl, Int.toNat_natCast, List.set_cons_zero, List.set_cons_succ, List.getD_cons_zero, List.getD_cons_succ, Nat.sub_self, Option.map_some, Option.map_none, List.length_append, Nat.reduceLT, Try.results70]
  obtain ⟨h, ⟨x0, x1⟩, y0, y1⟩ := hp
  obtain ⟨x, rfl⟩ : ∃ n : Nat, x = n := ⟨x.toNat, by omega⟩
  obtain ⟨y, rfl⟩ : ∃ n : Nat, y = n := ⟨y.toNat, by omega⟩
  simp only [Int.toNat_natCast]
  have hll := h.len
  have b0 := h.bd (x := x) (y := y) (by omega) (by omega)
  refine loop_intro (fun g : Nat × Nat => [(9, .int .i64 (apart ps ls x y - apart ps ls g.1 g.2)), (2, .int .i64 g.1), (3, .int .i64 g.2), (0, .ints ps), (1, .ints ls)]) (fun _ => []) 0 (fun g => g.1 < ps.length ∧ g.2 < ps.length) (fun g => g.1 + g.2) (x, y) ⟨by show x < _; omega, by show y < _; omega⟩ (Nat.zero_le _) ?_ ?_
  · simp only [go_sem, cond_true, cond_false, ↓reduceIte, Nat.reduceEqDiff, Nat.reduceBEq, List.map_cons, List.map_nil, List.append_nil, List.cons_append, List.nil_append, true_and, and_true, Nat.reduceAdd, Nat.reduceSub, Nat.zero_add, Nat.add_zero, List.drop_zero, List.drop_succ_cons, List.take_succ_cons, List.take_zero, List.all_cons, List.all_nil, Bool.and_true, Bool.true_and, Bool.and_false, Bool.false_and, Bool.or_true, Bool.true_or, Bool.or_false, Bool.false_or, Bool.not_false, Bool.not_true, Option.getD_some, List.length_cons, List.length_nil, Nat.reduceLeDiff, Option.isSome_none, Option.isSome_some, Nat.reduceMul, eq_self, exists_const, List.toList_toArray, partB_true, partB_false, RK_i64, RK_u64, RK_u8, LoopEnd, List.getElem?_cons_zero, List.getElem?_cons_succ, List.getElem?_nil, Nat.sub_zero, Nat.le_refl, Int.toNat_natCast, List.set_cons_zero, List.set_cons_succ, List.getD_cons_zero, List.getD_cons_succ, Nat.sub_self, Option.map_some, Option.map_none, List.length_append, Nat.reduceLT]
    repeat' (first | refine fork_intro (fun hb => ?_) (fun hb => ?_) | refine partB_intro (fun hb => ?_) (fun hb => ?_) | refine And.intro ?_ ?_)
    all_goals first | exact True.intro | omega | with_reducible rfl | exact congrArg (AV.int _) (by omega)
  · rintro ⟨p, q⟩ ⟨hp, hq⟩
    simp only at hp hq
    have b1 := h.bd hp hq
    simp only [go_sem, cond_true, cond_false, ↓reduceIte, Nat.reduceEqDiff, Nat.reduceBEq, List.map_cons, List.map_nil, List.append_nil, List.cons_append, List.nil_append, true_and, and_true, Nat.reduceAdd, Nat.reduceSub, Nat.zero_add, Nat.add_zero, List.drop_zero, List.drop_succ_cons, List.take_succ_cons, List.take_zero, List.all_cons, List.all_nil, Bool.and_true, Bool.true_and, Bool.and_false, Bool.false_and, Bool.or_true, Bool.true_or, Bool.or_false, Bool.false_or, Bool.not_false, Bool.not_true, Option.getD_some, List.length_cons, List.length_nil, Nat.reduceLeDiff, Option.isSome_none, Option.isSome_some, Nat.reduceMul, eq_self, exists_const, List.toList_toArray, partB_true, partB_false, RK_i64, RK_u64, RK_u8, LoopEnd, List.getElem?_cons_zero, List.getElem?_cons_succ, List.getElem?_nil, Nat.sub_zero, Nat.le_refl, Int.toNat_natCast, List.set_cons_zero, List.set_cons_succ, List.getD_cons_zero, List.getD_cons_succ, Nat.sub_self, Option.map_some, Option.map_none, List.length_append, Nat.reduceLT]
    refine fork_intro (fun hb => ?_) (fun hb => ?_)
    · have e : p = q := by omega
      subst e
      rw [apart_same, Int.sub_zero]
    · refine fork_intro (fun hc => ?_) (fun hc => ?_)
      · have hpp := h.t.par p hp (by omega)
        have hst := apart_gt ls h.t (x := p) (y := q) (by omega) hp
        have hw := h.w p hp
        have b2 := h.bd (x := (ix ps (p : Int)).toNat) (y := q) (by omega) hq
        repeat' (first | refine fork_intro (fun hb => ?_) (fun hb => ?_) | refine partB_intro (fun hb => ?_) (fun hb => ?_) | refine And.intro ?_ ?_)
        all_goals first | exact True.intro | omega | with_reducible rfl | exact congrArg (AV.int _) (by omega) | (refine LoopEnd.intro (((ix ps (p : Int)).toNat, q)) (by first | omega | (first | exact ⟨by show _ < _; omega, by show _ < _; omega⟩)) (by first | omega | (dsimp only; omega)) (by omega) ?_; simp only [go_sem, cond_true, cond_false, ↓reduceIte, Nat.reduceEqDiff, Nat.reduceBEq, List.map_cons, List.map_nil, List.append_nil, List.cons_append, List.nil_append, true_and, and_true, Nat.reduceAdd, Nat.reduceSub, Nat.zero_add, Nat.add_zero, List.drop_zero, List.drop_succ_cons, List.take_succ_cons, List.take_zero, List.all_cons, List.all_nil, Bool.and_true, Bool.true_and, Bool.and_false, Bool.false_and, Bool.or_true, Bool.true_or, Bool.or_false, Bool.false_or, Bool.not_false, Bool.not_true, Option.getD_some, List.length_cons, List.length_nil, Nat.reduceLeDiff, Option.isSome_none, Option.isSome_some, Nat.reduceMul, eq_self, exists_const, List.toList_toArray, partB_true, partB_false, RK_i64, RK_u64, RK_u8, LoopEnd, List.getElem?_cons_zero, List.getElem?_cons_succ, List.getElem?_nil, Nat.sub_zero, Nat.le_refl, Int.toNat_natCast, List.set_cons_zero, List.set_cons_succ, List.getD_cons_zero, List.getD_cons_succ, Nat.sub_self, Option.map_some, Option.map_none, List.length_append, Nat.reduceLT]; (repeat' (first | refine fork_intro (fun hb => ?_) (fun hb => ?_) | refine partB_intro (fun hb => ?_) (fun hb => ?_) | refine And.intro ?_ ?_)); all_goals first | exact True.intro | omega | with_reducible rfl | exact congrArg (AV.int _) (by omega))
      · have hpp := h.t.par q hq (by omega)
        have hst := apart_lt ls h.t (x := p) (y := q) (by omega) hq
        have hw := h.w q hq
        have b2 := h.bd (x := p) (y := (ix ps (q : Int)).toNat) hp (by omega)
        repeat' (first | refine fork_intro (fun hb => ?_) (fun hb => ?_) | refine partB_intro (fun hb => ?_) (fun hb => ?_) | refine And.intro ?_ ?_)
        all_goals first | exact True.intro | omega | with_reducible rfl | exact congrArg (AV.int _) (by omega) | (refine LoopEnd.intro ((p, (ix ps (q : Int)).toNat)) (by first | omega | (first | exact ⟨by show _ < _; omega, by show _ < _; omega⟩)) (by first | omega | (dsimp only; omega)) (by omega) ?_; simp only [go_sem, cond_true, cond_false, ↓reduceIte, Nat.reduceEqDiff, Nat.reduceBEq, List.map_cons, List.map_nil, List.append_nil, List.cons_append, List.nil_append, true_and, and_true, Nat.reduceAdd, Nat.reduceSub, Nat.zero_add, Nat.add_zero, List.drop_zero, List.drop_succ_cons, List.take_succ_cons, List.take_zero, List.all_cons, List.all_nil, Bool.and_true, Bool.true_and, Bool.and_false, Bool.false_and, Bool.or_true, Bool.true_or, Bool.or_false, Bool.false_or, Bool.not_false, Bool.not_true, Option.getD_some, List.length_cons, List.length_nil, Nat.reduceLeDiff, Option.isSome_none, Option.isSome_some, Nat.reduceMul, eq_self, exists_const, List.toList_toArray, partB_true, partB_false, RK_i64, RK_u64, RK_u8, LoopEnd, List.getElem?_cons_zero, List.getElem?_cons_succ, List.getElem?_nil, Nat.sub_zero, Nat.le_refl, Int.toNat_natCast, List.set_cons_zero, List.set_cons_succ, List.getD_cons_zero, List.getD_cons_succ, Nat.sub_self, Option.map_some, Option.map_none, List.length_append, Nat.reduceLT]; (repeat' (first | refine fork_intro (fun hb => ?_) (fun hb => ?_) | refine partB_intro (fun hb => ?_) (fun hb => ?_) | refine And.intro ?_ ?_)); all_goals first | exact True.intro | omega | with_reducible rfl | exact congrArg (AV.int _) (by omega))
def t_apartS : Table := [(70, pureC g_apartS)]
theorem t_apartS_ok : TabOK Try.prog t_apartS := .cons Try.func70 (by kernel_rfl) (.pure (by intro args hp; unfold g_apartS at hp ⊢; split at hp <;> first | exact hp.elim | exact apartS_ok _ _ _ _ hp)) (.nil _)
attribute [go_sem] g_apartS_eq t_apartS
def g_treeFieldS : List AV → Prop × AV
  | [.ints ps, .ints ls] => (ps.length ≤ 1048576000 ∧ ls.length ≤ 1048576000, .tup [.agg [.ints (bif treeF ps ls then List.replicate ps.length 0 else []), .rows (bif treeF ps ls then treeD ps ls else [])], .bool (treeF ps ls)])
  | _ => (False, .undef)
theorem g_treeFieldS_eq (ps ls : List Int) : g_treeFieldS [.ints ps, .ints ls] = (ps.length ≤ 1048576000 ∧ ls.length ≤ 1048576000, .tup [.agg [.ints (bif treeF ps ls then List.replicate ps.length 0 else []), .rows (bif treeF ps ls then treeD ps ls else [])], .bool (treeF ps ls)]) := (rfl)
theorem treeFieldS_ok (ps ls : List Int) (hp : ps.length ≤ 1048576000 ∧ ls.length ≤ 1048576000) : SpecOK Try.prog 30 [.ints ps, .ints ls] (.tup [.agg [.ints (bif treeF ps ls then List.replicate ps.length 0 else []), .rows (bif treeF ps ls then treeD ps ls else [])], .bool (treeF ps ls)]) [] := by
  refine fun_ok (C := t_treeS ++ t_lensS ++ t_apartS ++ t_l2Good) (hint := hintX [4, 6, 23, 31] [(12, [.fz [8]])] 0 [] [] []) ((((t_treeS_ok).append t_lensS_ok).append t_apartS_ok).append t_l2Good_ok) mixed Try.func30 rfl (by kernel_rfl) rfl ?_
  show codeA _ _ _ _ _ _ _ _
  simp only [go_sem, cond_true, cond_false, ↓reduceIte, Nat.reduceEqDiff, Nat.reduceBEq, List.map_cons, List.map_nil, List.append_nil, List.cons_append, List.nil_append, true_and, and_true, Nat.reduceAdd, Nat.reduceSub, Nat.zero_add, Nat.add_zero, List.drop_zero, List.drop_succ_cons, List.take_succ_cons, List.take_zero, List.all_cons, List.all_nil, Bool.and_true, Bool.true_and, Bool.and_false, Bool.false_and, Bool.or_true, Bool.true_or, Bool.or_false, Bool.false_or, Bool.not_false, Bool.not_true, Option.getD_some, List.length_cons, List.length_nil, Nat.reduceLeDiff, Option.isSome_none, Option.isSome_some, Nat.reduceMul, eq_self, exists_const, List.toList_toArray, partB_true, partB_false, RK_i64, RK_u64, RK_u8, LoopEnd, List.getElem?_cons_zero, List.getElem?_cons_succ, List.getElem?_nil, Nat.sub_zero, Nat.le_refl, Int.toNat_natCast, List.set_cons_zero, List.set_cons_succ, List.getD_cons_zero, List.getD_cons_succ, Nat.sub_self, Option.map_some, Option.map_none, List.length_append, Nat.reduceLT, Try.results30]
  refine ⟨hp.1, partB_intro (fun h1 => ⟨⟨tree_iff.1 h1, hp.2⟩, partB_intro (fun h2 => ?_) (fun h2 => ?_)⟩) (fun h1 => ?_)⟩
  · have h := lens_iff h1 h2
    have n7 := h.t.n7
    have hll := h.len
    refine ⟨by omega, ?_⟩
    refine loop_intro (fun i : Nat => [(4, .bx 0 0), (6, .bx 2 0), (7, .int .i64 i), (0, .ints ps), (1, .ints ls)]) (fun i => [(0, .box [.nils, .nils]), (1, .arr (.rows (tab i fun i => tab ps.length fun a => apart ps ls i a))), (2, .box [.ints (List.replicate ps.length 0), .sl 1])]) 3 (fun i => i ≤ ps.length) (fun i => ps.length - i) 0 (by omega) (by omega) ?_ ?_
    · simp only [go_sem, cond_true, cond_false, ↓reduceIte, Nat.reduceEqDiff, Nat.reduceBEq, List.map_cons, List.map_nil, List.append_nil, List.cons_append, List.nil_append, true_and, and_true, Nat.reduceAdd, Nat.reduceSub, Nat.zero_add, Nat.add_zero, List.drop_zero, List.drop_succ_cons, List.take_succ_cons, List.take_zero, List.all_cons, List.all_nil, Bool.and_true, Bool.true_and, Bool.and_false, Bool.false_and, Bool.or_true, Bool.true_or, Bool.or_false, Bool.false_or, Bool.not_false, Bool.not_true, Option.getD_some, List.length_cons, List.length_nil, Nat.reduceLeDiff, Option.isSome_none, Option.isSome_some, Nat.reduceMul, eq_self, exists_const, List.toList_toArray, partB_true, partB_false, RK_i64, RK_u64, RK_u8, LoopEnd, List.getElem?_cons_zero, List.getElem?_cons_succ, List.getElem?_nil, Nat.sub_zero, Nat.le_refl, Int.toNat_natCast, List.set_cons_zero, List.set_cons_succ, List.getD_cons_zero, List.getD_cons_succ, Nat.sub_self, Option.map_some, Option.map_none, List.length_append, Nat.reduceLT]
      repeat' (first | refine fork_intro (fun hb => ?_) (fun hb => ?_) | refine partB_intro (fun hb => ?_) (fun hb => ?_) | refine And.intro ?_ ?_)
      all_goals first | exact True.intro | omega | with_reducible rfl | exact congrArg (AV.int _) (by omega) | (first | rfl)
    · intro i hi
      have hl : (tab i fun i => tab ps.length fun a => apart ps ls i a).length = i := tab_len _ _
      simp only [go_sem, cond_true, cond_false, ↓reduceIte, Nat.reduceEqDiff, Nat.reduceBEq, List.map_cons, List.map_nil, List.append_nil, List.cons_append, List.nil_append, true_and, and_true, Nat.reduceAdd, Nat.reduceSub, Nat.zero_add, Nat.add_zero, List.drop_zero, List.drop_succ_cons, List.take_succ_cons, List.take_zero, List.all_cons, List.all_nil, Bool.and_true, Bool.true_and, Bool.and_false, Bool.false_and, Bool.or_true, Bool.true_or, Bool.or_false, Bool.false_or, Bool.not_false, Bool.not_true, Option.getD_some, List.length_cons, List.length_nil, Nat.reduceLeDiff, Option.isSome_none, Option.isSome_some, Nat.reduceMul, eq_self, exists_const, List.toList_toArray, partB_true, partB_false, RK_i64, RK_u64, RK_u8, LoopEnd, List.getElem?_cons_zero, List.getElem?_cons_succ, List.getElem?_nil, Nat.sub_zero, Nat.le_refl, Int.toNat_natCast, List.set_cons_zero, List.set_cons_succ, List.getD_cons_zero, List.getD_cons_succ, Nat.sub_self, Option.map_some, Option.map_none, List.length_append, Nat.reduceLT]
      refine fork_intro (fun hb => ?_) (fun hb => ?_)
      · refine loop_intro (fun a : Nat => [(8, .sl 3), (9, .int .i64 a), (4, .bx 0 0), (6, .bx 2 0), (7, .int .i64 i), (0, .ints ps), (1, .ints ls)]) (fun a => [(0, .box [.nils, .nils]), (1, .arr (.rows (tab i fun i => tab ps.length fun a => apart ps ls i a))), (2, .box [.ints (List.replicate ps.length 0), .sl 1]), (3, .arr (.ints (tab a fun a => apart ps ls i a)))]) 4 (fun a => a ≤ ps.length) (fun a => ps.length - a) 0 (by omega) (by omega) ?_ ?_
        · simp only [go_sem, cond_true, cond_false, ↓reduceIte, Nat.reduceEqDiff, Nat.reduceBEq, List.map_cons, List.map_nil, List.append_nil, List.cons_append, List.nil_append, true_and, and_true, Nat.reduceAdd, Nat.reduceSub, Nat.zero_add, Nat.add_zero, List.drop_zero, List.drop_succ_cons, List.take_succ_cons, List.take_zero, List.all_cons, List.all_nil, Bool.and_true, Bool.true_and, Bool.and_false, Bool.false_and, Bool.or_true, Bool.true_or, Bool.or_false, Bool.false_or, Bool.not_false, Bool.not_true, Option.getD_some, List.length_cons, List.length_nil, Nat.reduceLeDiff, Option.isSome_none, Option.isSome_some, Nat.reduceMul, eq_self, exists_const, List.toList_toArray, partB_true, partB_false, RK_i64, RK_u64, RK_u8, LoopEnd, List.getElem?_cons_zero, List.getElem?_cons_succ, List.getElem?_nil, Nat.sub_zero, Nat.le_refl, Int.toNat_natCast, List.set_cons_zero, List.set_cons_succ, List.getD_cons_zero, List.getD_cons_succ, Nat.sub_self, Option.map_some, Option.map_none, List.length_append, Nat.reduceLT]
          repeat' (first | refine fork_intro (fun hb => ?_) (fun hb => ?_) | refine partB_intro (fun hb => ?_) (fun hb => ?_) | refine And.intro ?_ ?_)
          all_goals first | exact True.intro | omega | with_reducible rfl | exact congrArg (AV.int _) (by omega) | (first | rfl)
        · intro a ha
          have hl2 : (tab a fun a => apart ps ls i a).length = a := tab_len _ _
          simp only [go_sem, cond_true, cond_false, ↓reduceIte, Nat.reduceEqDiff, Nat.reduceBEq, List.map_cons, List.map_nil, List.append_nil, List.cons_append, List.nil_append, true_and, and_true, Nat.reduceAdd, Nat.reduceSub, Nat.zero_add, Nat.add_zero, List.drop_zero, List.drop_succ_cons, List.take_succ_cons, List.take_zero, List.all_cons, List.all_nil, Bool.and_true, Bool.true_and, Bool.and_false, Bool.false_and, Bool.or_true, Bool.true_or, Bool.or_false, Bool.false_or, Bool.not_false, Bool.not_true, Option.getD_some, List.length_cons, List.length_nil, Nat.reduceLeDiff, Option.isSome_none, Option.isSome_some, Nat.reduceMul, eq_self, exists_const, List.toList_toArray, partB_true, partB_false, RK_i64, RK_u64, RK_u8, LoopEnd, List.getElem?_cons_zero, List.getElem?_cons_succ, List.getElem?_nil, Nat.sub_zero, Nat.le_refl, Int.toNat_natCast, List.set_cons_zero, List.set_cons_succ, List.getD_cons_zero, List.getD_cons_succ, Nat.sub_self, Option.map_some, Option.map_none, List.length_append, Nat.reduceLT]
          refine fork_intro (fun hd => ?_) (fun hd => ?_)
          · have e := tab_succ a (fun a => apart ps ls i a)
            repeat' (first | refine fork_intro (fun hb => ?_) (fun hb => ?_) | refine partB_intro (fun hb => ?_) (fun hb => ?_) | refine And.intro ?_ ?_)
            all_goals first | exact True.intro | omega | with_reducible rfl | exact congrArg (AV.int _) (by omega) | (refine LoopEnd.intro (a + 1) (by first | omega) (by first | omega | (dsimp only; omega)) (by omega) ?_; simp only [go_sem, cond_true, cond_false, ↓reduceIte, Nat.reduceEqDiff, Nat.reduceBEq, List.map_cons, List.map_nil, List.append_nil, List.cons_append, List.nil_append, true_and, and_true, Nat.reduceAdd, Nat.reduceSub, Nat.zero_add, Nat.add_zero, List.drop_zero, List.drop_succ_cons, List.take_succ_cons, List.take_zero, List.all_cons, List.all_nil, Bool.and_true, Bool.true_and, Bool.and_false, Bool.false_and, Bool.or_true, Bool.true_or, Bool.or_false, Bool.false_or, Bool.not_false, Bool.not_true, Option.getD_some, List.length_cons, List.length_nil, Nat.reduceLeDiff, Option.isSome_none, Option.isSome_some, Nat.reduceMul, eq_self, exists_const, List.toList_toArray, partB_true, partB_false, RK_i64, RK_u64, RK_u8, LoopEnd, List.getElem?_cons_zero, List.getElem?_cons_succ, List.getElem?_nil, Nat.sub_zero, Nat.le_refl, Int.toNat_natCast, List.set_cons_zero, List.set_cons_succ, List.getD_cons_zero, List.getD_cons_succ, Nat.sub_self, Option.map_some, Option.map_none, List.length_append, Nat.reduceLT]; (repeat' (first | refine fork_intro (fun hb => ?_) (fun hb => ?_) | refine partB_intro (fun hb => ?_) (fun hb => ?_) | refine And.intro ?_ ?_)); all_goals first | exact True.intro | omega | with_reducible rfl | exact congrArg (AV.int _) (by omega) | (first | exact h | (rw [e]))) | (first | exact h | (rw [e]))
          · have e := tab_succ i (fun i => tab ps.length fun a => apart ps ls i a)
            have ea : a = ps.length := by omega
            repeat' (first | refine fork_intro (fun hb => ?_) (fun hb => ?_) | refine partB_intro (fun hb => ?_) (fun hb => ?_) | refine And.intro ?_ ?_)
            all_goals first | exact True.intro | omega | with_reducible rfl | exact congrArg (AV.int _) (by omega) | (refine LoopEnd.intro (i + 1) (by first | omega) (by first | omega | (dsimp only; omega)) (by omega) ?_; simp only [go_sem, cond_true, cond_false, ↓reduceIte, Nat.reduceEqDiff, Nat.reduceBEq, List.map_cons, List.map_nil, List.append_nil, List.cons_append, List.nil_append, true_and, and_true, Nat.reduceAdd, Nat.reduceSub, Nat.zero_add, Nat.add_zero, List.drop_zero, List.drop_succ_cons, List.take_succ_cons, List.take_zero, List.all_cons, List.all_nil, Bool.and_true, Bool.true_and, Bool.and_false, Bool.false_and, Bool.or_true, Bool.true_or, Bool.or_false, Bool.false_or, Bool.not_false, Bool.not_true, Option.getD_some, List.length_cons, List.length_nil, Nat.reduceLeDiff, Option.isSome_none, Option.isSome_some, Nat.reduceMul, eq_self, exists_const, List.toList_toArray, partB_true, partB_false, RK_i64, RK_u64, RK_u8, LoopEnd, List.getElem?_cons_zero, List.getElem?_cons_succ, List.getElem?_nil, Nat.sub_zero, Nat.le_refl, Int.toNat_natCast, List.set_cons_zero, List.set_cons_succ, List.getD_cons_zero, List.getD_cons_succ, Nat.sub_self, Option.map_some, Option.map_none, List.length_append, Nat.reduceLT]; (repeat' (first | refine fork_intro (fun hb => ?_) (fun hb => ?_) | refine partB_intro (fun hb => ?_) (fun hb => ?_) | refine And.intro ?_ ?_)); all_goals first | exact True.intro | omega | with_reducible rfl | exact congrArg (AV.int _) (by omega) | (first | rw [e, ea])) | (first | rw [e, ea])
      · have ei : i = ps.length := by omega
        have hg2 : (tab i fun i => tab ps.length fun a => apart ps ls i a) = treeD ps ls := by rw [ei]; rfl
        have htl : (treeD ps ls).length = ps.length := tab_len _ _
        have hpr : (List.replicate ps.length (0 : Int)).length ≤ 1048576000 ∧ (treeD ps ls).length ≤ 1048576000 ∧ ∀ x ∈ treeD ps ls, x.length ≤ 1048576000 := by
          refine ⟨by simp; omega, by omega, fun x hx => ?_⟩
          obtain ⟨k, hk, rfl⟩ := mem_tab.1 hx
          rw [tab_len]; omega
        rw [hg2]
        refine ⟨hpr, partB_intro (fun h3 => ?_) (fun h3 => ?_)⟩
        · rw [show treeF ps ls = true by rw [treeF, h1, h2, h3]; rfl]
          repeat' (first | refine fork_intro (fun hb => ?_) (fun hb => ?_) | refine partB_intro (fun hb => ?_) (fun hb => ?_) | refine And.intro ?_ ?_)
          all_goals first | exact True.intro | omega | with_reducible rfl | exact congrArg (AV.int _) (by omega) | (first | rfl)
        · rw [show treeF ps ls = false by rw [treeF, h3, Bool.and_false]]
          repeat' (first | refine fork_intro (fun hb => ?_) (fun hb => ?_) | refine partB_intro (fun hb => ?_) (fun hb => ?_) | refine And.intro ?_ ?_)
          all_goals first | exact True.intro | omega | with_reducible rfl | exact congrArg (AV.int _) (by omega) | (first | rfl)
  · rw [show treeF ps ls = false by rw [treeF, h2, Bool.and_false, Bool.false_and]]
    repeat' (first | refine fork_intro (fun hb => ?_) (fun hb => ?_) | refine partB_intro (fun hb => ?_) (fun hb => ?_) | refine And.intro ?_ ?_)
    all_goals first | exact True.intro | omega | with_reducible rfl | exact congrArg (AV.int _) (by omega) | (first | rfl)
  · rw [show treeF ps ls = false by rw [treeF, h1, Bool.false_and, Bool.false_and]]
    repeat' (first | refine fork_intro (fun hb => ?_) (fun hb => ?_) | refine partB_intro (fun hb => ?_) (fun hb => ?_) | refine And.intro ?_ ?_)
    all_goals first | exact True.intro | omega | with_reducible rfl | exact congrArg (AV.int _) (by omega) | (first | rfl)
def t_treeFieldS : Table := [(30, pureC g_treeFieldS)]
theorem t_treeFieldS_ok : TabOK Try.prog t_treeFieldS := .cons Try.func30 (by kernel_rfl) (.pure (by intro args hp; unfold g_treeFieldS at hp ⊢; split at hp <;> first | exact hp.elim | exact treeFieldS_ok _ _ hp)) (.nil _)
attribute [go_sem] g_treeFieldS_eq t_treeFieldS
def g_treeFieldI : List AV → Prop × AV × Heap
  | [.ints ps, .ints ls] => (ps.length ≤ 1048576000 ∧ ls.length ≤ 1048576000, .tup [.agg [.sl 1, .mt 3], .bool (treeF ps ls)], [(1, .arr (.ints (bif treeF ps ls then List.replicate ps.length 0 else []))), (3, .mat (bif treeF ps ls then treeD ps ls else []))])
  | _ => (False, .undef, [])
theorem g_treeFieldI_eq (ps ls : List Int) : g_treeFieldI [.ints ps, .ints ls] = (ps.length ≤ 1048576000 ∧ ls.length ≤ 1048576000, .tup [.agg [.sl 1, .mt 3], .bool (treeF ps ls)], [(1, .arr (.ints (bif treeF ps ls then List.replicate ps.length 0 else []))), (3, .mat (bif treeF ps ls then treeD ps ls else []))]) := (rfl)
theorem treeFieldI_ok (ps ls : List Int) (hp : ps.length ≤ 1048576000 ∧ ls.length ≤ 1048576000) : SpecOK Try.prog 31 [.ints ps, .ints ls] (.tup [.agg [.sl 1, .mt 3], .bool (treeF ps ls)]) [(1, .arr (.ints (bif treeF ps ls then List.replicate ps.length 0 else []))), (3, .mat (bif treeF ps ls then treeD ps ls else []))] := by
  refine fun_ok (C := t_treeI ++ t_areBtw ++ t_isF) (hint := hintX [4, 7, 37, 44] [(3, [.post, .upf 4 0 (.arr (.ints [])), .skip, .upf 4 1 (.mat [])]), (5, [.upf 7 1 (.mat [])]), (23, [.post, .drop [1, 2, 3] 1, .upf 4 0 (.arr (.ints [])), .skip, .upf 4 1 (.mat [])])] 0 [] [] []) (((t_treeI_ok).append t_areBtw_ok).append t_isF_ok) mixed Try.func31 rfl (by kernel_rfl) rfl ?_
  show codeA _ _ _ _ _ _ _ _
  simp only [go_sem, cond_true, cond_false, ↓reduceIte, Nat.reduceEqDiff, Nat.reduceBEq, List.map_cons, List.map_nil, List.append_nil, List.cons_append, List.nil_append, true_and, and_true, Nat.reduceAdd, Nat.reduceSub, Nat.zero_add, Nat.add_zero, List.drop_zero, List.drop_succ_cons, List.take_succ_cons, List.take_zero, List.all_cons, List.all_nil, Bool.and_true, Bool.true_and, Bool.and_false, Bool.false_and, Bool.or_true, Bool.true_or, Bool.or_false, Bool.false_or, Bool.not_false, Bool.not_true, Option.getD_some, List.length_cons, List.length_nil, Nat.reduceLeDiff, Option.isSome_none, Option.isSome_some, Nat.reduceMul, eq_self, exists_const, List.toList_toArray, partB_true, partB_false, RK_i64, RK_u64, RK_u8, LoopEnd, List.getElem?_cons_zero, List.getElem?_cons_succ, List.getElem?_nil, Nat.sub_zero, Nat.le_refl, Int.toNat_natCast, List.set_cons_zero, List.set_cons_succ, List.getD_cons_zero, List.getD_cons_succ, Nat.sub_self, Option.map_some, Option.map_none, List.length_append, Nat.reduceLT, Try.results31]
  have hno : (tree ps = false ∨ lensB ps ls = false) → treeF ps ls = false := fun h => by
    rcases h with h | h
    · rw [treeF, h, Bool.false_and, Bool.false_and]
    · rw [treeF, h, Bool.and_false, Bool.false_and]
  refine ⟨hp.1, partB_intro (fun h1 => fork_intro (fun h2 => ⟨hp.2, partB_intro (fun h3 => ⟨?_, fork_intro (fun h4 => ?_) (fun h4 => ?_)⟩) (fun h3 => ?_)⟩) (fun h2 => ?_)) (fun h1 => ?_)⟩
  · have := (tree_iff.1 h1).n1; omega
  · have h3' : rowOK 99 ls = true := h3
    have hlb : lensB ps ls = true := by rw [lensB, h3', decide_eq_true h2, decide_eq_true h4]; rfl
    have h := lens_iff h1 hlb
    have n7 := h.t.n7
    have hll := h.len
    refine ⟨by omega, ?_⟩
    refine loop_intro (fun i : Nat => [(39, .int .i64 ps.length), (40, .int .i64 i), (4, .bx 0 0), (6, .int .i64 ps.length), (7, .bx 2 0), (0, .ints ps), (1, .ints ls)]) (fun i => [(0, .box [.nils, .nils]), (1, .arr (.ints (List.replicate ps.length 0))), (2, .box [.sl 1, .mt 3]), (3, .mat (tab i fun i => tab ps.length fun a => apart ps ls i a))]) 4 (fun i => i ≤ ps.length) (fun i => ps.length - i) 0 (by omega) (by omega) ?_ ?_
    · simp only [go_sem, cond_true, cond_false, ↓reduceIte, Nat.reduceEqDiff, Nat.reduceBEq, List.map_cons, List.map_nil, List.append_nil, List.cons_append, List.nil_append, true_and, and_true, Nat.reduceAdd, Nat.reduceSub, Nat.zero_add, Nat.add_zero, List.drop_zero, List.drop_succ_cons, List.take_succ_cons, List.take_zero, List.all_cons, List.all_nil, Bool.and_true, Bool.true_and, Bool.and_false, Bool.false_and, Bool.or_true, Bool.true_or, Bool.or_false, Bool.false_or, Bool.not_false, Bool.not_true, Option.getD_some, List.length_cons, List.length_nil, Nat.reduceLeDiff, Option.isSome_none, Option.isSome_some, Nat.reduceMul, eq_self, exists_const, List.toList_toArray, partB_true, partB_false, RK_i64, RK_u64, RK_u8, LoopEnd, List.getElem?_cons_zero, List.getElem?_cons_succ, List.getElem?_nil, Nat.sub_zero, Nat.le_refl, Int.toNat_natCast, List.set_cons_zero, List.set_cons_succ, List.getD_cons_zero, List.getD_cons_succ, Nat.sub_self, Option.map_some, Option.map_none, List.length_append, Nat.reduceLT]
      repeat' (first | refine fork_intro (fun hb => ?_) (fun hb => ?_) | refine partB_intro (fun hb => ?_) (fun hb => ?_) | refine And.intro ?_ ?_)
      all_goals first | exact True.intro | omega | with_reducible rfl | exact congrArg (AV.int _) (by omega) | (first | rfl)
    · intro i hi
      have hl : (tab i fun i => tab ps.length fun a => apart ps ls i a).length = i := tab_len _ _
      simp only [go_sem, cond_true, cond_false, ↓reduceIte, Nat.reduceEqDiff, Nat.reduceBEq, List.map_cons, List.map_nil, List.append_nil, List.cons_append, List.nil_append, true_and, and_true, Nat.reduceAdd, Nat.reduceSub, Nat.zero_add, Nat.add_zero, List.drop_zero, List.drop_succ_cons, List.take_succ_cons, List.take_zero, List.all_cons, List.all_nil, Bool.and_true, Bool.true_and, Bool.and_false, Bool.false_and, Bool.or_true, Bool.true_or, Bool.or_false, Bool.false_or, Bool.not_false, Bool.not_true, Option.getD_some, List.length_cons, List.length_nil, Nat.reduceLeDiff, Option.isSome_none, Option.isSome_some, Nat.reduceMul, eq_self, exists_const, List.toList_toArray, partB_true, partB_false, RK_i64, RK_u64, RK_u8, LoopEnd, List.getElem?_cons_zero, List.getElem?_cons_succ, List.getElem?_nil, Nat.sub_zero, Nat.le_refl, Int.toNat_natCast, List.set_cons_zero, List.set_cons_succ, List.getD_cons_zero, List.getD_cons_succ, Nat.sub_self, Option.map_some, Option.map_none, List.length_append, Nat.reduceLT]
      refine fork_intro (fun hb => ?_) (fun hb => ?_)
      · refine ⟨by omega, ?_⟩
        refine loop_intro (fun a : Nat => [(45, .int .i64 ps.length), (46, .int .i64 a), (8, .int .i64 i), (9, .sl 4), (39, .int .i64 ps.length), (40, .int .i64 i), (4, .bx 0 0), (6, .int .i64 ps.length), (7, .bx 2 0), (0, .ints ps), (1, .ints ls)]) (fun a => [(0, .box [.nils, .nils]), (1, .arr (.ints (List.replicate ps.length 0))), (2, .box [.sl 1, .mt 3]), (3, .mat (tab i fun i => tab ps.length fun a => apart ps ls i a)), (4, .arr (.ints (tab ps.length fun b => if b < a then apart ps ls i b else 0)))]) 5 (fun a => a ≤ ps.length) (fun a => ps.length - a) 0 (by omega) (by omega) ?_ ?_
        · have e0 : List.replicate ps.length (0 : Int) = tab ps.length fun b => if b < 0 then apart ps ls i b else 0 := by rw [tab_rep]; exact tab_congr (fun k hk => by simp)
          simp only [go_sem, cond_true, cond_false, ↓reduceIte, Nat.reduceEqDiff, Nat.reduceBEq, List.map_cons, List.map_nil, List.append_nil, List.cons_append, List.nil_append, true_and, and_true, Nat.reduceAdd, Nat.reduceSub, Nat.zero_add, Nat.add_zero, List.drop_zero, List.drop_succ_cons, List.take_succ_cons, List.take_zero, List.all_cons, List.all_nil, Bool.and_true, Bool.true_and, Bool.and_false, Bool.false_and, Bool.or_true, Bool.true_or, Bool.or_false, Bool.false_or, Bool.not_false, Bool.not_true, Option.getD_some, List.length_cons, List.length_nil, Nat.reduceLeDiff, Option.isSome_none, Option.isSome_some, Nat.reduceMul, eq_self, exists_const, List.toList_toArray, partB_true, partB_false, RK_i64, RK_u64, RK_u8, LoopEnd, List.getElem?_cons_zero, List.getElem?_cons_succ, List.getElem?_nil, Nat.sub_zero, Nat.le_refl, Int.toNat_natCast, List.set_cons_zero, List.set_cons_succ, List.getD_cons_zero, List.getD_cons_succ, Nat.sub_self, Option.map_some, Option.map_none, List.length_append, Nat.reduceLT]
          repeat' (first | refine fork_intro (fun hb => ?_) (fun hb => ?_) | refine partB_intro (fun hb => ?_) (fun hb => ?_) | refine And.intro ?_ ?_)
          all_goals first | exact True.intro | omega | with_reducible rfl | exact congrArg (AV.int _) (by omega) | (first | rfl | rw [e0])
        · intro a ha
          simp only [go_sem, cond_true, cond_false, ↓reduceIte, Nat.reduceEqDiff, Nat.reduceBEq, List.map_cons, List.map_nil, List.append_nil, List.cons_append, List.nil_append, true_and, and_true, Nat.reduceAdd, Nat.reduceSub, Nat.zero_add, Nat.add_zero, List.drop_zero, List.drop_succ_cons, List.take_succ_cons, List.take_zero, List.all_cons, List.all_nil, Bool.and_true, Bool.true_and, Bool.and_false, Bool.false_and, Bool.or_true, Bool.true_or, Bool.or_false, Bool.false_or, Bool.not_false, Bool.not_true, Option.getD_some, List.length_cons, List.length_nil, Nat.reduceLeDiff, Option.isSome_none, Option.isSome_some, Nat.reduceMul, eq_self, exists_const, List.toList_toArray, partB_true, partB_false, RK_i64, RK_u64, RK_u8, LoopEnd, List.getElem?_cons_zero, List.getElem?_cons_succ, List.getElem?_nil, Nat.sub_zero, Nat.le_refl, Int.toNat_natCast, List.set_cons_zero, List.set_cons_succ, List.getD_cons_zero, List.getD_cons_succ, Nat.sub_self, Option.map_some, Option.map_none, List.length_append, Nat.reduceLT]
          refine fork_intro (fun hd => ?_) (fun hd => ?_)
          · have b0 := h.bd (x := i) (y := a) (by omega) (by omega)
            refine loop_intro (fun g : Nat × Nat => [(11, .int .i64 g.1), (12, .int .i64 g.2), (10, .int .i64 a), (45, .int .i64 ps.length), (46, .int .i64 a), (8, .int .i64 i), (9, .sl 4), (39, .int .i64 ps.length), (40, .int .i64 i), (4, .bx 0 0), (6, .int .i64 ps.length), (7, .bx 2 0), (0, .ints ps), (1, .ints ls)]) (fun g => [(0, .box [.nils, .nils]), (1, .arr (.ints (List.replicate ps.length 0))), (2, .box [.sl 1, .mt 3]), (3, .mat (tab i fun i => tab ps.length fun a => apart ps ls i a)), (4, .arr (.ints (tab ps.length fun b => if b < a then apart ps ls i b else if b = a then apart ps ls i a - apart ps ls g.1 g.2 else 0)))]) 5 (fun g => g.1 < ps.length ∧ g.2 < ps.length) (fun g => g.1 + g.2) (i, a) ⟨by show i < _; omega, by show a < _; omega⟩ (by omega) ?_ ?_
            · have e0 : (tab ps.length fun b => if b < a then apart ps ls i b else 0) = tab ps.length fun b => if b < a then apart ps ls i b else if b = a then apart ps ls i a - apart ps ls i a else 0 := tab_congr (fun k hk => by
                split
                · rfl
                · split <;> omega)
              simp only [go_sem, cond_true, cond_false, ↓reduceIte, Nat.reduceEqDiff, Nat.reduceBEq, List.map_cons, List.map_nil, List.append_nil, List.cons_append, List.nil_append, true_and, and_true, Nat.reduceAdd, Nat.reduceSub, Nat.zero_add, Nat.add_zero, List.drop_zero, List.drop_succ_cons, List.take_succ_cons, List.take_zero, List.all_cons, List.all_nil, Bool.and_true, Bool.true_and, Bool.and_false, Bool.false_and, Bool.or_true, Bool.true_or, Bool.or_false, Bool.false_or, Bool.not_false, Bool.not_true, Option.getD_some, List.length_cons, List.length_nil, Nat.reduceLeDiff, Option.isSome_none, Option.isSome_some, Nat.reduceMul, eq_self, exists_const, List.toList_toArray, partB_true, partB_false, RK_i64, RK_u64, RK_u8, LoopEnd, List.getElem?_cons_zero, List.getElem?_cons_succ, List.getElem?_nil, Nat.sub_zero, Nat.le_refl, Int.toNat_natCast, List.set_cons_zero, List.set_cons_succ, List.getD_cons_zero, List.getD_cons_succ, Nat.sub_self, Option.map_some, Option.map_none, List.length_append, Nat.reduceLT]
              repeat' (first | refine fork_intro (fun hb => ?_) (fun hb => ?_) | refine partB_intro (fun hb => ?_) (fun hb => ?_) | refine And.intro ?_ ?_)
              all_goals first | exact True.intro | omega | with_reducible rfl | exact congrArg (AV.int _) (by omega) | (first | rfl | rw [e0])
            · rintro ⟨p, q⟩ ⟨hp', hq⟩
              simp only at hp' hq
              have b1 := h.bd hp' hq
              have hl4 : (tab ps.length fun b => if b < a then apart ps ls i b else if b = a then apart ps ls i a - apart ps ls p q else 0).length = ps.length := tab_len _ _
              have hx4 : ix (tab ps.length fun b => if b < a then apart ps ls i b else if b = a then apart ps ls i a - apart ps ls p q else 0) (a : Int) = apart ps ls i a - apart ps ls p q := by rw [tab_ix (by omega), if_neg (by omega), if_pos rfl]
              have hset : ∀ v, (tab ps.length fun b => if b < a then apart ps ls i b else if b = a then apart ps ls i a - apart ps ls p q else 0).set a v = tab ps.length fun b => if b < a then apart ps ls i b else if b = a then v else 0 := fun v => by
                rw [tab_set _ (by omega)]
                refine tab_congr (fun k hk => ?_)
                by_cases e : k = a
                · subst e; rw [if_pos rfl, if_neg (by omega), if_pos rfl]
                · simp only [if_neg e]
              simp only [go_sem, cond_true, cond_false, ↓reduceIte, Nat.reduceEqDiff, Nat.reduceBEq, List.map_cons, List.map_nil, List.append_nil, List.cons_append, List.nil_append, true_and, and_true, Nat.reduceAdd, Nat.reduceSub, Nat.zero_add, Nat.add_zero, List.drop_zero, List.drop_succ_cons, List.take_succ_cons, List.take_zero, List.all_cons, List.all_nil, Bool.and_true, Bool.true_and, Bool.and_false, Bool.false_and, Bool.or_true, Bool.true_or, Bool.or_false, Bool.false_or, Bool.not_false, Bool.not_true, Option.getD_some, List.length_cons, List.length_nil, Nat.reduceLeDiff, Option.isSome_none, Option.isSome_some, Nat.reduceMul, eq_self, exists_const, List.toList_toArray, partB_true, partB_false, RK_i64, RK_u64, RK_u8, LoopEnd, List.getElem?_cons_zero, List.getElem?_cons_succ, List.getElem?_nil, Nat.sub_zero, Nat.le_refl, Int.toNat_natCast, List.set_cons_zero, List.set_cons_succ, List.getD_cons_zero, List.getD_cons_succ, Nat.sub_self, Option.map_some, Option.map_none, List.length_append, Nat.reduceLT]
              refine fork_intro (fun hb => ?_) (fun hb => ?_)
              · have e : p = q := by omega
                subst e
                have e1 : (tab ps.length fun b => if b < a then apart ps ls i b else if b = a then apart ps ls i a - apart ps ls p p else 0) = tab ps.length fun b => if b < a + 1 then apart ps ls i b else 0 := tab_congr (fun k hk => by
                  rw [apart_same, Int.sub_zero]
                  by_cases e1 : k < a
                  · rw [if_pos e1, if_pos (by omega)]
                  · rw [if_neg e1]
                    by_cases e2 : k = a
                    · subst e2; rw [if_pos rfl, if_pos (by omega)]
                    · rw [if_neg e2, if_neg (by omega)])
                repeat' (first | refine fork_intro (fun hb => ?_) (fun hb => ?_) | refine partB_intro (fun hb => ?_) (fun hb => ?_) | refine And.intro ?_ ?_)
                all_goals first | exact True.intro | omega | with_reducible rfl | exact congrArg (AV.int _) (by omega) | (refine LoopEnd.intro (a + 1) (by first | omega) (by first | omega | (dsimp only; omega)) (by omega) ?_; simp only [go_sem, cond_true, cond_false, ↓reduceIte, Nat.reduceEqDiff, Nat.reduceBEq, List.map_cons, List.map_nil, List.append_nil, List.cons_append, List.nil_append, true_and, and_true, Nat.reduceAdd, Nat.reduceSub, Nat.zero_add, Nat.add_zero, List.drop_zero, List.drop_succ_cons, List.take_succ_cons, List.take_zero, List.all_cons, List.all_nil, Bool.and_true, Bool.true_and, Bool.and_false, Bool.false_and, Bool.or_true, Bool.true_or, Bool.or_false, Bool.false_or, Bool.not_false, Bool.not_true, Option.getD_some, List.length_cons, List.length_nil, Nat.reduceLeDiff, Option.isSome_none, Option.isSome_some, Nat.reduceMul, eq_self, exists_const, List.toList_toArray, partB_true, partB_false, RK_i64, RK_u64, RK_u8, LoopEnd, List.getElem?_cons_zero, List.getElem?_cons_succ, List.getElem?_nil, Nat.sub_zero, Nat.le_refl, Int.toNat_natCast, List.set_cons_zero, List.set_cons_succ, List.getD_cons_zero, List.getD_cons_succ, Nat.sub_self, Option.map_some, Option.map_none, List.length_append, Nat.reduceLT]; (repeat' (first | refine fork_intro (fun hb => ?_) (fun hb => ?_) | refine partB_intro (fun hb => ?_) (fun hb => ?_) | refine And.intro ?_ ?_)); all_goals first | exact True.intro | omega | with_reducible rfl | exact congrArg (AV.int _) (by omega) | (first | rw [e1])) | (first | rw [e1])
              · refine fork_intro (fun hc => ?_) (fun hc => ?_)
                · have hpp := h.t.par p hp' (by omega)
                  have hst := apart_gt ls h.t (x := p) (y := q) (by omega) hp'
                  have hw := h.w p hp'
                  have b2 := h.bd (x := (ix ps (p : Int)).toNat) (y := q) (by omega) hq
                  have e2 : apart ps ls i a - apart ps ls p q + ix ls (p : Int) = apart ps ls i a - apart ps ls (ix ps (p : Int)).toNat q := by omega
                  rw [hx4, hset, e2]
                  repeat' (first | refine fork_intro (fun hb => ?_) (fun hb => ?_) | refine partB_intro (fun hb => ?_) (fun hb => ?_) | refine And.intro ?_ ?_)
                  all_goals first | exact True.intro | omega | with_reducible rfl | exact congrArg (AV.int _) (by omega) | (refine LoopEnd.intro (((ix ps (p : Int)).toNat, q)) (by first | omega | (first | exact ⟨by show _ < _; omega, by show _ < _; omega⟩)) (by first | omega | (dsimp only; omega)) (by omega) ?_; simp only [go_sem, cond_true, cond_false, ↓reduceIte, Nat.reduceEqDiff, Nat.reduceBEq, List.map_cons, List.map_nil, List.append_nil, List.cons_append, List.nil_append, true_and, and_true, Nat.reduceAdd, Nat.reduceSub, Nat.zero_add, Nat.add_zero, List.drop_zero, List.drop_succ_cons, List.take_succ_cons, List.take_zero, List.all_cons, List.all_nil, Bool.and_true, Bool.true_and, Bool.and_false, Bool.false_and, Bool.or_true, Bool.true_or, Bool.or_false, Bool.false_or, Bool.not_false, Bool.not_true, Option.getD_some, List.length_cons, List.length_nil, Nat.reduceLeDiff, Option.isSome_none, Option.isSome_some, Nat.reduceMul, eq_self, exists_const, List.toList_toArray, partB_true, partB_false, RK_i64, RK_u64, RK_u8, LoopEnd, List.getElem?_cons_zero, List.getElem?_cons_succ, List.getElem?_nil, Nat.sub_zero, Nat.le_refl, Int.toNat_natCast, List.set_cons_zero, List.set_cons_succ, List.getD_cons_zero, List.getD_cons_succ, Nat.sub_self, Option.map_some, Option.map_none, List.length_append, Nat.reduceLT]; (repeat' (first | refine fork_intro (fun hb => ?_) (fun hb => ?_) | refine partB_intro (fun hb => ?_) (fun hb => ?_) | refine And.intro ?_ ?_)); all_goals first | exact True.intro | omega | with_reducible rfl | exact congrArg (AV.int _) (by omega))
                · have hpp := h.t.par q hq (by omega)
                  have hst := apart_lt ls h.t (x := p) (y := q) (by omega) hq
                  have hw := h.w q hq
                  have b2 := h.bd (x := p) (y := (ix ps (q : Int)).toNat) hp' (by omega)
                  have e2 : apart ps ls i a - apart ps ls p q + ix ls (q : Int) = apart ps ls i a - apart ps ls p (ix ps (q : Int)).toNat := by omega
                  rw [hx4, hset, e2]
                  repeat' (first | refine fork_intro (fun hb => ?_) (fun hb => ?_) | refine partB_intro (fun hb => ?_) (fun hb => ?_) | refine And.intro ?_ ?_)
                  all_goals first | exact True.intro | omega | with_reducible rfl | exact congrArg (AV.int _) (by omega) | (refine LoopEnd.intro ((p, (ix ps (q : Int)).toNat)) (by first | omega | (first | exact ⟨by show _ < _; omega, by show _ < _; omega⟩)) (by first | omega | (dsimp only; omega)) (by omega) ?_; simp only [go_sem, cond_true, cond_false, ↓reduceIte, Nat.reduceEqDiff, Nat.reduceBEq, List.map_cons, List.map_nil, List.append_nil, List.cons_append, List.nil_append, true_and, and_true, Nat.reduceAdd, Nat.reduceSub, Nat.zero_add, Nat.add_zero, List.drop_zero, List.drop_succ_cons, List.take_succ_cons, List.take_zero, List.all_cons, List.all_nil, Bool.and_true, Bool.true_and, Bool.and_false, Bool.false_and, Bool.or_true, Bool.true_or, Bool.or_false, Bool.false_or, Bool.not_false, Bool.not_true, Option.getD_some, List.length_cons, List.length_nil, Nat.reduceLeDiff, Option.isSome_none, Option.isSome_some, Nat.reduceMul, eq_self, exists_const, List.toList_toArray, partB_true, partB_false, RK_i64, RK_u64, RK_u8, LoopEnd, List.getElem?_cons_zero, List.getElem?_cons_succ, List.getElem?_nil, Nat.sub_zero, Nat.le_refl, Int.toNat_natCast, List.set_cons_zero, List.set_cons_succ, List.getD_cons_zero, List.getD_cons_succ, Nat.sub_self, Option.map_some, Option.map_none, List.length_append, Nat.reduceLT]; (repeat' (first | refine fork_intro (fun hb => ?_) (fun hb => ?_) | refine partB_intro (fun hb => ?_) (fun hb => ?_) | refine And.intro ?_ ?_)); all_goals first | exact True.intro | omega | with_reducible rfl | exact congrArg (AV.int _) (by omega))
          · have e := tab_succ i (fun i => tab ps.length fun a => apart ps ls i a)
            have ea : (tab ps.length fun b => if b < a then apart ps ls i b else 0) = tab ps.length fun b => apart ps ls i b := tab_congr (fun k hk => by rw [if_pos (by omega)])
            repeat' (first | refine fork_intro (fun hb => ?_) (fun hb => ?_) | refine partB_intro (fun hb => ?_) (fun hb => ?_) | refine And.intro ?_ ?_)
            all_goals first | exact True.intro | omega | with_reducible rfl | exact congrArg (AV.int _) (by omega) | (refine LoopEnd.intro (i + 1) (by first | omega) (by first | omega | (dsimp only; omega)) (by omega) ?_; simp only [go_sem, cond_true, cond_false, ↓reduceIte, Nat.reduceEqDiff, Nat.reduceBEq, List.map_cons, List.map_nil, List.append_nil, List.cons_append, List.nil_append, true_and, and_true, Nat.reduceAdd, Nat.reduceSub, Nat.zero_add, Nat.add_zero, List.drop_zero, List.drop_succ_cons, List.take_succ_cons, List.take_zero, List.all_cons, List.all_nil, Bool.and_true, Bool.true_and, Bool.and_false, Bool.false_and, Bool.or_true, Bool.true_or, Bool.or_false, Bool.false_or, Bool.not_false, Bool.not_true, Option.getD_some, List.length_cons, List.length_nil, Nat.reduceLeDiff, Option.isSome_none, Option.isSome_some, Nat.reduceMul, eq_self, exists_const, List.toList_toArray, partB_true, partB_false, RK_i64, RK_u64, RK_u8, LoopEnd, List.getElem?_cons_zero, List.getElem?_cons_succ, List.getElem?_nil, Nat.sub_zero, Nat.le_refl, Int.toNat_natCast, List.set_cons_zero, List.set_cons_succ, List.getD_cons_zero, List.getD_cons_succ, Nat.sub_self, Option.map_some, Option.map_none, List.length_append, Nat.reduceLT]; (repeat' (first | refine fork_intro (fun hb => ?_) (fun hb => ?_) | refine partB_intro (fun hb => ?_) (fun hb => ?_) | refine And.intro ?_ ?_)); all_goals first | exact True.intro | omega | with_reducible rfl | exact congrArg (AV.int _) (by omega) | (first | rw [e, ea])) | (first | rw [e, ea])
      · have ei : i = ps.length := by omega
        have hg2 : (tab i fun i => tab ps.length fun a => apart ps ls i a) = treeD ps ls := by rw [ei]; rfl
        have htl : (treeD ps ls).length = ps.length := tab_len _ _
        have hpr : (List.replicate ps.length (0 : Int)).length ≤ 1048576000 ∧ (treeD ps ls).length ≤ 1048576000 ∧ ∀ x ∈ treeD ps ls, x.length ≤ 1048576000 := by
          refine ⟨by simp; omega, by omega, fun x hx => ?_⟩
          obtain ⟨k, hk, rfl⟩ := mem_tab.1 hx
          rw [tab_len]; omega
        rw [hg2]
        refine ⟨hpr, partB_intro (fun h3 => ?_) (fun h3 => ?_)⟩
        · rw [show treeF ps ls = true by rw [treeF, h1, hlb, h3]; rfl]
          repeat' (first | refine fork_intro (fun hb => ?_) (fun hb => ?_) | refine partB_intro (fun hb => ?_) (fun hb => ?_) | refine And.intro ?_ ?_)
          all_goals first | exact True.intro | omega | with_reducible rfl | exact congrArg (AV.int _) (by omega) | (first | rfl)
        · rw [show treeF ps ls = false by rw [treeF, h3, Bool.and_false]]
          repeat' (first | refine fork_intro (fun hb => ?_) (fun hb => ?_) | refine partB_intro (fun hb => ?_) (fun hb => ?_) | refine And.intro ?_ ?_)
          all_goals first | exact True.intro | omega | with_reducible rfl | exact congrArg (AV.int _) (by omega) | (first | rfl)
  · rw [hno (.inr (by rw [lensB, decide_eq_false h4, Bool.and_false]))]
    repeat' (first | refine fork_intro (fun hb => ?_) (fun hb => ?_) | refine partB_intro (fun hb => ?_) (fun hb => ?_) | refine And.intro ?_ ?_)
    all_goals first | exact True.intro | omega | with_reducible rfl | exact congrArg (AV.int _) (by omega) | (first | rfl)
  · have h3' : rowOK 99 ls = false := h3
    rw [hno (.inr (by rw [lensB, h3']; rfl))]
    repeat' (first | refine fork_intro (fun hb => ?_) (fun hb => ?_) | refine partB_intro (fun hb => ?_) (fun hb => ?_) | refine And.intro ?_ ?_)
    all_goals first | exact True.intro | omega | with_reducible rfl | exact congrArg (AV.int _) (by omega) | (first | rfl)
  · rw [hno (.inr (by rw [lensB, decide_eq_false h2, Bool.and_false, Bool.false_and]))]
    repeat' (first | refine fork_intro (fun hb => ?_) (fun hb => ?_) | refine partB_intro (fun hb => ?_) (fun hb => ?_) | refine And.intro ?_ ?_)
    all_goals first | exact True.intro | omega | with_reducible rfl | exact congrArg (AV.int _) (by omega) | (first | rfl)
  · rw [hno (.inl h1)]
    repeat' (first | refine fork_intro (fun hb => ?_) (fun hb => ?_) | refine partB_intro (fun hb => ?_) (fun hb => ?_) | refine And.intro ?_ ?_)
    all_goals first | exact True.intro | omega | with_reducible rfl | exact congrArg (AV.int _) (by omega) | (first | rfl)
def t_treeFieldI : Table := [(31, ownC g_treeFieldI)]
theorem t_treeFieldI_ok : TabOK Try.prog t_treeFieldI := .cons Try.func31 (by kernel_rfl) (.own (by intro args hp; unfold g_treeFieldI at hp ⊢; split at hp <;> first | exact hp.elim | exact ⟨treeFieldI_ok _ _ hp, rfl⟩)) (.nil _)
attribute [go_sem] g_treeFieldI_eq t_treeFieldI
end Go.Proofs.Ytpkmpmlgkhlgoaa
