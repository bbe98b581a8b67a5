/- Draws: fields of all kinds, in part. -/
import Derived.Test.YteefjdbdknkcjaaGreatDB
import Derived.Test.YteefjdbdknkcjaaGreatPlW
namespace Go.Proofs.YteefjdbdknkcjaaGreat
open Go.Vc
set_option maxRecDepth 100000
set_option maxHeartbeats 1600000
set_option linter.unusedSimpArgs false
set_option linter.unusedVariables false

def g_fieldOfD : List AV → Heap → Prop × (Z → Prop × AV × Heap)
  | [.bx 0 0, .int .i64 most], [(0, .box [.bytes code, .int .i64 a, .int .u64 s])] => (code.length ≤ 1000000000 ∧ (0 ≤ a ∧ a ≤ 1000000000000 - 3000) ∧ 1 ≤ most ∧ most ≤ 7, fun z => (Bdd z.xs z.xss ∧ a ≤ z.a ∧ z.a ≤ a + 1000, .agg [.sl 2, .mt 3], [(0, .box [.bytes code, .int .i64 z.a, .int .u64 z.s]), (2, .arr (.ints z.xs)), (3, .mat z.xss)]))
  | _, _ => (False, fun _ => (False, .undef, []))
theorem g_fieldOfD_eq (most : Int) (code : List UInt8) (a s : Int) : g_fieldOfD [.bx 0 0, .int .i64 most] [(0, .box [.bytes code, .int .i64 a, .int .u64 s])] = (code.length ≤ 1000000000 ∧ (0 ≤ a ∧ a ≤ 1000000000000 - 3000) ∧ 1 ≤ most ∧ most ≤ 7, fun z => (Bdd z.xs z.xss ∧ a ≤ z.a ∧ z.a ≤ a + 1000, .agg [.sl 2, .mt 3], [(0, .box [.bytes code, .int .i64 z.a, .int .u64 z.s]), (2, .arr (.ints z.xs)), (3, .mat z.xss)])) := (rfl)
theorem fieldOfD_ok (most : Int) (code : List UInt8) (a s : Int) (hp : code.length ≤ 1000000000 ∧ (0 ≤ a ∧ a ≤ 1000000000000 - 3000) ∧ 1 ≤ most ∧ most ≤ 7) : SpecZ Tryz.prog 131 [.bx 0 0, .int .i64 most] [(0, .box [.bytes code, .int .i64 a, .int .u64 s])] 1 (fun z => (Bdd z.xs z.xss ∧ a ≤ z.a ∧ z.a ≤ a + 1000, .agg [.sl 2, .mt 3], [(0, .box [.bytes code, .int .i64 z.a, .int .u64 z.s]), (2, .arr (.ints z.xs)), (3, .mat z.xss)])) := by
  refine fun_okZ (C := t_pickD ++ t_rawD ++ t_lineD ++ t_spoiltD ++ t_l2Close) (hint := hintX [4, 25] [(3, [.post, .mv 10 2, .mv 11 3]), (5, [.post, .mv 11 2, .mv 12 3]), (6, [.post, .mv 15 2, .mv 16 3])] 1 [75, 1000075, 113, 1000113, 111, 1000111, 168, 1000168] [] [] []) (((((t_pickD_ok).append t_rawD_ok).append t_lineD_ok).append t_spoiltD_ok).append t_l2Close_ok) mixed Tryz.func131 rfl (by kernel_rfl) rfl (Nat.le_refl _) (by decide) (upTo_look (k := 1) rfl) ?_
  show codeA _ _ _ _ _ _ _ _
  simp only [go_sem, ↓reduceIte, Nat.reduceEqDiff, Nat.reduceBEq, Nat.reduceAdd, Nat.reduceSub, Nat.reduceLeDiff, Nat.reduceMul, Nat.reduceLT, Tryz.results131]
  obtain ⟨hc, ha, hm1, hm7⟩ := hp
  refine ⟨⟨hc, by omega, by omega⟩, fun z hz => fork_intro (fun _ => ?_) (fun _ => fork_intro (fun _ => ?_) (fun _ => ?_))⟩
  · exact ⟨⟨hc, by omega, hm1, hm7⟩, fun z1 h1 => ⟨⟨hc, by omega, h1.1⟩, fun z2 h2 => ⟨rfl, rfl, ⟨{ xs := z2.xs, xss := z2.xss, a := z2.a, s := z2.s }, ⟨h2.1, (by dsimp only; omega)⟩, ⟨rfl, rfl⟩, rfl, rfl⟩⟩⟩⟩
  · exact ⟨⟨hc, by omega, hm1, hm7⟩, fun z1 h1 => ⟨⟨hc, by omega, h1.1⟩, fun z2 h2 => ⟨rfl, rfl, ⟨{ xs := z2.xs, xss := z2.xss, a := z2.a, s := z2.s }, ⟨h2.1, (by dsimp only; omega)⟩, ⟨rfl, rfl⟩, rfl, rfl⟩⟩⟩⟩
  · refine ⟨⟨hc, by omega, hm1, hm7⟩, fun z1 h1 => ⟨h1.1, ⟨hc, by omega, ?_⟩, fun z2 h2 => ⟨rfl, rfl, ⟨{ xs := z2.xs, xss := z2.xss, a := z2.a, s := z2.s }, ⟨h2.1, (by dsimp only; omega)⟩, ⟨rfl, rfl⟩, rfl, rfl⟩⟩⟩⟩
    exact (closeD_ok h1.1.sh h1.1.m7 h1.1.n7).1.sh.field h1.1
def t_fieldOfD : Table := [(131, zC 1 1 g_fieldOfD)]
theorem t_fieldOfD_ok : TabOK Tryz.prog t_fieldOfD := .cons Tryz.func131 (by kernel_rfl) (.z (by decide) (by intro args pre _ hp; unfold g_fieldOfD at hp ⊢; split at hp <;> first | exact hp.elim | exact ⟨fun z hz => ⟨rfl, shape_box _ _ rfl rfl rfl⟩, fieldOfD_ok _ _ _ _ hp⟩)) (.nil _)
attribute [go_sem] g_fieldOfD_eq t_fieldOfD
def g_fieldD : List AV → Heap → Prop × (Z → Prop × AV × Heap)
  | [.bx 0 0], [(0, .box [.bytes code, .int .i64 a, .int .u64 s])] => (code.length ≤ 1000000000 ∧ (0 ≤ a ∧ a ≤ 1000000000000 - 3000), fun z => (Bdd z.xs z.xss ∧ a ≤ z.a ∧ z.a ≤ a + 1000, .agg [.sl 3, .mt 4], [(0, .box [.bytes code, .int .i64 z.a, .int .u64 z.s]), (3, .arr (.ints z.xs)), (4, .mat z.xss)]))
  | _, _ => (False, fun _ => (False, .undef, []))
theorem g_fieldD_eq (code : List UInt8) (a s : Int) : g_fieldD [.bx 0 0] [(0, .box [.bytes code, .int .i64 a, .int .u64 s])] = (code.length ≤ 1000000000 ∧ (0 ≤ a ∧ a ≤ 1000000000000 - 3000), fun z => (Bdd z.xs z.xss ∧ a ≤ z.a ∧ z.a ≤ a + 1000, .agg [.sl 3, .mt 4], [(0, .box [.bytes code, .int .i64 z.a, .int .u64 z.s]), (3, .arr (.ints z.xs)), (4, .mat z.xss)])) := (rfl)
theorem fieldD_ok (code : List UInt8) (a s : Int) (hp : code.length ≤ 1000000000 ∧ (0 ≤ a ∧ a ≤ 1000000000000 - 3000)) : SpecZ Tryz.prog 72 [.bx 0 0] [(0, .box [.bytes code, .int .i64 a, .int .u64 s])] 1 (fun z => (Bdd z.xs z.xss ∧ a ≤ z.a ∧ z.a ≤ a + 1000, .agg [.sl 3, .mt 4], [(0, .box [.bytes code, .int .i64 z.a, .int .u64 z.s]), (3, .arr (.ints z.xs)), (4, .mat z.xss)])) := by
  refine fun_okZ (C := t_fieldOfD) (hint := hintX [2] [] 1 [131, 1000131] [] [] []) (t_fieldOfD_ok) mixed Tryz.func72 rfl (by kernel_rfl) rfl (Nat.le_refl _) (by decide) (upTo_look (k := 1) rfl) ?_
  show codeA _ _ _ _ _ _ _ _
  simp only [go_sem, ↓reduceIte, Nat.reduceEqDiff, Nat.reduceBEq, Nat.reduceAdd, Nat.reduceSub, Nat.reduceLeDiff, Nat.reduceMul, Nat.reduceLT, Tryz.results72]
  obtain ⟨hc, ha⟩ := hp
  exact ⟨⟨hc, by omega, by omega, by omega⟩, fun z hz => ⟨{ xs := z.xs, xss := z.xss, a := z.a, s := z.s }, hz, ⟨rfl, rfl⟩, rfl, rfl⟩⟩
def t_fieldD : Table := [(72, zC 1 1 g_fieldD)]
theorem t_fieldD_ok : TabOK Tryz.prog t_fieldD := .cons Tryz.func72 (by kernel_rfl) (.z (by decide) (by intro args pre _ hp; unfold g_fieldD at hp ⊢; split at hp <;> first | exact hp.elim | exact ⟨fun z hz => ⟨rfl, shape_box _ _ rfl rfl rfl⟩, fieldD_ok _ _ _ hp⟩)) (.nil _)
attribute [go_sem] g_fieldD_eq t_fieldD
def g_bitsO : List AV → Prop × AV × Heap
  | [.int .i64 n, .int .i64 b] => ((0 ≤ n ∧ n ≤ 7) ∧ 0 ≤ b ∧ b < 256, .sl 0, [(0, .arr (.ints (sel b.toNat.testBit n.toNat)))])
  | _ => (False, .undef, [])
theorem g_bitsO_eq (n b : Int) : g_bitsO [.int .i64 n, .int .i64 b] = ((0 ≤ n ∧ n ≤ 7) ∧ 0 ≤ b ∧ b < 256, .sl 0, [(0, .arr (.ints (sel b.toNat.testBit n.toNat)))]) := (rfl)
theorem bitsO_ok (n b : Int) (hp : (0 ≤ n ∧ n ≤ 7) ∧ 0 ≤ b ∧ b < 256) : SpecOK Tryz.prog 141 [.int .i64 n, .int .i64 b] (.sl 0) [(0, .arr (.ints (sel b.toNat.testBit n.toNat)))] := by
  refine fun_ok (C := []) (hint := hintX [7] [] 0 [] [] [] []) (TabOK.nil _) mixed Tryz.func141 rfl (by kernel_rfl) rfl ?_
  show codeA _ _ _ _ _ _ _ _
  simp only [go_sem, ↓reduceIte, Nat.reduceEqDiff, Nat.reduceBEq, Nat.reduceAdd, Nat.reduceSub, Nat.reduceLeDiff, Nat.reduceMul, Nat.reduceLT, Tryz.results141]
  obtain ⟨⟨h0, h1⟩, h2, h3⟩ := hp
  obtain ⟨b, rfl⟩ : ∃ k : Nat, b = k := ⟨b.toNat, by omega⟩
  obtain ⟨n, rfl⟩ : ∃ k : Nat, n = k := ⟨n.toNat, by omega⟩
  simp only [Int.toNat_natCast]
  refine loop_intro (fun x : Nat => [(5, .sl 0), (6, .int .i64 x), (0, .int .i64 n), (1, .int .i64 b)]) (fun x => [(0, .arr (.ints (sel b.testBit x)))]) 1 (fun x => x ≤ n) (fun x => n - x) 0 (by omega) (by omega) ?_ ?_
  · simp only [go_sem, ↓reduceIte, Nat.reduceEqDiff, Nat.reduceBEq, Nat.reduceAdd, Nat.reduceSub, Nat.reduceLeDiff, Nat.reduceMul, Nat.reduceLT]
    repeat' (first | refine fork_intro (fun hb => ?_) (fun hb => ?_) | refine partB_intro (fun hb => ?_) (fun hb => ?_) | refine And.intro ?_ ?_)
    all_goals first | exact True.intro | omega | with_reducible rfl | exact congrArg (AV.int _) (by omega) | (first | rfl)
  · intro x hx
    have hs := shr_le b x
    have hsl := sel_len b.testBit x
    have hb1 := bit_one b x
    simp only [go_sem, ↓reduceIte, Nat.reduceEqDiff, Nat.reduceBEq, Nat.reduceAdd, Nat.reduceSub, Nat.reduceLeDiff, Nat.reduceMul, Nat.reduceLT]
    refine fork_intro (fun hc => ?_) (fun hc => ?_)
    · simp only [shr_nat, bitN_and, show Int.toNat 1 = 1 from rfl]
      refine ⟨by omega, ⟨by omega, by omega⟩, fork_intro (fun hd => ?_) (fun hd => ?_)⟩
      · rw [decide_eq_true hd] at hb1
        have e := sel_t (p := b.testBit) (n := x) hb1.symm
        repeat' (first | refine fork_intro (fun hb => ?_) (fun hb => ?_) | refine partB_intro (fun hb => ?_) (fun hb => ?_) | refine And.intro ?_ ?_)
        all_goals first | exact True.intro | omega | with_reducible rfl | exact congrArg (AV.int _) (by omega) | (refine LoopEnd.intro (x + 1) (by first | omega) (by first | omega | (dsimp only; omega)) (by omega) ?_; simp only [go_sem, ↓reduceIte, Nat.reduceEqDiff, Nat.reduceBEq, Nat.reduceAdd, Nat.reduceSub, Nat.reduceLeDiff, Nat.reduceMul, Nat.reduceLT]; (repeat' (first | refine fork_intro (fun hb => ?_) (fun hb => ?_) | refine partB_intro (fun hb => ?_) (fun hb => ?_) | refine And.intro ?_ ?_)); all_goals first | exact True.intro | omega | with_reducible rfl | exact congrArg (AV.int _) (by omega) | (first | rw [e])) | (first | rw [e])
      · rw [decide_eq_false hd] at hb1
        have e := sel_f (p := b.testBit) (n := x) hb1.symm
        repeat' (first | refine fork_intro (fun hb => ?_) (fun hb => ?_) | refine partB_intro (fun hb => ?_) (fun hb => ?_) | refine And.intro ?_ ?_)
        all_goals first | exact True.intro | omega | with_reducible rfl | exact congrArg (AV.int _) (by omega) | (refine LoopEnd.intro (x + 1) (by first | omega) (by first | omega | (dsimp only; omega)) (by omega) ?_; simp only [go_sem, ↓reduceIte, Nat.reduceEqDiff, Nat.reduceBEq, Nat.reduceAdd, Nat.reduceSub, Nat.reduceLeDiff, Nat.reduceMul, Nat.reduceLT]; (repeat' (first | refine fork_intro (fun hb => ?_) (fun hb => ?_) | refine partB_intro (fun hb => ?_) (fun hb => ?_) | refine And.intro ?_ ?_)); all_goals first | exact True.intro | omega | with_reducible rfl | exact congrArg (AV.int _) (by omega) | (first | rw [e])) | (first | rw [e])
    · rw [show x = n by omega]
      repeat' (first | refine fork_intro (fun hb => ?_) (fun hb => ?_) | refine partB_intro (fun hb => ?_) (fun hb => ?_) | refine And.intro ?_ ?_)
      all_goals first | exact True.intro | omega | with_reducible rfl | exact congrArg (AV.int _) (by omega) | (first | rfl)
def t_bitsO : Table := [(141, ownC g_bitsO)]
theorem t_bitsO_ok : TabOK Tryz.prog t_bitsO := .cons Tryz.func141 (by kernel_rfl) (.own (by intro args hp; unfold g_bitsO at hp ⊢; split at hp <;> first | exact hp.elim | exact ⟨bitsO_ok _ _ hp, rfl⟩)) (.nil _)
attribute [go_sem] g_bitsO_eq t_bitsO
def g_ascO : List AV → Prop × AV × Heap
  | [.agg [.ints o, .rows d]] => (FieldOK o d, .sl 0, [(0, .arr (.ints (ascentL o d (firstP d))))])
  | _ => (False, .undef, [])
theorem g_ascO_eq (o : List Int) (d : List (List Int)) : g_ascO [.agg [.ints o, .rows d]] = (FieldOK o d, .sl 0, [(0, .arr (.ints (ascentL o d (firstP d))))]) := (rfl)
theorem ascO_ok (o : List Int) (d : List (List Int)) (hp : FieldOK o d) : SpecOK Tryz.prog 144 [.agg [.ints o, .rows d]] (.sl 0) [(0, .arr (.ints (ascentL o d (firstP d))))] := by
  refine fun_ok (C := t_nextS ++ t_least2) (hint := hintX [10] [] 0 [] [] [] []) ((t_nextS_ok).append t_least2_ok) mixed Tryz.func144 rfl (by kernel_rfl) rfl ?_
  show codeA _ _ _ _ _ _ _ _
  simp only [go_sem, ↓reduceIte, Nat.reduceEqDiff, Nat.reduceBEq, Nat.reduceAdd, Nat.reduceSub, Nat.reduceLeDiff, Nat.reduceMul, Nat.reduceLT, Tryz.results144]
  have hn := hp.n7
  have hn1 := hp.n1
  have hm := hp.m7
  have h1 := firstP_ok hp
  refine loop_intro (fun j : Nat => [(3, .sl 0), (4, .int .i64 j), (1, .iptr [.ints o, .rows d])]) (fun j => [(0, .arr (.ints (tab j fun j => minL (ix d (j : Int)))))]) 1 (fun j => j ≤ d.length) (fun j => d.length - j) 0 (by omega) (by omega) ?_ ?_
  · simp only [go_sem, ↓reduceIte, Nat.reduceEqDiff, Nat.reduceBEq, Nat.reduceAdd, Nat.reduceSub, Nat.reduceLeDiff, Nat.reduceMul, Nat.reduceLT]
    repeat' (first | refine fork_intro (fun hb => ?_) (fun hb => ?_) | refine partB_intro (fun hb => ?_) (fun hb => ?_) | refine And.intro ?_ ?_)
    all_goals first | exact True.intro | omega | with_reducible rfl | exact congrArg (AV.int _) (by omega) | (first | rfl)
  · intro j hj
    have hlen : (tab j fun j => minL (ix d (j : Int))).length = j := tab_len _ _
    simp only [go_sem, ↓reduceIte, Nat.reduceEqDiff, Nat.reduceBEq, Nat.reduceAdd, Nat.reduceSub, Nat.reduceLeDiff, Nat.reduceMul, Nat.reduceLT]
    refine fork_intro (fun hc => ?_) (fun hc => ?_)
    · have hrow := hp.d_len (k := (j : Int)) (by omega) (by omega)
      refine ⟨by omega, by omega, ?_⟩
      refine loop_intro (fun a : Nat => [(5, .int .i64 (minF ((ix d (j : Int)).take a) (ix (ix d (j : Int)) 0))), (6, .int .i64 a), (3, .sl 0), (4, .int .i64 j), (1, .iptr [.ints o, .rows d])]) (fun a => [(0, .arr (.ints (tab j fun j => minL (ix d (j : Int)))))]) 1 (fun a => a ≤ o.length) (fun a => o.length - a) 0 (by omega) (by omega) ?_ ?_
      · simp only [go_sem, ↓reduceIte, Nat.reduceEqDiff, Nat.reduceBEq, Nat.reduceAdd, Nat.reduceSub, Nat.reduceLeDiff, Nat.reduceMul, Nat.reduceLT]
        repeat' (first | refine fork_intro (fun hb => ?_) (fun hb => ?_) | refine partB_intro (fun hb => ?_) (fun hb => ?_) | refine And.intro ?_ ?_)
        all_goals first | exact True.intro | omega | with_reducible rfl | exact congrArg (AV.int _) (by omega) | (first | rfl)
      · intro a ha
        simp only [go_sem, ↓reduceIte, Nat.reduceEqDiff, Nat.reduceBEq, Nat.reduceAdd, Nat.reduceSub, Nat.reduceLeDiff, Nat.reduceMul, Nat.reduceLT]
        refine fork_intro (fun hd => ?_) (fun hd => ?_)
        · have e := minF_take (ix d (j : Int)) (ix (ix d (j : Int)) 0) (k := a) (by omega)
          repeat' (first | refine fork_intro (fun hb => ?_) (fun hb => ?_) | refine partB_intro (fun hb => ?_) (fun hb => ?_) | refine And.intro ?_ ?_)
          all_goals first | exact True.intro | omega | with_reducible rfl | exact congrArg (AV.int _) (by omega) | (refine LoopEnd.intro (a + 1) (by first | omega) (by first | omega | (dsimp only; omega)) (by omega) ?_; simp only [go_sem, ↓reduceIte, Nat.reduceEqDiff, Nat.reduceBEq, Nat.reduceAdd, Nat.reduceSub, Nat.reduceLeDiff, Nat.reduceMul, Nat.reduceLT]; (repeat' (first | refine fork_intro (fun hb => ?_) (fun hb => ?_) | refine partB_intro (fun hb => ?_) (fun hb => ?_) | refine And.intro ?_ ?_)); all_goals first | exact True.intro | omega | with_reducible rfl | exact congrArg (AV.int _) (by omega))
        · have e := tab_succ j (fun j => minL (ix d (j : Int)))
          have e2 : minF ((ix d (j : Int)).take a) (ix (ix d (j : Int)) 0) = minL (ix d (j : Int)) := by rw [List.take_of_length_le (by omega), minL_full (by omega)]
          rw [e2]
          repeat' (first | refine fork_intro (fun hb => ?_) (fun hb => ?_) | refine partB_intro (fun hb => ?_) (fun hb => ?_) | refine And.intro ?_ ?_)
          all_goals first | exact True.intro | omega | with_reducible rfl | exact congrArg (AV.int _) (by omega) | (refine LoopEnd.intro (j + 1) (by first | omega) (by first | omega | (dsimp only; omega)) (by omega) ?_; simp only [go_sem, ↓reduceIte, Nat.reduceEqDiff, Nat.reduceBEq, Nat.reduceAdd, Nat.reduceSub, Nat.reduceLeDiff, Nat.reduceMul, Nat.reduceLT]; (repeat' (first | refine fork_intro (fun hb => ?_) (fun hb => ?_) | refine partB_intro (fun hb => ?_) (fun hb => ?_) | refine And.intro ?_ ?_)); all_goals first | exact True.intro | omega | with_reducible rfl | exact congrArg (AV.int _) (by omega) | (first | rw [e])) | (first | rw [e])
    · refine loop_intro (fun g : Nat × Bool => [(7, .bool g.2), (3, .sl 0), (1, .iptr [.ints o, .rows d])]) (fun g => [(0, .arr (.ints (passes o d (firstP d) g.1)))]) 1 (fun g => (g.2 = false → passA o d (passes o d (firstP d) g.1) d.length = passes o d (firstP d) g.1) ∧ (g.1 : Int) ≤ psum (passes o d (firstP d) g.1) + (if g.2 = true then 0 else 1)) (fun g => 2 * (2000 - psum (passes o d (firstP d) g.1)).toNat + (if g.2 = true then 1 else 0)) (0, true) ⟨fun h => (by cases h), by have h9 := h1.psum; show (0 : Int) ≤ psum (firstP d) + (if true = true then 0 else 1); rw [if_pos rfl]; omega⟩ (by omega) ?_ ?_
      · have e : (tab j fun j => minL (ix d (j : Int))) = passes o d (firstP d) 0 := by rw [show j = d.length by omega]; rfl
        simp only [go_sem, ↓reduceIte, Nat.reduceEqDiff, Nat.reduceBEq, Nat.reduceAdd, Nat.reduceSub, Nat.reduceLeDiff, Nat.reduceMul, Nat.reduceLT]
        repeat' (first | refine fork_intro (fun hb => ?_) (fun hb => ?_) | refine partB_intro (fun hb => ?_) (fun hb => ?_) | refine And.intro ?_ ?_)
        all_goals first | exact True.intro | omega | with_reducible rfl | exact congrArg (AV.int _) (by omega) | (first | rw [e] | rfl)
      · rintro ⟨k, r⟩ ⟨hf, hkb⟩
        simp only at hf hkb
        have hk := h1.passes k
        have hps := hk.psum
        simp only [go_sem, ↓reduceIte, Nat.reduceEqDiff, Nat.reduceBEq, Nat.reduceAdd, Nat.reduceSub, Nat.reduceLeDiff, Nat.reduceMul, Nat.reduceLT]
        refine partB_intro (fun hr => ?_) (fun hr => ?_)
        · subst hr
          refine loop_intro (fun g : Nat × Bool => [(8, .int .i64 g.1), (7, .bool g.2), (3, .sl 0), (1, .iptr [.ints o, .rows d])]) (fun g => [(0, .arr (.ints (passA o d (passes o d (firstP d) k) g.1)))]) 1 (fun g => g.1 ≤ d.length ∧ (g.2 = false → passA o d (passes o d (firstP d) k) g.1 = passes o d (firstP d) k) ∧ psum (passes o d (firstP d) k) ≤ psum (passA o d (passes o d (firstP d) k) g.1) ∧ (g.2 = true → psum (passes o d (firstP d) k) < psum (passA o d (passes o d (firstP d) k) g.1))) (fun g => d.length - g.1) (0, false) ⟨Nat.zero_le _, fun _ => rfl, Int.le_refl _, fun h => by cases h⟩ (by omega) ?_ ?_
          · simp only [go_sem, ↓reduceIte, Nat.reduceEqDiff, Nat.reduceBEq, Nat.reduceAdd, Nat.reduceSub, Nat.reduceLeDiff, Nat.reduceMul, Nat.reduceLT]
            repeat' (first | refine fork_intro (fun hb => ?_) (fun hb => ?_) | refine partB_intro (fun hb => ?_) (fun hb => ?_) | refine And.intro ?_ ?_)
            all_goals first | exact True.intro | omega | with_reducible rfl | exact congrArg (AV.int _) (by omega) | (first | rfl)
          · rintro ⟨q, b⟩ ⟨hq, hq1, hq2, hq3⟩
            simp only at hq hq1 hq2 hq3
            have ha := hk.pass hq
            have hal := ha.len
            simp only [go_sem, ↓reduceIte, Nat.reduceEqDiff, Nat.reduceBEq, Nat.reduceAdd, Nat.reduceSub, Nat.reduceLeDiff, Nat.reduceMul, Nat.reduceLT]
            refine fork_intro (fun hd => ?_) (fun hd => ?_)
            · have hst := ha.step_nn q
              have hpr := psum_raise (o := o) (d := d) (p := passA o d (passes o d (firstP d) k) q) (j := q) (by omega)
              have hbd := ha.bd (j := q) (by omega)
              have hra := ha.raise (j := q) (by omega)
              have hbd2 := hra.bd (j := q) (by omega)
              rw [ix_raise (by omega), if_pos rfl] at hbd2
              have hpa : passA o d (passes o d (firstP d) k) (q + 1) = raise o d (passA o d (passes o d (firstP d) k) q) q := rfl
              have hset : (passA o d (passes o d (firstP d) k) q).set q (ix (passA o d (passes o d (firstP d) k) q) (q : Int) + stepA o d (passA o d (passes o d (firstP d) k) q) q) = passA o d (passes o d (firstP d) k) (q + 1) := rfl
              have hpre : AscOK o d (passA o d (passes o d (firstP d) k) q) ∧ (0 : Int) ≤ q ∧ (q : Int) < d.length := ⟨ha, by omega, by omega⟩
              refine ⟨hpre, fork_intro (fun he => ?_) (fun he => ?_)⟩
              · have hinv : q + 1 ≤ d.length ∧ (true = false → passA o d (passes o d (firstP d) k) (q + 1) = passes o d (firstP d) k) ∧ psum (passes o d (firstP d) k) ≤ psum (passA o d (passes o d (firstP d) k) (q + 1)) ∧ (true = true → psum (passes o d (firstP d) k) < psum (passA o d (passes o d (firstP d) k) (q + 1))) := by
                  rw [hpa]; exact ⟨by omega, fun h => (by cases h), by omega, fun _ => by omega⟩
                repeat' (first | refine fork_intro (fun hb => ?_) (fun hb => ?_) | refine partB_intro (fun hb => ?_) (fun hb => ?_) | refine And.intro ?_ ?_)
                all_goals first | exact True.intro | omega | with_reducible rfl | exact congrArg (AV.int _) (by omega) | (refine LoopEnd.intro ((q + 1, true)) (by first | omega | (first | exact hinv)) (by first | omega | (dsimp only; omega)) (by omega) ?_; simp only [go_sem, ↓reduceIte, Nat.reduceEqDiff, Nat.reduceBEq, Nat.reduceAdd, Nat.reduceSub, Nat.reduceLeDiff, Nat.reduceMul, Nat.reduceLT, hset]; (repeat' (first | refine fork_intro (fun hb => ?_) (fun hb => ?_) | refine partB_intro (fun hb => ?_) (fun hb => ?_) | refine And.intro ?_ ?_)); all_goals first | exact True.intro | omega | with_reducible rfl | exact congrArg (AV.int _) (by omega) | (first | rfl)) | (first | rfl)
              · have hz := raise_zero (o := o) (d := d) (p := passA o d (passes o d (firstP d) k) q) (j := q) (by omega) (by omega)
                have hpz : passA o d (passes o d (firstP d) k) (q + 1) = passA o d (passes o d (firstP d) k) q := by rw [hpa, hz]
                have hinv : q + 1 ≤ d.length ∧ (b = false → passA o d (passes o d (firstP d) k) (q + 1) = passes o d (firstP d) k) ∧ psum (passes o d (firstP d) k) ≤ psum (passA o d (passes o d (firstP d) k) (q + 1)) ∧ (b = true → psum (passes o d (firstP d) k) < psum (passA o d (passes o d (firstP d) k) (q + 1))) := by
                  rw [hpz]; exact ⟨by omega, hq1, hq2, hq3⟩
                repeat' (first | refine fork_intro (fun hb => ?_) (fun hb => ?_) | refine partB_intro (fun hb => ?_) (fun hb => ?_) | refine And.intro ?_ ?_)
                all_goals first | exact True.intro | omega | with_reducible rfl | exact congrArg (AV.int _) (by omega) | (refine LoopEnd.intro ((q + 1, b)) (by first | omega | (first | exact hinv)) (by first | omega | (dsimp only; omega)) (by omega) ?_; simp only [go_sem, ↓reduceIte, Nat.reduceEqDiff, Nat.reduceBEq, Nat.reduceAdd, Nat.reduceSub, Nat.reduceLeDiff, Nat.reduceMul, Nat.reduceLT]; (repeat' (first | refine fork_intro (fun hb => ?_) (fun hb => ?_) | refine partB_intro (fun hb => ?_) (fun hb => ?_) | refine And.intro ?_ ?_)); all_goals first | exact True.intro | omega | with_reducible rfl | exact congrArg (AV.int _) (by omega) | (first | rw [hpz] | rfl)) | (first | rw [hpz] | rfl)
            · have eq : q = d.length := by omega
              subst eq
              have hps2 := ha.psum
              have hpp : passes o d (firstP d) (k + 1) = passA o d (passes o d (firstP d) k) d.length := rfl
              refine LoopEnd.intro (k + 1, b) ⟨fun h => ?_, ?_⟩ ?_ (by omega) ?_
              · simp only at h
                show passA o d (passes o d (firstP d) (k + 1)) d.length = passes o d (firstP d) (k + 1)
                rw [hpp, hq1 h]; exact hq1 h
              · show ((k + 1 : Nat) : Int) ≤ psum (passes o d (firstP d) (k + 1)) + (if b = true then 0 else 1)
                rw [if_pos rfl] at hkb
                rw [hpp]
                cases b with
                | true => have := hq3 rfl; rw [if_pos rfl]; omega
                | false => rw [if_neg (by simp)]; omega
              · show 2 * (2000 - psum (passes o d (firstP d) (k + 1))).toNat + (if b = true then 1 else 0) < 2 * (2000 - psum (passes o d (firstP d) k)).toNat + (if true = true then 1 else 0)
                rw [hpp, if_pos rfl]
                cases b with
                | true => have := hq3 rfl; rw [if_pos rfl]; omega
                | false => rw [if_neg (by simp)]; omega
              · simp only [go_sem, ↓reduceIte, Nat.reduceEqDiff, Nat.reduceBEq, Nat.reduceAdd, Nat.reduceSub, Nat.reduceLeDiff, Nat.reduceMul, Nat.reduceLT]
                repeat' (first | refine fork_intro (fun hb => ?_) (fun hb => ?_) | refine partB_intro (fun hb => ?_) (fun hb => ?_) | refine And.intro ?_ ?_)
                all_goals first | exact True.intro | omega | with_reducible rfl | exact congrArg (AV.int _) (by omega) | (first | rfl)
        · subst hr
          rw [if_neg (by simp)] at hkb
          rw [ascentL_eq (by omega) (hf rfl)]
def t_ascO : Table := [(144, ownC g_ascO)]
theorem t_ascO_ok : TabOK Tryz.prog t_ascO := .cons Tryz.func144 (by kernel_rfl) (.own (by intro args hp; unfold g_ascO at hp ⊢; split at hp <;> first | exact hp.elim | exact ⟨ascO_ok _ _ hp, rfl⟩)) (.nil _)
attribute [go_sem] g_ascO_eq t_ascO
theorem zfinX {xs : List Int} {a0 a s : Int} (h : xs.length ≤ 1000 ∧ a0 ≤ a ∧ a ≤ a0 + 100) : ∃ z : Z, (z.xs.length ≤ 1000 ∧ a0 ≤ z.a ∧ z.a ≤ a0 + 100) ∧ AV.ints xs = AV.ints z.xs ∧ AV.int .i64 a = AV.int .i64 z.a ∧ AV.int .u64 s = AV.int .u64 z.s := ⟨{ xs := xs, a := a, s := s }, h, rfl, rfl, rfl⟩
def g_sitesD : List AV → Heap → Prop × (Z → Prop × AV × Heap)
  | [.bx 0 0, .agg [.ints o, .rows d]], [(0, .box [.bytes code, .int .i64 a, .int .u64 s])] => (code.length ≤ 1000000000 ∧ (0 ≤ a ∧ a ≤ 1000000000000 - 3000) ∧ o.length ≤ 1000, fun z => (z.xs.length ≤ 1000 ∧ a ≤ z.a ∧ z.a ≤ a + 100, .ints z.xs, [(0, .box [.bytes code, .int .i64 z.a, .int .u64 z.s])]))
  | _, _ => (False, fun _ => (False, .undef, []))
theorem g_sitesD_eq (o : List Int) (d : List (List Int)) (code : List UInt8) (a s : Int) : g_sitesD [.bx 0 0, .agg [.ints o, .rows d]] [(0, .box [.bytes code, .int .i64 a, .int .u64 s])] = (code.length ≤ 1000000000 ∧ (0 ≤ a ∧ a ≤ 1000000000000 - 3000) ∧ o.length ≤ 1000, fun z => (z.xs.length ≤ 1000 ∧ a ≤ z.a ∧ z.a ≤ a + 100, .ints z.xs, [(0, .box [.bytes code, .int .i64 z.a, .int .u64 z.s])])) := (rfl)
theorem sitesD_ok (o : List Int) (d : List (List Int)) (code : List UInt8) (a s : Int) (hp : code.length ≤ 1000000000 ∧ (0 ≤ a ∧ a ≤ 1000000000000 - 3000) ∧ o.length ≤ 1000) : SpecZ Tryz.prog 86 [.bx 0 0, .agg [.ints o, .rows d]] [(0, .box [.bytes code, .int .i64 a, .int .u64 s])] 1 (fun z => (z.xs.length ≤ 1000 ∧ a ≤ z.a ∧ z.a ≤ a + 100, .ints z.xs, [(0, .box [.bytes code, .int .i64 z.a, .int .u64 z.s])])) := by
  refine fun_okZ (C := t_pickD ++ t_oneD ++ t_amongD ++ t_bitsO ++ t_least2) (hint := hintX [17] [] 1 [75, 1000075, 73, 1000073, 142, 1000142] [] [] []) (((((t_pickD_ok).append t_oneD_ok).append t_amongD_ok).append t_bitsO_ok).append t_least2_ok) mixed Tryz.func86 rfl (by kernel_rfl) rfl (Nat.le_refl _) (by decide) (upTo_look (k := 1) rfl) ?_
  show codeA _ _ _ _ _ _ _ _
  simp only [go_sem, ↓reduceIte, Nat.reduceEqDiff, Nat.reduceBEq, Nat.reduceAdd, Nat.reduceSub, Nat.reduceLeDiff, Nat.reduceMul, Nat.reduceLT, Tryz.results86]
  obtain ⟨hc, ha, ho⟩ := hp
  obtain ⟨n, hn, en⟩ : ∃ n : Nat, n ≤ 7 ∧ min (o.length : Int) 7 = n := ⟨(min (o.length : Int) 7).toNat, by omega, by omega⟩
  rw [en, Int.toNat_natCast]
  have hP : ∀ m : Nat, m ≤ 7 → (1 : Int) ≤ 1 * 2 ^ m ∧ (1 : Int) * 2 ^ m ≤ 128 := fun m hm => (show ∀ m : Nat, m < 8 → (1 : Int) ≤ 1 * 2 ^ m ∧ (1 : Int) * 2 ^ m ≤ 128 by decide) m (by omega)
  have hp2 := hP n hn
  generalize (1 : Int) * 2 ^ n = P at *
  have hs0 : ∀ p, (sel p n).length ≤ 1000 := fun p => by have := sel_len p n; omega
  have hs1 : ∀ p x, (sel p n ++ [x]).length ≤ 1000 := fun p x => by have := sel_len p n; rw [len_snoc]; omega
  have hs9 : ∀ p, ((sel p n).length + 1) * 9 ≤ 140737488355328 := fun p => by have := sel_len p n; omega
  repeat' (first | exact hc | (refine zfinX ⟨by first | exact hs0 _ | exact hs1 _ _ | simp, ?_⟩; omega) | exact hs9 _ | omega | refine fork_intro (fun _ => ?_) (fun _ => ?_) | (with_reducible refine And.intro ?_ ?_) | intro z hz)
def t_sitesD : Table := [(86, zC 1 1 g_sitesD)]
theorem t_sitesD_ok : TabOK Tryz.prog t_sitesD := .cons Tryz.func86 (by kernel_rfl) (.z (by decide) (by intro args pre _ hp; unfold g_sitesD at hp ⊢; split at hp <;> first | exact hp.elim | exact ⟨fun z hz => ⟨rfl, shape_box _ _ rfl rfl rfl⟩, sitesD_ok _ _ _ _ _ hp⟩)) (.nil _)
attribute [go_sem] g_sitesD_eq t_sitesD
def g_pricesD : List AV → Heap → Prop × (Z → Prop × AV × Heap)
  | [.bx 0 0, .agg [.ints o, .rows d]], [(0, .box [.bytes code, .int .i64 a, .int .u64 s])] => (code.length ≤ 1000000000 ∧ (0 ≤ a ∧ a ≤ 1000000000000 - 3000) ∧ Bdd o d, fun z => (z.xs.length ≤ 1000 ∧ a ≤ z.a ∧ z.a ≤ a + 100, .ints z.xs, [(0, .box [.bytes code, .int .i64 z.a, .int .u64 z.s])]))
  | _, _ => (False, fun _ => (False, .undef, []))
theorem g_pricesD_eq (o : List Int) (d : List (List Int)) (code : List UInt8) (a s : Int) : g_pricesD [.bx 0 0, .agg [.ints o, .rows d]] [(0, .box [.bytes code, .int .i64 a, .int .u64 s])] = (code.length ≤ 1000000000 ∧ (0 ≤ a ∧ a ≤ 1000000000000 - 3000) ∧ Bdd o d, fun z => (z.xs.length ≤ 1000 ∧ a ≤ z.a ∧ z.a ≤ a + 100, .ints z.xs, [(0, .box [.bytes code, .int .i64 z.a, .int .u64 z.s])])) := (rfl)
theorem pricesD_ok (o : List Int) (d : List (List Int)) (code : List UInt8) (a s : Int) (hp : code.length ≤ 1000000000 ∧ (0 ≤ a ∧ a ≤ 1000000000000 - 3000) ∧ Bdd o d) : SpecZ Tryz.prog 94 [.bx 0 0, .agg [.ints o, .rows d]] [(0, .box [.bytes code, .int .i64 a, .int .u64 s])] 1 (fun z => (z.xs.length ≤ 1000 ∧ a ≤ z.a ∧ z.a ≤ a + 100, .ints z.xs, [(0, .box [.bytes code, .int .i64 z.a, .int .u64 z.s])])) := by
  refine fun_okZ (C := t_pickD ++ t_oneD ++ t_amongD ++ t_ascO ++ t_l2Good) (hint := hintX [12] [] 1 [75, 1000075, 73, 1000073, 142, 1000142] [] [] []) (((((t_pickD_ok).append t_oneD_ok).append t_amongD_ok).append t_ascO_ok).append t_l2Good_ok) mixed Tryz.func94 rfl (by kernel_rfl) rfl (Nat.le_refl _) (by decide) (upTo_look (k := 1) rfl) ?_
  show codeA _ _ _ _ _ _ _ _
  simp only [go_sem, ↓reduceIte, Nat.reduceEqDiff, Nat.reduceBEq, Nat.reduceAdd, Nat.reduceSub, Nat.reduceLeDiff, Nat.reduceMul, Nat.reduceLT, Tryz.results94]
  obtain ⟨hc, ha, hb⟩ := hp
  refine ⟨⟨by have := hb.1; omega, by have := hb.2.1; omega, fun x hx => by have := hb.2.2 x hx; omega⟩, partB_intro (fun hg => ?_) (fun hg => zfinX ⟨by simp, by omega⟩)⟩
  have hf := good_iff.1 hg
  have hA := (firstP_ok hf)
  have hL := ascentL_len hf
  have hbd : ∀ x ∈ ascentL o d (firstP d), 0 ≤ x ∧ x ≤ 1000 := fun x hx => by
    obtain ⟨k, hk, rfl⟩ := mem_ix hx
    have h1 := (asc_end hf).1
    have := h1.bd (j := k) (by have := h1.len; omega)
    omega
  refine ⟨hf, ?_⟩
  generalize ascentL o d (firstP d) = L at *
  refine loop_intro (fun g : Nat × List Int × Int × Int => [(6, .int .i64 g.1), (5, .sl 1), (4, .nils), (0, .bx 0 0)]) (fun g => [(1, .arr (.ints g.2.1)), (0, .box [.bytes code, .int .i64 g.2.2.1, .int .u64 g.2.2.2])]) 2 (fun g => (g.1 ≤ L.length ∧ g.2.1.length = L.length ∧ a ≤ g.2.2.1 ∧ g.2.2.1 ≤ a + 4 * g.1) ∧ ∀ x ∈ g.2.1, 0 ≤ x ∧ x ≤ 1000 + 2 * (g.1 : Int)) (fun g => 8 - g.1) (0, L, a, s) ⟨⟨by simp, rfl, by dsimp only; omega, by dsimp only; omega⟩, fun x hx => by have := hbd x hx; dsimp only; omega⟩ (by omega) ?_ ?_
  · simp only [go_sem, ↓reduceIte, Nat.reduceEqDiff, Nat.reduceBEq, Nat.reduceAdd, Nat.reduceSub, Nat.reduceLeDiff, Nat.reduceMul, Nat.reduceLT]
    rfl
  · rintro ⟨j, M, a1, s1⟩ ⟨hx, hM⟩
    simp only at hx hM
    simp only [go_sem, ↓reduceIte, Nat.reduceEqDiff, Nat.reduceBEq, Nat.reduceAdd, Nat.reduceSub, Nat.reduceLeDiff, Nat.reduceMul, Nat.reduceLT]
    refine fork_intro (fun q1 => ⟨⟨hc, by omega, by omega⟩, fun z hz => fork_intro (fun q2 => ?_) (fun q2 => ?_)⟩) (fun q1 => ⟨⟨hc, by omega, by omega⟩, fun z hz => ?_⟩)
    · have hMj := hM _ (ix_mem M (show j < M.length by omega))
      refine ⟨by omega, by omega, ⟨hc, by omega, by omega⟩, fun z1 hz1 => ⟨by omega, by omega, LoopEnd.intro (j + 1, M.set j z1.n, z1.a, z1.s) ?_ ?_ (by omega) ?_⟩⟩
      · refine ⟨⟨by dsimp only; omega, by dsimp only; rw [List.length_set]; omega, by dsimp only; omega, by dsimp only; omega⟩, fun x hx => ?_⟩
        dsimp only at hx ⊢
        rcases List.mem_or_eq_of_mem_set hx with hx | hx
        · have := hM x hx; omega
        · subst hx; omega
      · dsimp only; omega
      · simp only [go_sem, ↓reduceIte, Nat.reduceEqDiff, Nat.reduceBEq, Nat.reduceAdd, Nat.reduceSub, Nat.reduceLeDiff, Nat.reduceMul, Nat.reduceLT, Int.natCast_add, Int.natCast_one]
    · refine ⟨by omega, LoopEnd.intro (j + 1, M, z.a, z.s) ?_ ?_ (by omega) ?_⟩
      · refine ⟨⟨by dsimp only; omega, by dsimp only; omega, by dsimp only; omega, by dsimp only; omega⟩, fun x hx => ?_⟩
        dsimp only at hx ⊢
        have := hM x hx; omega
      · dsimp only; omega
      · simp only [go_sem, ↓reduceIte, Nat.reduceEqDiff, Nat.reduceBEq, Nat.reduceAdd, Nat.reduceSub, Nat.reduceLeDiff, Nat.reduceMul, Nat.reduceLT, Int.natCast_add, Int.natCast_one]
    · refine fork_intro (fun _ => ⟨by omega, zfinX ⟨by rw [len_snoc]; omega, by omega⟩⟩) (fun _ => fork_intro (fun _ => fork_intro (fun q3 => ?_) (fun _ => zfinX ⟨by omega, by omega⟩)) (fun _ => zfinX ⟨by omega, by omega⟩))
      exact ⟨⟨hc, by omega⟩, fun z1 hz1 => ⟨by omega, zfinX ⟨by rw [List.length_set]; omega, by omega⟩⟩⟩
def t_pricesD : Table := [(94, zC 1 1 g_pricesD)]
theorem t_pricesD_ok : TabOK Tryz.prog t_pricesD := .cons Tryz.func94 (by kernel_rfl) (.z (by decide) (by intro args pre _ hp; unfold g_pricesD at hp ⊢; split at hp <;> first | exact hp.elim | exact ⟨fun z hz => ⟨rfl, shape_box _ _ rfl rfl rfl⟩, pricesD_ok _ _ _ _ _ hp⟩)) (.nil _)
attribute [go_sem] g_pricesD_eq t_pricesD
end Go.Proofs.YteefjdbdknkcjaaGreat
