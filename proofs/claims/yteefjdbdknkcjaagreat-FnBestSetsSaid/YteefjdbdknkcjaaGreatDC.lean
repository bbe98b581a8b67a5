/- Draws: fields of all kinds, in part. -/
import Derived.Test.YteefjdbdknkcjaaGreatDB
import Derived.Test.YteefjdbdknkcjaaGreatPlW
namespace Go.Proofs.YteefjdbdknkcjaaGreat
open Go.Vc
set_option maxRecDepth 100000
set_option maxHeartbeats 1600000
set_option linter.unusedSimpArgs false
set_option linter.unusedVariables false

def g_fieldOfD : List AV -> Heap -> Prop × (Z -> Prop × AV × Heap)
  | [.bx 0 0, .int .i64 most], [(0, .box [.bytes code, .int .i64 a, .int .u64 s])] => (code.length <= 1000000000 /\ (0 <= a /\ a <= 1000000000000 - 3000) /\ 1 <= most /\ most <= 7, fun z => (Bdd z.xs z.xss /\ a <= z.a /\ z.a <= a + 1000, .agg [.sl 2, .mt 3], [(0, .box [.bytes code, .int .i64 z.a, .int .u64 z.s]), (2, .arr (.ints z.xs)), (3, .mat z.xss)]))
  | _, _ => (False, fun _ => (False, .undef, []))
theorem g_fieldOfD_eq (most : Int) (code : List UInt8) (a s : Int) : g_fieldOfD [.bx 0 0, .int .i64 most] [(0, .box [.bytes code, .int .i64 a, .int .u64 s])] = (code.length <= 1000000000 /\ (0 <= a /\ a <= 1000000000000 - 3000) /\ 1 <= most /\ most <= 7, fun z => (Bdd z.xs z.xss /\ a <= z.a /\ z.a <= a + 1000, .agg [.sl 2, .mt 3], [(0, .box [.bytes code, .int .i64 z.a, .int .u64 z.s]), (2, .arr (.ints z.xs)), (3, .mat z.xss)])) := (rfl)
theorem fieldOfD_ok (most : Int) (code : List UInt8) (a s : Int) (hp : code.length <= 1000000000 /\ (0 <= a /\ a <= 1000000000000 - 3000) /\ 1 <= most /\ most <= 7) : SpecZ Tryz.prog 131 [.bx 0 0, .int .i64 most] [(0, .box [.bytes code, .int .i64 a, .int .u64 s])] 1 (fun z => (Bdd z.xs z.xss /\ a <= z.a /\ z.a <= a + 1000, .agg [.sl 2, .mt 3], [(0, .box [.bytes code, .int .i64 z.a, .int .u64 z.s]), (2, .arr (.ints z.xs)), (3, .mat z.xss)])) := by
  refine fun_okZ (C := t_pickD ++ t_rawD ++ t_lineD ++ t_spoiltD ++ t_l2Close) (hint := hintX [4, 25] [(3, [.post, .mv 10 2, .mv 11 3]), (5, [.post, .mv 11 2, .mv 12 3]), (6, [.post, .mv 15 2, .mv 16 3])] 1 [75, 1000075, 113, 1000113, 111, 1000111, 168, 1000168] [] [] []) (((((t_pickD_ok).append t_rawD_ok).append t_lineD_ok).append t_spoiltD_ok).append t_l2Close_ok) mixed Tryz.func131 rfl (by kernel_rfl) rfl (Nat.le_refl _) (by decide) (upTo_look (k := 1) rfl) ?_
  show codeA _ _ _ _ _ _ _ _
  simp only [go_sem, Tryz.results131]
  obtain ⟨hc, ha, hm1, hm7⟩ := hp
  refine ⟨⟨hc, by omega, by omega⟩, fun z hz => fork_intro (fun _ => ?_) (fun _ => fork_intro (fun _ => ?_) (fun _ => ?_))⟩
  · exact ⟨⟨hc, by omega, hm1, hm7⟩, fun z1 h1 => ⟨⟨hc, by omega, h1.1⟩, fun z2 h2 => ⟨rfl, rfl, ⟨{ xs := z2.xs, xss := z2.xss, a := z2.a, s := z2.s }, ⟨h2.1, (by dsimp only; omega)⟩, ⟨rfl, rfl⟩, rfl, rfl⟩⟩⟩⟩
  · exact ⟨⟨hc, by omega, hm1, hm7⟩, fun z1 h1 => ⟨⟨hc, by omega, h1.1⟩, fun z2 h2 => ⟨rfl, rfl, ⟨{ xs := z2.xs, xss := z2.xss, a := z2.a, s := z2.s }, ⟨h2.1, (by dsimp only; omega)⟩, ⟨rfl, rfl⟩, rfl, rfl⟩⟩⟩⟩
  · refine ⟨⟨hc, by omega, hm1, hm7⟩, fun z1 h1 => ⟨h1.1, ⟨hc, by omega, ?_⟩, fun z2 h2 => ⟨rfl, rfl, ⟨{ xs := z2.xs, xss := z2.xss, a := z2.a, s := z2.s }, ⟨h2.1, (by dsimp only; omega)⟩, ⟨rfl, rfl⟩, rfl, rfl⟩⟩⟩⟩
    exact (closeD_ok h1.1.sh h1.1.m7 h1.1.n7).1.sh.field h1.1
def t_fieldOfD : Table := [(131, zC 1 1 g_fieldOfD)]
theorem t_fieldOfD_ok : TabOK Tryz.prog t_fieldOfD := .cons Tryz.func131 (by kernel_rfl) (.z (by decide) (by intro args pre _ hp; unfold g_fieldOfD at hp ⊢; split at hp <;> first | exact hp.elim | exact ⟨fun z hz => ⟨rfl, shape_box _ _ rfl rfl rfl⟩, fieldOfD_ok _ _ _ _ hp⟩)) (.nil _)
attribute [go_sem] g_fieldOfD_eq t_fieldOfD
def g_fieldD : List AV -> Heap -> Prop × (Z -> Prop × AV × Heap)
  | [.bx 0 0], [(0, .box [.bytes code, .int .i64 a, .int .u64 s])] => (code.length <= 1000000000 /\ (0 <= a /\ a <= 1000000000000 - 3000), fun z => (Bdd z.xs z.xss /\ a <= z.a /\ z.a <= a + 1000, .agg [.sl 3, .mt 4], [(0, .box [.bytes code, .int .i64 z.a, .int .u64 z.s]), (3, .arr (.ints z.xs)), (4, .mat z.xss)]))
  | _, _ => (False, fun _ => (False, .undef, []))
theorem g_fieldD_eq (code : List UInt8) (a s : Int) : g_fieldD [.bx 0 0] [(0, .box [.bytes code, .int .i64 a, .int .u64 s])] = (code.length <= 1000000000 /\ (0 <= a /\ a <= 1000000000000 - 3000), fun z => (Bdd z.xs z.xss /\ a <= z.a /\ z.a <= a + 1000, .agg [.sl 3, .mt 4], [(0, .box [.bytes code, .int .i64 z.a, .int .u64 z.s]), (3, .arr (.ints z.xs)), (4, .mat z.xss)])) := (rfl)
theorem fieldD_ok (code : List UInt8) (a s : Int) (hp : code.length <= 1000000000 /\ (0 <= a /\ a <= 1000000000000 - 3000)) : SpecZ Tryz.prog 72 [.bx 0 0] [(0, .box [.bytes code, .int .i64 a, .int .u64 s])] 1 (fun z => (Bdd z.xs z.xss /\ a <= z.a /\ z.a <= a + 1000, .agg [.sl 3, .mt 4], [(0, .box [.bytes code, .int .i64 z.a, .int .u64 z.s]), (3, .arr (.ints z.xs)), (4, .mat z.xss)])) := by
  refine fun_okZ (C := t_fieldOfD) (hint := hintX [2] [] 1 [131, 1000131] [] [] []) (t_fieldOfD_ok) mixed Tryz.func72 rfl (by kernel_rfl) rfl (Nat.le_refl _) (by decide) (upTo_look (k := 1) rfl) ?_
  show codeA _ _ _ _ _ _ _ _
  simp only [go_sem, Tryz.results72]
  obtain ⟨hc, ha⟩ := hp
  exact ⟨⟨hc, by omega, by omega, by omega⟩, fun z hz => ⟨{ xs := z.xs, xss := z.xss, a := z.a, s := z.s }, hz, ⟨rfl, rfl⟩, rfl, rfl⟩⟩
def t_fieldD : Table := [(72, zC 1 1 g_fieldD)]
theorem t_fieldD_ok : TabOK Tryz.prog t_fieldD := .cons Tryz.func72 (by kernel_rfl) (.z (by decide) (by intro args pre _ hp; unfold g_fieldD at hp ⊢; split at hp <;> first | exact hp.elim | exact ⟨fun z hz => ⟨rfl, shape_box _ _ rfl rfl rfl⟩, fieldD_ok _ _ _ hp⟩)) (.nil _)
attribute [go_sem] g_fieldD_eq t_fieldD
def g_bitsO : List AV -> Prop × AV × Heap
  | [.int .i64 n, .int .i64 b] => ((0 <= n /\ n <= 7) /\ 0 <= b /\ b < 256, .sl 0, [(0, .arr (.ints (sel b.toNat.testBit n.toNat)))])
  | _ => (False, .undef, [])
theorem g_bitsO_eq (n b : Int) : g_bitsO [.int .i64 n, .int .i64 b] = ((0 <= n /\ n <= 7) /\ 0 <= b /\ b < 256, .sl 0, [(0, .arr (.ints (sel b.toNat.testBit n.toNat)))]) := (rfl)
theorem bitsO_ok (n b : Int) (hp : (0 <= n /\ n <= 7) /\ 0 <= b /\ b < 256) : SpecOK Tryz.prog 141 [.int .i64 n, .int .i64 b] (.sl 0) [(0, .arr (.ints (sel b.toNat.testBit n.toNat)))] := by
  refine fun_ok (C := []) (hint := hintX [7] [] 0 [] [] [] []) (TabOK.nil _) mixed Tryz.func141 rfl (by kernel_rfl) rfl ?_
  show codeA _ _ _ _ _ _ _ _
  simp only [go_sem, Tryz.results141]
  obtain ⟨⟨h0, h1⟩, h2, h3⟩ := hp
  obtain ⟨b, rfl⟩ : ∃ k : Nat, b = k := ⟨b.toNat, by omega⟩
  obtain ⟨n, rfl⟩ : ∃ k : Nat, n = k := ⟨n.toNat, by omega⟩
  simp only [Int.toNat_natCast]
  refine loop_intro (fun x : Nat => [(5, .sl 0), (6, .int .i64 x), (0, .int .i64 n), (1, .int .i64 b)]) (fun x => [(0, .arr (.ints (sel b.testBit x)))]) 1 (fun x => x <= n) (fun x => n - x) 0 (by omega) (by omega) ?_ ?_
  · simp only [go_sem]
    repeat' (first | refine fork_intro (fun hb => ?_) (fun hb => ?_) | refine partB_intro (fun hb => ?_) (fun hb => ?_) | refine And.intro ?_ ?_)
    all_goals first | exact True.intro | omega | with_reducible rfl | exact congrArg (AV.int _) (by omega) | (first | rfl)
  · intro x hx
    have hs := shr_le b x
    have hsl := sel_len b.testBit x
    have hb1 := bit_one b x
    simp only [go_sem]
    refine fork_intro (fun hc => ?_) (fun hc => ?_)
    · simp only [shr_nat, bitN_and, show Int.toNat 1 = 1 from rfl]
      refine ⟨by omega, ⟨by omega, by omega⟩, fork_intro (fun hd => ?_) (fun hd => ?_)⟩
      · rw [decide_eq_true hd] at hb1
        have e := sel_t (p := b.testBit) (n := x) hb1.symm
        repeat' (first | refine fork_intro (fun hb => ?_) (fun hb => ?_) | refine partB_intro (fun hb => ?_) (fun hb => ?_) | refine And.intro ?_ ?_)
        all_goals first | exact True.intro | omega | with_reducible rfl | exact congrArg (AV.int _) (by omega) | (refine LoopEnd.intro (x + 1) (by first | omega) (by first | omega | (dsimp only; omega)) (by omega) ?_; simp only [go_sem]; (repeat' (first | refine fork_intro (fun hb => ?_) (fun hb => ?_) | refine partB_intro (fun hb => ?_) (fun hb => ?_) | refine And.intro ?_ ?_)); all_goals first | exact True.intro | omega | with_reducible rfl | exact congrArg (AV.int _) (by omega) | (first | rw [e])) | (first | rw [e])
      · rw [decide_eq_false hd] at hb1
        have e := sel_f (p := b.testBit) (n := x) hb1.symm
        repeat' (first | refine fork_intro (fun hb => ?_) (fun hb => ?_) | refine partB_intro (fun hb => ?_) (fun hb => ?_) | refine And.intro ?_ ?_)
        all_goals first | exact True.intro | omega | with_reducible rfl | exact congrArg (AV.int _) (by omega) | (refine LoopEnd.intro (x + 1) (by first | omega) (by first | omega | (dsimp only; omega)) (by omega) ?_; simp only [go_sem]; (repeat' (first | refine fork_intro (fun hb => ?_) (fun hb => ?_) | refine partB_intro (fun hb => ?_) (fun hb => ?_) | refine And.intro ?_ ?_)); all_goals first | exact True.intro | omega | with_reducible rfl | exact congrArg (AV.int _) (by omega) | (first | rw [e])) | (first | rw [e])
    · rw [show x = n by omega]
      repeat' (first | refine fork_intro (fun hb => ?_) (fun hb => ?_) | refine partB_intro (fun hb => ?_) (fun hb => ?_) | refine And.intro ?_ ?_)
      all_goals first | exact True.intro | omega | with_reducible rfl | exact congrArg (AV.int _) (by omega) | (first | rfl)
def t_bitsO : Table := [(141, ownC g_bitsO)]
theorem t_bitsO_ok : TabOK Tryz.prog t_bitsO := .cons Tryz.func141 (by kernel_rfl) (.own (by intro args hp; unfold g_bitsO at hp ⊢; split at hp <;> first | exact hp.elim | exact ⟨bitsO_ok _ _ hp, rfl⟩)) (.nil _)
attribute [go_sem] g_bitsO_eq t_bitsO
theorem zfinX {xs : List Int} {a0 a s : Int} (h : xs.length <= 1000 /\ a0 <= a /\ a <= a0 + 100) : ∃ z : Z, (z.xs.length <= 1000 /\ a0 <= z.a /\ z.a <= a0 + 100) /\ AV.ints xs = AV.ints z.xs /\ AV.int .i64 a = AV.int .i64 z.a /\ AV.int .u64 s = AV.int .u64 z.s := ⟨{ xs := xs, a := a, s := s }, h, rfl, rfl, rfl⟩
def g_sitesD : List AV -> Heap -> Prop × (Z -> Prop × AV × Heap)
  | [.bx 0 0, .agg [.ints o, .rows d]], [(0, .box [.bytes code, .int .i64 a, .int .u64 s])] => (code.length <= 1000000000 /\ (0 <= a /\ a <= 1000000000000 - 3000) /\ o.length <= 1000, fun z => (z.xs.length <= 1000 /\ a <= z.a /\ z.a <= a + 100, .ints z.xs, [(0, .box [.bytes code, .int .i64 z.a, .int .u64 z.s])]))
  | _, _ => (False, fun _ => (False, .undef, []))
theorem g_sitesD_eq (o : List Int) (d : List (List Int)) (code : List UInt8) (a s : Int) : g_sitesD [.bx 0 0, .agg [.ints o, .rows d]] [(0, .box [.bytes code, .int .i64 a, .int .u64 s])] = (code.length <= 1000000000 /\ (0 <= a /\ a <= 1000000000000 - 3000) /\ o.length <= 1000, fun z => (z.xs.length <= 1000 /\ a <= z.a /\ z.a <= a + 100, .ints z.xs, [(0, .box [.bytes code, .int .i64 z.a, .int .u64 z.s])])) := (rfl)
theorem sitesD_ok (o : List Int) (d : List (List Int)) (code : List UInt8) (a s : Int) (hp : code.length <= 1000000000 /\ (0 <= a /\ a <= 1000000000000 - 3000) /\ o.length <= 1000) : SpecZ Tryz.prog 86 [.bx 0 0, .agg [.ints o, .rows d]] [(0, .box [.bytes code, .int .i64 a, .int .u64 s])] 1 (fun z => (z.xs.length <= 1000 /\ a <= z.a /\ z.a <= a + 100, .ints z.xs, [(0, .box [.bytes code, .int .i64 z.a, .int .u64 z.s])])) := by
  refine fun_okZ (C := t_pickD ++ t_oneD ++ t_amongD ++ t_bitsO ++ t_least2) (hint := hintX [17] [] 1 [75, 1000075, 73, 1000073, 142, 1000142] [] [] []) (((((t_pickD_ok).append t_oneD_ok).append t_amongD_ok).append t_bitsO_ok).append t_least2_ok) mixed Tryz.func86 rfl (by kernel_rfl) rfl (Nat.le_refl _) (by decide) (upTo_look (k := 1) rfl) ?_
  show codeA _ _ _ _ _ _ _ _
  simp only [go_sem, Tryz.results86]
  obtain ⟨hc, ha, ho⟩ := hp
  obtain ⟨n, hn, en⟩ : ∃ n : Nat, n <= 7 /\ min (o.length : Int) 7 = n := ⟨(min (o.length : Int) 7).toNat, by omega, by omega⟩
  rw [en, Int.toNat_natCast]
  have hP : ∀ m : Nat, m <= 7 -> (1 : Int) <= 1 * 2 ^ m /\ (1 : Int) * 2 ^ m <= 128 := fun m hm => (show ∀ m : Nat, m < 8 -> (1 : Int) <= 1 * 2 ^ m /\ (1 : Int) * 2 ^ m <= 128 by decide) m (by omega)
  have hp2 := hP n hn
  generalize (1 : Int) * 2 ^ n = P at *
  have hs0 : ∀ p, (sel p n).length <= 1000 := fun p => by have := sel_len p n; omega
  have hs1 : ∀ p x, (sel p n ++ [x]).length <= 1000 := fun p x => by have := sel_len p n; rw [len_snoc]; omega
  have hs9 : ∀ p, ((sel p n).length + 1) * 9 <= 140737488355328 := fun p => by have := sel_len p n; omega
  repeat' (first | exact hc | (refine zfinX ⟨by first | exact hs0 _ | exact hs1 _ _ | simp, ?_⟩; omega) | exact hs9 _ | omega | refine fork_intro (fun _ => ?_) (fun _ => ?_) | (with_reducible refine And.intro ?_ ?_) | intro z hz)
def t_sitesD : Table := [(86, zC 1 1 g_sitesD)]
theorem t_sitesD_ok : TabOK Tryz.prog t_sitesD := .cons Tryz.func86 (by kernel_rfl) (.z (by decide) (by intro args pre _ hp; unfold g_sitesD at hp ⊢; split at hp <;> first | exact hp.elim | exact ⟨fun z hz => ⟨rfl, shape_box _ _ rfl rfl rfl⟩, sitesD_ok _ _ _ _ _ hp⟩)) (.nil _)
attribute [go_sem] g_sitesD_eq t_sitesD
end Go.Proofs.YteefjdbdknkcjaaGreat
