/- Stars: the plain part, and what both packages do with the clients of one site. -/
import Derived.Test.YtgcbdpehnonghaaXW
import Derived.Test.YtgcbdpehnonghaaA7
import Derived.Test.YtgcbdpehnonghaaA13
import Derived.Test.YtgcbdpehnonghaaA18
import Derived.Test.YtgcbdpehnonghaaPlD
namespace Go.Proofs.Ytgcbdpehnonghaa
open Go.Vc
set_option maxRecDepth 100000
set_option maxHeartbeats 1600000
set_option linter.unusedSimpArgs false
set_option linter.unusedVariables false
def chpF (o : List Int) : Nat -> Nat
  | 0 => 0
  | a + 1 => if ix o (a : Int) < ix o (chpF o a : Int) then a else chpF o a
theorem chp_fact (o : List Int) : ∀ k : Nat, 1 <= k -> chpF o k < k /\ (∀ q : Nat, q < k -> ix o (chpF o k : Int) <= ix o (q : Int)) /\ ∀ q : Nat, q < chpF o k -> ix o (chpF o k : Int) < ix o (q : Int)
  | 0, h => by omega
  | 1, _ => by
    have e : chpF o 1 = 0 := by unfold chpF; split <;> rfl
    rw [e]
    exact ⟨by omega, fun q hq => by obtain rfl : q = 0 := by omega
                                    exact Int.le_refl _, fun q hq => by omega⟩
  | k + 2, _ => by
    obtain ⟨h1, h2, h3⟩ := chp_fact o (k + 1) (by omega)
    have e : chpF o (k + 2) = if ix o ((k + 1 : Nat) : Int) < ix o (chpF o (k + 1) : Int) then k + 1 else chpF o (k + 1) := rfl
    rw [e]
    split
    · rename_i hlt
      refine ⟨by omega, fun q hq => ?_, fun q hq => ?_⟩
      · by_cases e2 : q = k + 1
        · subst e2; exact Int.le_refl _
        · have := h2 q (by omega); omega
      · have := h2 q hq; omega
    · rename_i hlt
      refine ⟨by omega, fun q hq => ?_, h3⟩
      by_cases e2 : q = k + 1
      · subst e2; omega
      · exact h2 q (by omega)
theorem chp_lt {o : List Int} (h : 0 < o.length) : chpF o o.length < o.length := (chp_fact o o.length (by omega)).1
def g_cheapS : List AV -> Prop × AV
  | [.agg [.ints o, .rows d]] => (FieldOK o d, .int .i64 (chpF o o.length : Nat))
  | _ => (False, .undef)
theorem g_cheapS_eq (o : List Int) (d : List (List Int)) : g_cheapS [.agg [.ints o, .rows d]] = (FieldOK o d, .int .i64 (chpF o o.length : Nat)) := (rfl)
theorem cheapS_ok (o : List Int) (d : List (List Int)) (hp : FieldOK o d) : SpecOK Try.prog 23 [.agg [.ints o, .rows d]] (.int .i64 (chpF o o.length : Nat)) [] := by
  refine fun_ok (C := []) (hint := hintX [] [] 0 [] [] [] []) (TabOK.nil _) mixed Try.func23 rfl (by kernel_rfl) rfl ?_
  show codeA _ _ _ _ _ _ _ _
  simp only [go_sem, Try.results23]
  have hn := hp.n7
  have h1 := hp.n1
  refine loop_intro (fun a : Nat => [(3, .int .i64 (chpF o a : Nat)), (4, .int .i64 a), (1, .iptr [.ints o, .rows d])]) (fun _ => []) 0 (fun a => 1 <= a /\ a <= o.length) (fun a => o.length - a) 1 ⟨by omega, h1⟩ (by omega) ?_ ?_
  · simp only [go_sem]
    repeat' (first | refine fork_intro (fun hb => ?_) (fun hb => ?_) | refine partB_intro (fun hb => ?_) (fun hb => ?_) | refine And.intro ?_ ?_)
    all_goals first | exact True.intro | omega | with_reducible rfl | exact congrArg (AV.int _) (by omega) | (first | rfl | exact congrArg (AV.int _) (by unfold chpF; split <;> rfl))
  · rintro a ⟨ha1, ha⟩
    obtain ⟨c1, _⟩ := chp_fact o a ha1
    have e : chpF o (a + 1) = if ix o (a : Int) < ix o (chpF o a : Int) then a else chpF o a := rfl
    simp only [go_sem]
    refine fork_intro (fun hc => ?_) (fun hc => ?_)
    · refine ⟨by omega, by omega, fork_intro (fun hd => ?_) (fun hd => ?_)⟩
      · rw [if_pos hd] at e
        repeat' (first | refine fork_intro (fun hb => ?_) (fun hb => ?_) | refine partB_intro (fun hb => ?_) (fun hb => ?_) | refine And.intro ?_ ?_)
        all_goals first | exact True.intro | omega | with_reducible rfl | exact congrArg (AV.int _) (by omega) | (refine LoopEnd.intro (a + 1) (by first | omega | (first | exact ⟨by omega, by omega⟩)) (by first | omega | (dsimp only; omega)) (by omega) ?_; simp only [go_sem]; (repeat' (first | refine fork_intro (fun hb => ?_) (fun hb => ?_) | refine partB_intro (fun hb => ?_) (fun hb => ?_) | refine And.intro ?_ ?_)); all_goals first | exact True.intro | omega | with_reducible rfl | exact congrArg (AV.int _) (by omega) | (first | rfl | rw [e])) | (first | rfl | rw [e])
      · rw [if_neg hd] at e
        repeat' (first | refine fork_intro (fun hb => ?_) (fun hb => ?_) | refine partB_intro (fun hb => ?_) (fun hb => ?_) | refine And.intro ?_ ?_)
        all_goals first | exact True.intro | omega | with_reducible rfl | exact congrArg (AV.int _) (by omega) | (refine LoopEnd.intro (a + 1) (by first | omega | (first | exact ⟨by omega, by omega⟩)) (by first | omega | (dsimp only; omega)) (by omega) ?_; simp only [go_sem]; (repeat' (first | refine fork_intro (fun hb => ?_) (fun hb => ?_) | refine partB_intro (fun hb => ?_) (fun hb => ?_) | refine And.intro ?_ ?_)); all_goals first | exact True.intro | omega | with_reducible rfl | exact congrArg (AV.int _) (by omega) | (first | rfl | rw [e])) | (first | rfl | rw [e])
    · rw [show a = o.length by omega]
def t_cheapS : Table := [(23, pureC g_cheapS)]
theorem t_cheapS_ok : TabOK Try.prog t_cheapS := .cons Try.func23 (by kernel_rfl) (.pure (by intro args hp; unfold g_cheapS at hp ⊢; split at hp <;> first | exact hp.elim | exact cheapS_ok _ _ hp)) (.nil _)
attribute [go_sem] g_cheapS_eq t_cheapS
theorem idxG_at {p : Int -> Bool} : ∀ {xs : List Int} {s : Int} {k : Nat}, k < xs.length -> p (ix xs (k : Int)) = true -> (∀ q : Nat, q < k -> p (ix xs (q : Int)) = false) -> idxG p xs s = s + k
  | [], s, k, h, _, _ => by simp at h
  | x :: r, s, 0, h, h1, _ => by
    have e : ix (x :: r) ((0 : Nat) : Int) = x := rfl
    rw [e] at h1
    unfold idxG
    rw [if_pos h1]; simp
  | x :: r, s, k + 1, h, h1, h2 => by
    have e : ix (x :: r) ((0 : Nat) : Int) = x := rfl
    have h0 := h2 0 (by omega)
    rw [e] at h0
    have es : ∀ q : Nat, q < r.length -> ix (x :: r) ((q + 1 : Nat) : Int) = ix r (q : Int) := fun q hq => by
      have a1 := ix_some (x :: r) (k := q + 1) (by simp; omega)
      have a2 := ix_some r hq
      rw [List.getElem?_cons_succ, a2] at a1
      exact (Option.some.inj a1).symm
    have hk : k < r.length := by simpa using h
    unfold idxG
    rw [if_neg (by rw [h0]; decide), idxG_at (xs := r) (s := s + 1) (k := k) hk (by rw [<- es k hk]; exact h1) (fun q hq => by rw [<- es q (by omega)]; exact h2 (q + 1) (by omega))]
    omega
theorem idx_chp {o : List Int} (h : 0 < o.length) : idxG (fun x => decide (x = minL o)) o 0 = (chpF o o.length : Nat) := by
  obtain ⟨h1, h2, h3⟩ := chp_fact o o.length (by omega)
  have hm := minL_mem h
  have e : minL o = ix o (chpF o o.length : Int) := by
    have g1 := (minL_ge h (minL o)).1 (Int.le_refl _) _ (ix_mem o h1)
    have g2 := (minL_ge h (ix o (chpF o o.length : Int))).2 (fun x hx => by
      obtain ⟨q, hq⟩ := List.mem_iff_getElem?.1 hx
      have hlt := (List.getElem?_eq_some_iff.1 hq).1
      rw [ix_some o hlt] at hq
      cases hq
      exact h2 q hlt)
    omega
  rw [idxG_at h1 (decide_eq_true e.symm) (fun q hq => decide_eq_false (by have := h3 q hq; omega))]
  omega
def g_cheapI : List AV -> Prop × AV
  | [.agg [.ints o, .rows d]] => (FieldOK o d, .int .i64 (chpF o o.length : Nat))
  | _ => (False, .undef)
theorem g_cheapI_eq (o : List Int) (d : List (List Int)) : g_cheapI [.agg [.ints o, .rows d]] = (FieldOK o d, .int .i64 (chpF o o.length : Nat)) := (rfl)
theorem cheapI_ok (o : List Int) (d : List (List Int)) (hp : FieldOK o d) : SpecOK Try.prog 30 [.agg [.ints o, .rows d]] (.int .i64 (chpF o o.length : Nat)) [] := by
  refine fun_ok (C := t_minI ++ t_indexI) (hint := hintX [] [] 0 [] [] [] []) ((t_minI_ok).append t_indexI_ok) mixed Try.func30 rfl (by kernel_rfl) rfl ?_
  show codeA _ _ _ _ _ _ _ _
  simp only [go_sem, Try.results30]
  have hn := hp.n7
  have h1 := hp.n1
  have e := idx_chp (o := o) (by omega)
  rw [<- e]
  repeat' (first | refine fork_intro (fun hb => ?_) (fun hb => ?_) | refine partB_intro (fun hb => ?_) (fun hb => ?_) | refine And.intro ?_ ?_)
  all_goals first | exact True.intro | omega | with_reducible rfl | exact congrArg (AV.int _) (by omega) | (first | rfl)
def t_cheapI : Table := [(30, pureC g_cheapI)]
theorem t_cheapI_ok : TabOK Try.prog t_cheapI := .cons Try.func30 (by kernel_rfl) (.pure (by intro args hp; unfold g_cheapI at hp ⊢; split at hp <;> first | exact hp.elim | exact cheapI_ok _ _ hp)) (.nil _)
attribute [go_sem] g_cheapI_eq t_cheapI

/-! ### Sorted by lengths -/
def SortT (T S : List Int) : Prop := ∀ i j : Nat, i < j -> j < S.length -> ix T (ix S (i : Int)) <= ix T (ix S (j : Int))
theorem cut_facts {T S : List Int} {x : Int} (hs : SortT T S) : ∀ n : Nat, n <= S.length -> (∀ j : Nat, j < cutF (ltT T) S x n -> ix T (ix S (j : Int)) <= ix T x) /\ (cutF (ltT T) S x n < n -> ix T x < ix T (ix S (cutF (ltT T) S x n : Int)))
  | 0, _ => ⟨fun j h => absurd h (Nat.not_lt_zero _), fun h => absurd h (Nat.not_lt_zero _)⟩
  | n + 1, hn => by
    rw [cutF_s]
    by_cases hlt : ltT T x (ix S (n : Int)) = true
    · rw [if_pos hlt]
      obtain ⟨h1, h2⟩ := cut_facts (x := x) hs n (by omega)
      refine ⟨h1, fun _ => ?_⟩
      have hle := cutF_le (ltT T) S x n
      by_cases e : cutF (ltT T) S x n = n
      · rw [e]; exact of_decide_eq_true hlt
      · exact h2 (by omega)
    · rw [if_neg hlt]
      have hge : ix T (ix S (n : Int)) <= ix T x := by
        have : ¬ ix T x < ix T (ix S (n : Int)) := fun h => hlt (decide_eq_true h)
        omega
      refine ⟨fun j hj => ?_, fun h => absurd h (Nat.lt_irrefl _)⟩
      by_cases e : j = n
      · subst e; exact hge
      · have := hs j n (by omega) (by omega); omega
theorem sort_ins {T S : List Int} {x : Int} (hs : SortT T S) : SortT T (insL (ltT T) S x) := by
  obtain ⟨h1, h2⟩ := cut_facts (x := x) hs S.length (Nat.le_refl _)
  have hle := cutF_le (ltT T) S x S.length
  intro i j hij hj
  rw [insL_len] at hj
  unfold insL
  generalize cutF (ltT T) S x S.length = c at *
  rw [ix_ins hle (by omega), ix_ins hle (by omega)]
  by_cases a1 : i < c
  · rw [if_pos a1]
    by_cases b1 : j < c
    · rw [if_pos b1]; exact hs i j hij (by omega)
    · rw [if_neg b1]
      by_cases b2 : j = c
      · rw [if_pos b2]; exact h1 i a1
      · rw [if_neg b2]; exact hs i (j - 1) (by omega) (by omega)
  · rw [if_neg a1, if_neg (show ¬ j < c by omega), if_neg (show ¬ j = c by omega)]
    have h3 := h2 (by omega)
    by_cases a2 : i = c
    · rw [if_pos a2]
      by_cases b3 : j - 1 = c
      · rw [b3]; omega
      · have := hs c (j - 1) (by omega) (by omega); omega
    · rw [if_neg a2]; exact hs (i - 1) (j - 1) (by omega) (by omega)
theorem sort_insF (T : List Int) (xs : List Int) : ∀ i : Nat, i <= xs.length -> SortT T (insF (ltT T) (xs.take i))
  | 0, _ => fun i j _ hj => by simp [insF] at hj
  | i + 1, h => by
    rw [insF_succ _ (by omega)]
    exact sort_ins (sort_insF T xs i (by omega))
theorem mem_insL {lt : Int -> Int -> Bool} {S : List Int} {x y : Int} : y ∈ insL lt S x ↔ y = x \/ y ∈ S := by
  unfold insL
  rw [List.mem_append, List.mem_cons]
  constructor
  · rintro (h | h | h)
    · exact .inr (List.mem_of_mem_take h)
    · exact .inl h
    · exact .inr (List.mem_of_mem_drop h)
  · rintro (h | h)
    · exact .inr (.inl h)
    · rw [<- List.take_append_drop (cutF lt S x S.length) S, List.mem_append] at h
      rcases h with h | h
      · exact .inl h
      · exact .inr (.inr h)
theorem mem_foldl {lt : Int -> Int -> Bool} {y : Int} : ∀ {xs S : List Int}, y ∈ xs.foldl (insL lt) S ↔ y ∈ S \/ y ∈ xs
  | [], S => by simp
  | x :: xs, S => by
    rw [List.foldl_cons, mem_foldl, mem_insL, List.mem_cons]
    constructor
    · rintro ((h | h) | h)
      · exact .inr (.inl h)
      · exact .inl h
      · exact .inr (.inr h)
    · rintro (h | h | h)
      · exact .inl (.inr h)
      · exact .inl (.inl h)
      · exact .inr h
theorem mem_insF {lt : Int -> Int -> Bool} {xs : List Int} {y : Int} : y ∈ insF lt xs ↔ y ∈ xs := by
  unfold insF; rw [mem_foldl]; simp
/-- The clients in the order of their lengths to a site. -/
def near (d : List (List Int)) (s : Int) (xs : List Int) : List Int := insF (ltT (colT d s)) xs
theorem near_len (d : List (List Int)) (s : Int) (xs : List Int) : (near d s xs).length = xs.length := insF_len _ _
theorem near_mem {d : List (List Int)} {s : Int} {xs : List Int} {y : Int} : y ∈ near d s xs ↔ y ∈ xs := mem_insF

/-! ### The best star -/
def starStep (a own k : Int) (s : Int × Int × Int) : Int × Int × Int := if s.1 < 0 \/ own * s.2.2 < s.2.1 * k \/ (s.1 = a /\ own * s.2.2 = s.2.1 * k) then (a, own, k) else s
def starIn (d : List (List Int)) (a : Int) (L : List Int) (own : Int) (s : Int × Int × Int) : Nat -> Int × (Int × Int × Int)
  | 0 => (own, s)
  | k + 1 => ((starIn d a L own s k).1 + ix (ix d (ix L (k : Int))) a, starStep a ((starIn d a L own s k).1 + ix (ix d (ix L (k : Int))) a) ((k : Int) + 1) (starIn d a L own s k).2)
def own0 (o O : List Int) (a : Int) : Int := if a ∈ O then 0 else ix o a
def starOut (o : List Int) (d : List (List Int)) (O left : List Int) : Nat -> Int × Int × Int
  | 0 => (-1, 0, 1)
  | a + 1 => (starIn d (a : Int) (near d (a : Int) left) (own0 o O (a : Int)) (starOut o d O left a) left.length).2
/-- A star is there, or none yet. -/
structure StarOK (m n : Nat) (s : Int × Int × Int) : Prop where
  bd : 0 <= s.2.1 /\ s.2.1 <= 1000
  sh : s = (-1, 0, 1) \/ ((0 <= s.1 /\ s.1 < n) /\ 1 <= s.2.2 /\ s.2.2 <= m)
theorem starStep_ok {m n : Nat} {a own k : Int} {s : Int × Int × Int} (h : StarOK m n s) (ha : 0 <= a /\ a < n) (ho : 0 <= own /\ own <= 1000) (hk : 1 <= k /\ k <= m) : StarOK m n (starStep a own k s) := by
  unfold starStep
  split
  · exact ⟨ho, .inr ⟨ha, hk⟩⟩
  · exact h
theorem starStep_pos {a own k : Int} {s : Int × Int × Int} (ha : 0 <= a) : 0 <= (starStep a own k s).1 := by
  unfold starStep
  split
  · exact ha
  · rename_i h
    have : ¬ s.1 < 0 := fun h2 => h (.inl h2)
    omega
theorem StarOK.mono {m n n' : Nat} {s : Int × Int × Int} (h : StarOK m n s) (hn : n <= n') : StarOK m n' s := by
  refine ⟨h.bd, ?_⟩
  rcases h.sh with h1 | ⟨h1, h2⟩
  · exact .inl h1
  · exact .inr ⟨by omega, h2⟩
section
variable {o : List Int} {d : List (List Int)}
theorem starIn_ok (hf : FieldOK o d) {a : Int} (ha : 0 <= a /\ a < o.length) {L : List Int} (hL : ∀ x ∈ L, 0 <= x /\ x < d.length) (hl : L.length <= 7) {own : Int} (ho : 0 <= own /\ own <= 99) {s : Int × Int × Int} (hs : StarOK L.length o.length s) :
    ∀ k : Nat, k <= L.length -> (0 <= (starIn d a L own s k).1 /\ (starIn d a L own s k).1 <= 99 * (k + 1)) /\ StarOK L.length o.length (starIn d a L own s k).2 /\ (1 <= k -> 0 <= (starIn d a L own s k).2.1)
  | 0, _ => ⟨by show 0 <= own /\ own <= _; omega, hs, fun h => absurd h (by omega)⟩
  | k + 1, hk => by
    obtain ⟨h1, h2, _⟩ := starIn_ok hf ha hL hl ho hs k (by omega)
    have hx := hL _ (ix_mem L (show k < L.length by omega))
    have hr := ix_memI d hx.1 hx.2
    have hc := hf.d99 _ hr _ (ix_memI _ ha.1 (by rw [hf.len _ hr]; exact ha.2))
    have hb : 0 <= (starIn d a L own s k).1 + ix (ix d (ix L (k : Int))) a /\ (starIn d a L own s k).1 + ix (ix d (ix L (k : Int))) a <= 99 * ((k + 1 : Nat) + 1) := by omega
    exact ⟨hb, starStep_ok h2 ha (by omega) (by omega), fun _ => starStep_pos ha.1⟩
theorem own0_bd (hf : FieldOK o d) (O : List Int) {a : Int} (ha : 0 <= a /\ a < o.length) : 0 <= own0 o O a /\ own0 o O a <= 99 := by
  unfold own0
  split
  · omega
  · exact hf.o99 _ (ix_memI _ ha.1 ha.2)
theorem starOut_ok (hf : FieldOK o d) (O : List Int) {left : List Int} (hL : ∀ x ∈ left, 0 <= x /\ x < d.length) (hl : left.length <= 7) : ∀ a : Nat, a <= o.length -> StarOK left.length o.length (starOut o d O left a) /\ (1 <= a -> 1 <= left.length -> 0 <= (starOut o d O left a).1)
  | 0, _ => ⟨⟨by show (0 : Int) <= 0 /\ (0 : Int) <= 1000; omega, .inl rfl⟩, fun h => absurd h (by omega)⟩
  | a + 1, ha => by
    obtain ⟨h1, _⟩ := starOut_ok hf O hL hl a (by omega)
    have hn := near_len d (a : Int) left
    have := starIn_ok hf (a := (a : Int)) (L := near d (a : Int) left) (own := own0 o O (a : Int)) (s := starOut o d O left a) ⟨by omega, by omega⟩ (fun x hx => hL x (near_mem.1 hx)) (by omega) (own0_bd hf O ⟨by omega, by omega⟩) (by rw [hn]; exact h1) left.length (by omega)
    rw [hn] at this
    exact ⟨this.2.1, fun _ h => this.2.2 h⟩
end
theorem prod_bd {x y : Int} (hx : 0 <= x /\ x <= 1000) (hy : 0 <= y /\ y <= 10) : 0 <= x * y /\ x * y <= 10000 := by
  refine ⟨Int.mul_nonneg hx.1 hy.1, ?_⟩
  have := Int.mul_le_mul hx.2 hy.2 hy.1 (by omega)
  omega
def starS (o : List Int) (d : List (List Int)) (O left : List Int) : Int × Int × Int := starOut o d O left o.length
def gone (o : List Int) (d : List (List Int)) (O left : List Int) : List Int := (near d (starS o d O left).1 left).take (starS o d O left).2.2.toNat
def starsF (o : List Int) (d : List (List Int)) : Nat -> List Int -> List Int -> List Int
  | 0, O, _ => O
  | f + 1, O, left => if left.length = 0 then O else starsF o d f (putF O (starS o d O left).1) (left.filter fun x => decide (x ∉ gone o d O left))
def starsL (o : List Int) (d : List (List Int)) : List Int := if d.length = 0 then [(chpF o o.length : Int)] else starsF o d d.length [] (sel (fun _ => true) d.length)
end Go.Proofs.Ytgcbdpehnonghaa
