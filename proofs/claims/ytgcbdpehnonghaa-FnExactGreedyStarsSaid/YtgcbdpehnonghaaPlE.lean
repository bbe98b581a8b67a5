/- Plain facts on medians by swaps and by closing: no program in sight. -/
import Derived.Test.YtgcbdpehnonghaaPlD
namespace Go.Vc
set_option linter.unusedSimpArgs false
set_option linter.unusedVariables false

/-! swaps until none gains -/
def FoundG (o : List Int) (d : List (List Int)) (set : List Int) (s : Int × Int × Int) : Prop := s.2.2 = 0 \/ (s.1 ∈ set /\ (0 <= s.2.1 /\ s.2.1 < o.length) /\ s.2.2 = gain d set s.1 s.2.1 /\ 0 < s.2.2)
theorem rowG_found {o : List Int} {d : List (List Int)} {set : List Int} {a : Int} (ha : a ∈ set) : ∀ (n : Nat) (s : Int × Int × Int), n <= o.length -> (FoundG o d set s /\ 0 <= s.2.2) -> FoundG o d set (rowG d set a n s) /\ 0 <= (rowG d set a n s).2.2
  | 0, s, _, h => h
  | n + 1, s, hn, h => by
    have ih := rowG_found ha n s (by omega) h
    unfold rowG stepSw
    split
    · exact ih
    · split
      · rename_i h2
        refine ⟨.inr ⟨ha, ⟨by dsimp only; omega, by dsimp only; omega⟩, rfl, ?_⟩, ?_⟩
        · dsimp only; omega
        · dsimp only; omega
      · exact ih
theorem findG_found {o : List Int} {d : List (List Int)} {set : List Int} : ∀ k : Nat, k <= set.length -> FoundG o d set (findG o d set k) /\ 0 <= (findG o d set k).2.2
  | 0, _ => ⟨.inl rfl, by unfold findG; decide⟩
  | k + 1, hk => rowG_found (ix_mem set (by omega)) _ _ (Nat.le_refl _) (findG_found k (by omega))
/-- Swap while it gains; the number of swaps. -/
def medIter (o : List Int) (d : List (List Int)) : Nat -> List Int -> Nat -> List Int × Nat
  | 0, s, c => (s, c)
  | n + 1, s, c => if (findG o d s s.length).2.2 = 0 then (s, c) else medIter o d n (swapL s (findG o d s s.length).1 (findG o d s s.length).2.1) (c + 1)
structure MedAt (o : List Int) (d : List (List Int)) (set : List Int) (s : List Int) (c : Nat) : Prop where
  ok : OpenOK o d s
  up : Up s
  rest : ∃ n : Nat, svc d s < n /\ n + c = 700 /\ medIter o d 700 set 0 = medIter o d n s c
theorem MedAt.start {o : List Int} {d : List (List Int)} {set : List Int} (h : OpenOK o d set) (hu : Up set) : MedAt o d set set 0 := by
  have := h.svc_bd
  exact ⟨h, hu, 700, by omega, rfl, rfl⟩
theorem MedAt.c_le {o : List Int} {d : List (List Int)} {set s : List Int} {c : Nat} (h : MedAt o d set s c) : c <= 700 := by
  obtain ⟨n, _, h2, _⟩ := h.rest; omega
theorem MedAt.step {o : List Int} {d : List (List Int)} {set s : List Int} {c : Nat} (h : MedAt o d set s c) (hg : ¬ (findG o d s s.length).2.2 = 0) : MedAt o d set (swapL s (findG o d s s.length).1 (findG o d s s.length).2.1) (c + 1) /\
    svc d (swapL s (findG o d s s.length).1 (findG o d s s.length).2.1) < svc d s := by
  rcases (findG_found (o := o) (d := d) (set := s) s.length (Nat.le_refl _)).1 with h1 | ⟨h1, h2, h3, h4⟩
  · exact (hg h1).elim
  · have hs := h.ok.swap h.up (findG o d s s.length).1 h2
    have hb := hs.svc_bd
    have hl : svc d (swapL s (findG o d s s.length).1 (findG o d s s.length).2.1) < svc d s := by unfold gain at h3; omega
    refine ⟨⟨hs, up_swap h.up _ _, ?_⟩, hl⟩
    obtain ⟨n, g1, g2, g3⟩ := h.rest
    obtain ⟨m, rfl⟩ : ∃ m, n = m + 1 := ⟨n - 1, by omega⟩
    exact ⟨m, by omega, by omega, by rw [g3, medIter, if_neg hg]⟩
theorem MedAt.end {o : List Int} {d : List (List Int)} {set s : List Int} {c : Nat} (h : MedAt o d set s c) (hg : (findG o d s s.length).2.2 = 0) : medIter o d 700 set 0 = (s, c) := by
  obtain ⟨n, g1, g2, g3⟩ := h.rest
  have hb := h.ok.svc_bd
  obtain ⟨m, rfl⟩ : ∃ m, n = m + 1 := ⟨n - 1, by omega⟩
  rw [g3, medIter, if_pos hg]
theorem medIter_len {o : List Int} {d : List (List Int)} : ∀ (n : Nat) (s : List Int) (c : Nat), OpenOK o d s -> Up s -> (medIter o d n s c).1.length <= 7
  | 0, s, c, h, hu => by
    have := up_len hu (fun x hx => h.mem hx)
    have := h.f.n7
    unfold medIter; dsimp only; omega
  | n + 1, s, c, h, hu => by
    unfold medIter
    split
    · have := up_len hu (fun x hx => h.mem hx)
      have := h.f.n7
      dsimp only; omega
    · rename_i hg
      rcases (findG_found (o := o) (d := d) (set := s) s.length (Nat.le_refl _)).1 with h1 | ⟨h1, h2, h3, h4⟩
      · exact (hg h1).elim
      · exact medIter_len n _ _ (h.swap hu _ h2) (up_swap hu _ _)

/-! closing sites one by one -/
def bestR (d : List (List Int)) (set : List Int) : Nat -> Int
  | 0 => -1
  | k + 1 => if bestR d set k < 0 \/ svc d (without set (ix set (k : Int))) < svc d (without set (bestR d set k)) then ix set (k : Int) else bestR d set k
theorem bestR_mem {d : List (List Int)} {set : List Int} (h : ∀ x ∈ set, 0 <= x) : ∀ k : Nat, k <= set.length -> bestR d set k = -1 /\ k = 0 \/ (0 <= bestR d set k /\ bestR d set k ∈ set /\ 0 < k)
  | 0, _ => .inl ⟨rfl, rfl⟩
  | k + 1, hk => by
    have hm := ix_mem set (k := k) (by omega)
    unfold bestR
    split
    · exact .inr ⟨h _ hm, hm, by omega⟩
    · rename_i hn
      rcases bestR_mem h k (by omega) with ⟨h1, _⟩ | ⟨h1, h2, h3⟩
      · exact (hn (.inl (by rw [h1]; decide))).elim
      · exact .inr ⟨h1, h2, by omega⟩
theorem bestR_one {d : List (List Int)} {set : List Int} : bestR d set 1 = ix set 0 := by
  unfold bestR; rw [if_pos (.inl (by unfold bestR; decide))]; rfl
def revL (o : List Int) (d : List (List Int)) : Nat -> List Int
  | 0 => sel (fun _ => true) o.length
  | k + 1 => without (revL o d k) (bestR d (revL o d k) (revL o d k).length)
theorem without_len {xs : List Int} {a : Int} : ∀ {xs : List Int}, Up xs -> a ∈ xs -> (without xs a).length + 1 = xs.length
  | [], _, h => by cases h
  | x :: r, hu, h => by
    obtain ⟨h1, h2⟩ := List.pairwise_cons.1 hu
    unfold without
    rcases List.mem_cons.1 h with e | e
    · subst e
      rw [List.filter_cons_of_neg (by simp)]
      have : r.filter (fun x => decide (x ≠ a)) = r := List.filter_eq_self.2 (fun y hy => decide_eq_true (by have := h1 y hy; omega))
      rw [this]; rfl
    · have hx := h1 a e
      rw [List.filter_cons, if_pos (by rw [decide_eq_true_eq]; omega)]
      have ih := without_len (xs := r) h2 e
      unfold without at ih
      simp only [List.length_cons]; omega
structure RevOK (o : List Int) (s : List Int) (k : Nat) : Prop where
  up : Up s
  mem : ∀ x ∈ s, 0 <= x /\ x < o.length
  len : s.length + k = o.length
theorem revL_ok (o : List Int) (d : List (List Int)) : ∀ k : Nat, k < o.length -> RevOK o (revL o d k) k
  | 0, h => ⟨up_sel _ _, fun x hx => by obtain ⟨q, hq, _, rfl⟩ := mem_sel.1 hx; omega, by rw [revL, sel_full (fun _ _ => rfl)]; rfl⟩
  | k + 1, h => by
    have ih := revL_ok o d k (by omega)
    have hl := ih.len
    have hb := bestR_mem (d := d) (set := revL o d k) (fun x hx => (ih.mem x hx).1) (revL o d k).length (Nat.le_refl _)
    have hm : bestR d (revL o d k) (revL o d k).length ∈ revL o d k := by
      rcases hb with ⟨_, h2⟩ | h2
      · omega
      · exact h2.2.1
    refine ⟨up_without ih.up _, fun x hx => ih.mem x (mem_without.1 hx).1, ?_⟩
    have := without_len (xs := revL o d k) ih.up hm
    show (without _ _).length + _ = _
    omega
theorem RevOK.without_open {o : List Int} {d : List (List Int)} {s : List Int} {k : Nat} (hf : FieldOK o d) (h : RevOK o s k) (hl : 1 < s.length) (a : Int) : OpenOK o d (without s a) := by
  refine openOf hf ?_ (up_without h.up a) (fun x hx => h.mem x (mem_without.1 hx).1)
  by_cases ha : a ∈ s
  · have := without_len (xs := s) h.up ha; omega
  · have : without s a = s := List.filter_eq_self.2 (fun y hy => decide_eq_true (fun e => ha (e ▸ hy)))
    rw [this]; omega
/-- A set in bits, one bit less. -/
theorem without_bag {xs : List Int} (h : Up xs) (hb : ∀ x ∈ xs, 0 <= x /\ x < 7) {a : Int} (ha : 0 <= a /\ a < 7) : bag (without xs a) = bag xs ^^^ (bag xs &&& 1 * 2 ^ a.toNat) := by
  apply Nat.eq_of_testBit_eq
  intro q
  rw [andNot_bit, testBit_one, bag_bit (fun x hx => (hb x hx).1), bag_bit (fun x hx => (hb x (mem_without.1 hx).1).1)]
  simp only [hasB]
  rw [Bool.eq_iff_iff]
  simp only [decide_eq_true_eq, Bool.and_eq_true, Bool.not_eq_true', decide_eq_false_iff_not, mem_without]
  constructor
  · rintro ⟨h1, h2⟩; exact ⟨h1, fun e => h2 (by omega)⟩
  · rintro ⟨h1, h2⟩; exact ⟨h1, fun e => h2 (by omega)⟩
theorem bag_full : ∀ n : Nat, n <= 7 -> bag (sel (fun _ => true) n) = 2 ^ n - 1 := by decide
theorem bagL_len {xs : List Int} (h : Up xs) (hb : ∀ x ∈ xs, 0 <= x /\ x < 7) : bagL (bag xs) = xs := bagL_bag (n := 7) h hb (by omega)

/-! sums in 64 bits -/
theorem v_addu (x y : Int) : arithV .add (.int .u64 x) (.int .u64 y) = .int .u64 (IntKind.u64.wrap (x + y)) := (rfl)
theorem v_subu (x y : Int) : arithV .sub (.int .u64 x) (.int .u64 y) = .int .u64 (IntKind.u64.wrap (x - y)) := (rfl)
theorem p_addu (P : Program) (t : TypeId) (x y : Int) : arithP P t .add (.int .u64 x) (.int .u64 y) = True := by show (_ = _) = _; simp
theorem p_subu (P : Program) (t : TypeId) (x y : Int) : arithP P t .sub (.int .u64 x) (.int .u64 y) = True := by show (_ = _) = _; simp
theorem pow_sub : ∀ n : Nat, n <= 7 -> IntKind.u64.wrap (1 * 2 ^ n - 1) = ((2 ^ n - 1 : Nat) : Int) /\ (0 : Int) <= 1 * 2 ^ n /\ (1 : Int) * 2 ^ n <= 128 := by decide

/-! the number of bits, as the library reckons it -/
def s1 (b : Nat) : Nat := ((b / 2) &&& 6148914691236517205) + (b &&& 6148914691236517205)
def s2 (b : Nat) : Nat := ((s1 b / 4) &&& 3689348814741910323) + (s1 b &&& 3689348814741910323)
def s3 (b : Nat) : Nat := (s2 b / 16 + s2 b) &&& 1085102592571150095
def s4 (b : Nat) : Nat := s3 b + s3 b / 256
def s5 (b : Nat) : Nat := s4 b + s4 b / 65536
def s6 (b : Nat) : Nat := s5 b + s5 b / 4294967296
theorem s_all : ∀ b : Nat, b < 128 -> ((s1 b <= 128 /\ s2 b <= 128 /\ s3 b <= 128) /\ (s4 b <= 128 /\ s5 b <= 128 /\ s6 b <= 128)) /\ (s6 b &&& 127) = (bagL b).length := by decide +kernel
theorem stop_int {A : Env -> Heap -> Nat -> Prop} {t : Tmp} {v v' : Int} {h : Heap} {n : Nat} (e : v = v') (hs : stopA A [(t, .int .u64 v')] h n) : stopA A [(t, .int .u64 v)] h n := by rw [e]; exact hs
theorem wrap_nat {x : Nat} (h : x < 18446744073709551616) : IntKind.u64.wrap (x : Int) = x := by
  have : IntKind.u64.wrap (x : Int) = (x : Int) % (2 ^ 64 : Int) := rfl
  rw [this]; omega
theorem shr_cast (b x : Nat) : (b : Int) / 2 ^ x = ((b / 2 ^ x : Nat) : Int) := by simp
theorem full_bits : ∀ n : Nat, n <= 7 -> sel ((1 * 2 ^ n - 1 : Int).toNat).testBit n = sel (fun _ => true) n /\ (0 : Int) <= 1 * 2 ^ n - 1 /\ (1 : Int) * 2 ^ n - 1 < 128 := by decide
theorem without_bagL {xs : List Int} (h : Up xs) (hb : ∀ x ∈ xs, 0 <= x /\ x < 7) {a : Int} (ha : 0 <= a /\ a < 7) : bagL (bag xs ^^^ (bag xs &&& 1 * 2 ^ a.toNat)) = without xs a := by
  rw [<- without_bag h hb ha]
  exact bagL_len (up_without h a) (fun x hx => hb x (mem_without.1 hx).1)
end Go.Vc
