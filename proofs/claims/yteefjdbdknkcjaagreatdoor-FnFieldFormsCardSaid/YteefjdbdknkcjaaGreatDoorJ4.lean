/- Texts joined: PlD PlE A20b DB PlW DC FF FJ SD PlG. -/
import Derived.Test.YteefjdbdknkcjaaGreatDoorJ3
import Derived.Lib.ItoaMem
import Derived.Lib.ItoaLen
import Derived.Lib.IndexLaws
import Derived.Lib.IndexBytes
import Derived.Lib.IndexMore
namespace Go.Vc
set_option linter.unusedSimpArgs false
set_option linter.unusedVariables false

theorem up_len {xs : List Int} {n : Nat} (h : Up xs) (hb : ∀ x ∈ xs, 0 <= x /\ x < n) : xs.length <= n := by
  rw [up_eq_sel h hb]; exact sel_len _ _
theorem OpenOK.mem {o : List Int} {d : List (List Int)} {set : List Int} (h : OpenOK o d set) {x : Int} (hx : x ∈ set) : 0 <= x /\ x < o.length := by
  obtain ⟨k, hk, rfl⟩ := mem_ix hx
  exact h.xin k hk
theorem openOf {o : List Int} {d : List (List Int)} {set : List Int} (hf : FieldOK o d) (hp : 0 < set.length) (hu : Up set) (hm : ∀ x ∈ set, 0 <= x /\ x < o.length) : OpenOK o d set :=
  ⟨hf, hp, by have := up_len hu hm; have := hf.n7; omega, fun k hk => hm _ (ix_mem set hk)⟩
theorem OpenOK.put {o : List Int} {d : List (List Int)} {set : List Int} (hf : FieldOK o d) (hu : Up set) (hm : ∀ x ∈ set, 0 <= x /\ x < o.length) {a : Int} (ha : 0 <= a /\ a < o.length) : OpenOK o d (putF set a) := by
  refine openOf hf ?_ (up_putF hu) (fun x hx => ?_)
  · have : a ∈ putF set a := mem_putF.2 (.inl rfl)
    exact List.length_pos_of_mem this
  · rcases mem_putF.1 hx with e | e
    · subst e; exact ha
    · exact hm x e
theorem OpenOK.swap {o : List Int} {d : List (List Int)} {set : List Int} (h : OpenOK o d set) (hu : Up set) (a : Int) {b : Int} (hb : 0 <= b /\ b < o.length) : OpenOK o d (swapL set a b) :=
  OpenOK.put h.f (up_without hu a) (fun x hx => h.mem (mem_without.1 hx).1) hb
/-! swaps -/
def swapB (o : List Int) (d : List (List Int)) (set : List Int) (a b : Int) : Bool := opened o d set && (decide (a ∈ set) && (!decide (b ∈ set) && decide (0 <= b /\ b <= (o.length : Int) - 1)))
def gain (d : List (List Int)) (set : List Int) (a b : Int) : Int := svc d set - svc d (swapL set a b)
theorem OpenOK.svc_bd {o : List Int} {d : List (List Int)} {set : List Int} (h : OpenOK o d set) : 0 <= Go.Vc.svc d set /\ Go.Vc.svc d set <= 693 := h.svc (Nat.le_refl _)
theorem OpenOK.gain_bd {o : List Int} {d : List (List Int)} {set : List Int} (h : OpenOK o d set) (hu : Up set) (a : Int) {b : Int} (hb : 0 <= b /\ b < o.length) : -693 <= gain d set a b /\ gain d set a b <= 693 := by
  have h1 := h.svc_bd
  have h2 := (h.swap hu a hb).svc_bd
  unfold gain; omega
def stepSw (d : List (List Int)) (set : List Int) (a b : Int) (s : Int × Int × Int) : Int × Int × Int := if b ∈ set then s else if s.2.2 < gain d set a b then (a, b, gain d set a b) else s
def rowG (d : List (List Int)) (set : List Int) (a : Int) : Nat -> Int × Int × Int -> Int × Int × Int
  | 0, s => s
  | n + 1, s => stepSw d set a (n : Int) (rowG d set a n s)
def findG (o : List Int) (d : List (List Int)) (set : List Int) : Nat -> Int × Int × Int
  | 0 => (0, 0, 0)
  | k + 1 => rowG d set (ix set (k : Int)) o.length (findG o d set k)
theorem rowG_bd {o : List Int} {d : List (List Int)} {set : List Int} (h : OpenOK o d set) (hu : Up set) (a : Int) : ∀ (n : Nat) (s : Int × Int × Int), n <= o.length -> (0 <= s.2.2 /\ s.2.2 <= 693) -> 0 <= (rowG d set a n s).2.2 /\ (rowG d set a n s).2.2 <= 693
  | 0, s, _, hs => hs
  | n + 1, s, hn, hs => by
    have h1 := rowG_bd h hu a n s (by omega) hs
    have h2 := h.gain_bd hu a (b := (n : Int)) (by omega)
    unfold rowG stepSw
    split
    · exact h1
    · split
      · dsimp only; omega
      · exact h1
theorem findG_bd {o : List Int} {d : List (List Int)} {set : List Int} (h : OpenOK o d set) (hu : Up set) : ∀ k : Nat, 0 <= (findG o d set k).2.2 /\ (findG o d set k).2.2 <= 693
  | 0 => by unfold findG; decide
  | k + 1 => rowG_bd h hu _ _ _ (Nat.le_refl _) (findG_bd h hu k)

/-! the greedy set -/
def medB (o : List Int) (d : List (List Int)) (k : Int) : Bool := good o d && decide (1 <= k /\ k <= (o.length : Int))
def bestG (d : List (List Int)) (set : List Int) : Nat -> Int
  | 0 => -1
  | n + 1 => if (n : Int) ∉ set /\ (bestG d set n < 0 \/ svc d (putF set (n : Int)) < svc d (putF set (bestG d set n))) then (n : Int) else bestG d set n
def greedy (o : List Int) (d : List (List Int)) : Nat -> List Int × List Int
  | 0 => ([], [])
  | k + 1 => ((greedy o d k).1 ++ [bestG d (greedy o d k).2 o.length], putF (greedy o d k).2 (bestG d (greedy o d k).2 o.length))
structure GreedyOK (o : List Int) (s : List Int × List Int) (k : Nat) : Prop where
  len : s.1.length = k
  up : Up s.2
  mem : ∀ x ∈ s.2, 0 <= x /\ x < o.length
  len2 : s.2.length = k
end Go.Vc
namespace Go.Vc
set_option linter.unusedSimpArgs false
set_option linter.unusedVariables false

/-! swaps until none gains -/
def FoundG (o : List Int) (d : List (List Int)) (set : List Int) (s : Int × Int × Int) : Prop := s.2.2 = 0 \/ (s.1 ∈ set /\ (0 <= s.2.1 /\ s.2.1 < o.length) /\ s.2.2 = gain d set s.1 s.2.1 /\ 0 < s.2.2)
theorem rowG_found {o : List Int} {d : List (List Int)} {set : List Int} {a : Int} (ha : a ∈ set) : ∀ (n : Nat) (s : Int × Int × Int), n <= o.length -> (FoundG o d set s /\ 0 <= s.2.2) -> FoundG o d set (rowG d set a n s) /\ 0 <= (rowG d set a n s).2.2
  | 0, s, _, h => h
  | n + 1, s, hn, h => by
    have ih := rowG_found ha n s (by omega) h
    unfold rowG stepSw
    split
    · exact ih
    · split
      · rename_i h2
        refine ⟨.inr ⟨ha, ⟨by dsimp only; omega, by dsimp only; omega⟩, rfl, ?_⟩, ?_⟩
        · dsimp only; omega
        · dsimp only; omega
      · exact ih
theorem findG_found {o : List Int} {d : List (List Int)} {set : List Int} : ∀ k : Nat, k <= set.length -> FoundG o d set (findG o d set k) /\ 0 <= (findG o d set k).2.2
  | 0, _ => ⟨.inl rfl, by unfold findG; decide⟩
  | k + 1, hk => rowG_found (ix_mem set (by omega)) _ _ (Nat.le_refl _) (findG_found k (by omega))
def medIter (o : List Int) (d : List (List Int)) : Nat -> List Int -> Nat -> List Int × Nat
  | 0, s, c => (s, c)
  | n + 1, s, c => if (findG o d s s.length).2.2 = 0 then (s, c) else medIter o d n (swapL s (findG o d s s.length).1 (findG o d s s.length).2.1) (c + 1)
structure MedAt (o : List Int) (d : List (List Int)) (set : List Int) (s : List Int) (c : Nat) : Prop where
  ok : OpenOK o d s
  up : Up s
  rest : ∃ n : Nat, svc d s < n /\ n + c = 700 /\ medIter o d 700 set 0 = medIter o d n s c
theorem MedAt.step {o : List Int} {d : List (List Int)} {set s : List Int} {c : Nat} (h : MedAt o d set s c) (hg : ¬ (findG o d s s.length).2.2 = 0) : MedAt o d set (swapL s (findG o d s s.length).1 (findG o d s s.length).2.1) (c + 1) /\
    svc d (swapL s (findG o d s s.length).1 (findG o d s s.length).2.1) < svc d s := by
  rcases (findG_found (o := o) (d := d) (set := s) s.length (Nat.le_refl _)).1 with h1 | ⟨h1, h2, h3, h4⟩
  · exact (hg h1).elim
  · have hs := h.ok.swap h.up (findG o d s s.length).1 h2
    have hb := hs.svc_bd
    have hl : svc d (swapL s (findG o d s s.length).1 (findG o d s s.length).2.1) < svc d s := by unfold gain at h3; omega
    refine ⟨⟨hs, up_swap h.up _ _, ?_⟩, hl⟩
    obtain ⟨n, g1, g2, g3⟩ := h.rest
    obtain ⟨m, rfl⟩ : ∃ m, n = m + 1 := ⟨n - 1, by omega⟩
    exact ⟨m, by omega, by omega, by rw [g3, medIter, if_neg hg]⟩
theorem MedAt.end {o : List Int} {d : List (List Int)} {set s : List Int} {c : Nat} (h : MedAt o d set s c) (hg : (findG o d s s.length).2.2 = 0) : medIter o d 700 set 0 = (s, c) := by
  obtain ⟨n, g1, g2, g3⟩ := h.rest
  have hb := h.ok.svc_bd
  obtain ⟨m, rfl⟩ : ∃ m, n = m + 1 := ⟨n - 1, by omega⟩
  rw [g3, medIter, if_pos hg]
/-! closing sites one by one -/
def bestR (d : List (List Int)) (set : List Int) : Nat -> Int
  | 0 => -1
  | k + 1 => if bestR d set k < 0 \/ svc d (without set (ix set (k : Int))) < svc d (without set (bestR d set k)) then ix set (k : Int) else bestR d set k
def revL (o : List Int) (d : List (List Int)) : Nat -> List Int
  | 0 => sel (fun _ => true) o.length
  | k + 1 => without (revL o d k) (bestR d (revL o d k) (revL o d k).length)
structure RevOK (o : List Int) (s : List Int) (k : Nat) : Prop where
  up : Up s
  mem : ∀ x ∈ s, 0 <= x /\ x < o.length
  len : s.length + k = o.length
/-! sums in 64 bits -/
theorem v_addu (x y : Int) : arithV .add (.int .u64 x) (.int .u64 y) = .int .u64 (IntKind.u64.wrap (x + y)) := (rfl)
theorem p_addu (P : Program) (t : TypeId) (x y : Int) : arithP P t .add (.int .u64 x) (.int .u64 y) = True := by show (_ = _) = _; simp
/-! the number of bits, as the library reckons it -/
def s1 (b : Nat) : Nat := ((b / 2) &&& 6148914691236517205) + (b &&& 6148914691236517205)
def s2 (b : Nat) : Nat := ((s1 b / 4) &&& 3689348814741910323) + (s1 b &&& 3689348814741910323)
def s3 (b : Nat) : Nat := (s2 b / 16 + s2 b) &&& 1085102592571150095
def s4 (b : Nat) : Nat := s3 b + s3 b / 256
def s5 (b : Nat) : Nat := s4 b + s4 b / 65536
def s6 (b : Nat) : Nat := s5 b + s5 b / 4294967296
theorem wrap_nat {x : Nat} (h : x < 18446744073709551616) : IntKind.u64.wrap (x : Int) = x := by
  have : IntKind.u64.wrap (x : Int) = (x : Int) % (2 ^ 64 : Int) := rfl
  rw [this]; omega
end Go.Vc
namespace Go.Proofs.YteefjdbdknkcjaaGreatDoor
open Go.Vc
set_option maxRecDepth 100000
set_option linter.unusedSimpArgs false
set_option linter.unusedVariables false

end Go.Proofs.YteefjdbdknkcjaaGreatDoor
namespace Go.Proofs.YteefjdbdknkcjaaGreatDoor
open Go.Vc
set_option maxRecDepth 100000
set_option maxHeartbeats 1600000
set_option linter.unusedSimpArgs false
set_option linter.unusedVariables false

def In99 (xs : List Int) : Prop := ∀ x ∈ xs, 0 <= x /\ x <= 99
theorem In99.nil : In99 [] := fun x hx => by cases hx
theorem In99.snoc {xs : List Int} (h : In99 xs) {n : Int} (hn : 0 <= n /\ n <= 99) : In99 (xs ++ [n]) := fun x hx => by
  rcases List.mem_append.1 hx with hx | hx
  · exact h x hx
  · rw [List.mem_singleton] at hx; subst hx; exact hn
def RowsIn (n : Nat) (D : List (List Int)) : Prop := ∀ r ∈ D, r.length = n /\ In99 r
theorem RowsIn.nil (n : Nat) : RowsIn n [] := fun x hx => by cases hx
theorem RowsIn.snoc {n : Nat} {D : List (List Int)} (h : RowsIn n D) {r : List Int} (hl : r.length = n) (hr : In99 r) : RowsIn n (D ++ [r]) := fun x hx => by
  rcases List.mem_append.1 hx with hx | hx
  · exact h x hx
  · rw [List.mem_singleton] at hx; subst hx; exact ⟨hl, hr⟩
theorem In99.set {xs : List Int} (h : In99 xs) (k : Nat) {n : Int} (hn : 0 <= n /\ n <= 99) : In99 (xs.set k n) := fun x hx => by
  rcases List.mem_or_eq_of_mem_set hx with hx | hx
  · exact h x hx
  · subst hx; exact hn
theorem RowsIn.at {n : Nat} {D : List (List Int)} (h : RowsIn n D) {i : Nat} (hi : i < D.length) : (ix D (i : Int)).length = n /\ In99 (ix D (i : Int)) := h _ (ix_mem D hi)
theorem RowsIn.upd {n : Nat} {D : List (List Int)} (h : RowsIn n D) {i : Nat} (hi : i < D.length) (k : Nat) {v : Int} (hv : 0 <= v /\ v <= 99) : RowsIn n (D.set i ((ix D (i : Int)).set k v)) := fun x hx => by
  rcases List.mem_or_eq_of_mem_set hx with hx | hx
  · exact h x hx
  · subst hx; exact ⟨by rw [List.length_set]; exact (h.at hi).1, (h.at hi).2.set k hv⟩
theorem rows_of {o : List Int} {d : List (List Int)} (h : FieldOK o d) : RowsIn o.length d := fun r hr => ⟨h.len r hr, h.d99 r hr⟩
theorem field_of {o : List Int} {d : List (List Int)} (h1 : 1 <= o.length) (h7 : o.length <= 7) (ho : In99 o) (hd : d.length <= 7) (hr : RowsIn o.length d) : FieldOK o d :=
  ⟨h1, h7, ho, hd, fun r hm => (hr r hm).1, fun r hm => (hr r hm).2⟩
theorem len_snoc {α : Type} (xs : List α) (x : α) : (xs ++ [x]).length = xs.length + 1 := by simp
theorem fork2 {A B : Prop} [Decidable A] [Decidable B] {X Y : Prop} (hx : A -> B -> X) (hy : ¬ (A /\ B) -> Y) : forkP A (forkP B X Y) Y :=
  fork_intro (fun h1 => fork_intro (fun h2 => hx h1 h2) (fun h2 => hy (fun h => h2 h.2))) (fun h1 => hy (fun h => h1 h.1))
def g_rawD : List AV -> Heap -> Prop × (Z -> Prop × AV × Heap)
  | [.bx 0 0, .int .i64 most], [(0, .box [.bytes code, .int .i64 a, .int .u64 s])] => (code.length <= 1000000000 /\ (0 <= a /\ a <= 1000000000000 - 1000) /\ 1 <= most /\ most <= 7, fun z => (FieldOK z.xs z.xss /\ a <= z.a /\ z.a <= a + 300, .agg [.sl 3, .mt 4], [(0, .box [.bytes code, .int .i64 z.a, .int .u64 z.s]), (3, .arr (.ints z.xs)), (4, .mat z.xss)]))
  | _, _ => (False, fun _ => (False, .undef, []))
theorem g_rawD_eq (most : Int) (code : List UInt8) (a s : Int) : g_rawD [.bx 0 0, .int .i64 most] [(0, .box [.bytes code, .int .i64 a, .int .u64 s])] = (code.length <= 1000000000 /\ (0 <= a /\ a <= 1000000000000 - 1000) /\ 1 <= most /\ most <= 7, fun z => (FieldOK z.xs z.xss /\ a <= z.a /\ z.a <= a + 300, .agg [.sl 3, .mt 4], [(0, .box [.bytes code, .int .i64 z.a, .int .u64 z.s]), (3, .arr (.ints z.xs)), (4, .mat z.xss)])) := (rfl)
theorem rawD_ok (most : Int) (code : List UInt8) (a s : Int) (hp : code.length <= 1000000000 /\ (0 <= a /\ a <= 1000000000000 - 1000) /\ 1 <= most /\ most <= 7) : SpecZ Tryz.prog 64 [.bx 0 0, .int .i64 most] [(0, .box [.bytes code, .int .i64 a, .int .u64 s])] 1 (fun z => (FieldOK z.xs z.xss /\ a <= z.a /\ z.a <= a + 300, .agg [.sl 3, .mt 4], [(0, .box [.bytes code, .int .i64 z.a, .int .u64 z.s]), (3, .arr (.ints z.xs)), (4, .mat z.xss)])) := by
  refine fun_okZ (C := t_pickD ++ t_amongD) (hint := hintX [4, 7, 51] [(2, [.post, .upf 7 0 (.arr (.ints [])), .upf 7 1 (.mat [])]), (7, [.cut [0, 1, 4, 6, 7, 8]]), (16, [.cut [0, 4, 7]])] 1 [41, 1000041, 34, 1000034] [] [(6, [2, 3, 0, 1, 4, 5, 6, 7, 8])] [(6, [2, 4, 2])]) ((t_pickD_ok).append t_amongD_ok) mixed Tryz.func64 rfl (by kernel_rfl) rfl (Nat.le_refl _) (by decide) (upTo_look (k := 1) rfl) ?_
  show codeA _ _ _ _ _ _ _ _
  simp only [go_sem, Tryz.results64]
  obtain ⟨hc, ha, hm1, hm7⟩ := hp
  refine ⟨⟨hc, by omega⟩, fun z1 h1 => ⟨⟨hc, by omega⟩, fun z2 h2 => ⟨⟨hc, by omega⟩, fun z3 h3 => ?_⟩⟩⟩
  simp only [List.mem_cons, List.not_mem_nil, or_false] at h1 h2 h3
  refine loop_intro (fun g : List Int × Int × Int => [(9, .int .i64 g.1.length), (5, .int .i64 z1.n), (1, .int .i64 most), (7, .bx 2 0), (0, .bx 0 0), (8, .int .i64 z3.n), (6, .int .i64 z2.n), (4, .bx 1 0)]) (fun g => [(0, .box [.bytes code, .int .i64 g.2.1, .int .u64 g.2.2]), (1, .box [.nils, .nils]), (2, .box [.sl 3, .mt 4]), (3, .arr (.ints g.1)), (4, .mat [])]) 5 (fun g => (g.1.length <= 7 /\ (g.1.length : Int) <= z1.n /\ (g.1.length : Int) <= most /\ a <= g.2.1 /\ g.2.1 <= a + 6 + 2 * g.1.length) /\ In99 g.1) (fun g => 7 - g.1.length) ([], z3.a, z3.s) ⟨⟨by simp, by simp; omega, by simp; omega, by dsimp only; omega, by simp; omega⟩, .nil⟩ (by omega) ?_ ?_
  · simp only [go_sem]
    rfl
  · rintro ⟨xs, a1, s1⟩ ⟨hx, hx99⟩
    simp only at hx hx99
    simp only [go_sem]
    refine fork2 (fun q1 q2 => ?_) (fun hq => stop_intro ?_)
    · refine ⟨⟨hc, by omega, by omega⟩, fun z hz => ⟨by omega, by omega, ?_⟩⟩
      refine LoopEnd.intro (xs ++ [z.n], z.a, z.s) ?_ ?_ (by omega) ?_
      · refine ⟨?_, hx99.snoc (by omega)⟩
        simp only [len_snoc]; omega
      · simp only [len_snoc]; omega
      · simp only [go_sem, len_snoc, Int.natCast_add, Int.natCast_one]
    · have hl1 : 1 <= xs.length := by omega
      simp only [go_sem]
      refine loop_intro (fun g : List (List Int) × Int × Int => [(10, .int .i64 g.1.length), (1, .int .i64 most), (7, .bx 2 0), (0, .bx 0 0), (8, .int .i64 z3.n), (6, .int .i64 z2.n), (4, .bx 1 0)]) (fun g => [(0, .box [.bytes code, .int .i64 g.2.1, .int .u64 g.2.2]), (1, .box [.nils, .nils]), (2, .box [.sl 3, .mt 4]), (3, .arr (.ints xs)), (4, .mat g.1)]) 5 (fun g => (g.1.length <= 7 /\ (g.1.length : Int) <= z2.n /\ (g.1.length : Int) <= most /\ a <= g.2.1 /\ g.2.1 <= a + 20 + 14 * g.1.length) /\ RowsIn xs.length g.1) (fun g => 7 - g.1.length) ([], a1, s1) ⟨⟨by simp, by simp; omega, by simp; omega, by dsimp only; omega, by simp; omega⟩, .nil _⟩ (by omega) ?_ ?_
      · simp only [go_sem]
        rfl
      · rintro ⟨D, a2, s2⟩ ⟨hD, hDr⟩
        simp only at hD hDr
        simp only [go_sem]
        refine fork2 (fun q1 q2 => ?_) (fun hq => stop_intro ?_)
        · refine loop_intro (fun g : List Int × Int × Int => [(12, .int .i64 g.1.length), (11, .sl 5), (10, .int .i64 D.length), (1, .int .i64 most), (7, .bx 2 0), (0, .bx 0 0), (8, .int .i64 z3.n), (6, .int .i64 z2.n), (4, .bx 1 0)]) (fun g => [(0, .box [.bytes code, .int .i64 g.2.1, .int .u64 g.2.2]), (1, .box [.nils, .nils]), (2, .box [.sl 3, .mt 4]), (3, .arr (.ints xs)), (4, .mat D), (5, .arr (.ints g.1))]) 6 (fun g => (g.1.length <= xs.length /\ a <= g.2.1 /\ g.2.1 <= a2 + 2 * g.1.length) /\ In99 g.1) (fun g => 7 - g.1.length) ([], a2, s2) ⟨⟨by simp, by dsimp only; omega, by simp⟩, .nil⟩ (by omega) ?_ ?_
          · simp only [go_sem]
            rfl
          · rintro ⟨r, a3, s3⟩ ⟨hr, hr99⟩
            simp only at hr hr99
            simp only [go_sem]
            refine fork_intro (fun q3 => ?_) (fun q3 => ?_)
            · refine ⟨⟨hc, by omega, by omega⟩, fun z hz => ⟨by omega, by omega, ?_⟩⟩
              refine LoopEnd.intro (r ++ [z.n], z.a, z.s) ?_ ?_ (by omega) ?_
              · refine ⟨?_, hr99.snoc (by omega)⟩
                simp only [len_snoc]; omega
              · simp only [len_snoc]; omega
              · simp only [go_sem, len_snoc, Int.natCast_add, Int.natCast_one]
            · have hrl : r.length = xs.length := by omega
              refine ⟨by omega, by omega, LoopEnd.intro (D ++ [r], a3, s3) ?_ ?_ (by omega) ?_⟩
              · refine ⟨?_, hDr.snoc hrl hr99⟩
                simp only [len_snoc]; omega
              · simp only [len_snoc]; omega
              · simp only [go_sem, len_snoc, Int.natCast_add, Int.natCast_one]
        · simp only [go_sem]
          exact ⟨{ xs := xs, xss := D, a := a2, s := s2 }, ⟨field_of hl1 hx.1 hx99 hD.1 hDr, (by dsimp only; omega)⟩, ⟨rfl, rfl⟩, rfl, rfl⟩
def t_rawD : Table := [(64, zC 1 1 g_rawD)]
theorem t_rawD_ok : TabOK Tryz.prog t_rawD := .cons Tryz.func64 (by kernel_rfl) (.z (by decide) (by intro args pre _ hp; unfold g_rawD at hp ⊢; split at hp <;> first | exact hp.elim | exact ⟨fun z hz => ⟨rfl, shape_box _ _ rfl rfl rfl⟩, rawD_ok _ _ _ _ hp⟩)) (.nil _)
attribute [go_sem] g_rawD_eq t_rawD
def g_lineD : List AV -> Heap -> Prop × (Z -> Prop × AV × Heap)
  | [.bx 0 0, .int .i64 most], [(0, .box [.bytes code, .int .i64 a, .int .u64 s])] => (code.length <= 1000000000 /\ (0 <= a /\ a <= 1000000000000 - 1000) /\ 1 <= most /\ most <= 7, fun z => (FieldOK z.xs z.xss /\ a <= z.a /\ z.a <= a + 400, .agg [.sl 4, .mt 5], [(0, .box [.bytes code, .int .i64 z.a, .int .u64 z.s]), (4, .arr (.ints z.xs)), (5, .mat z.xss)]))
  | _, _ => (False, fun _ => (False, .undef, []))
theorem g_lineD_eq (most : Int) (code : List UInt8) (a s : Int) : g_lineD [.bx 0 0, .int .i64 most] [(0, .box [.bytes code, .int .i64 a, .int .u64 s])] = (code.length <= 1000000000 /\ (0 <= a /\ a <= 1000000000000 - 1000) /\ 1 <= most /\ most <= 7, fun z => (FieldOK z.xs z.xss /\ a <= z.a /\ z.a <= a + 400, .agg [.sl 4, .mt 5], [(0, .box [.bytes code, .int .i64 z.a, .int .u64 z.s]), (4, .arr (.ints z.xs)), (5, .mat z.xss)])) := (rfl)
theorem lineD_ok (most : Int) (code : List UInt8) (a s : Int) (hp : code.length <= 1000000000 /\ (0 <= a /\ a <= 1000000000000 - 1000) /\ 1 <= most /\ most <= 7) : SpecZ Tryz.prog 65 [.bx 0 0, .int .i64 most] [(0, .box [.bytes code, .int .i64 a, .int .u64 s])] 1 (fun z => (FieldOK z.xs z.xss /\ a <= z.a /\ z.a <= a + 400, .agg [.sl 4, .mt 5], [(0, .box [.bytes code, .int .i64 z.a, .int .u64 z.s]), (4, .arr (.ints z.xs)), (5, .mat z.xss)])) := by
  refine fun_okZ (C := t_pickD ++ t_rawD ++ t_most2) (hint := hintX [4, 5, 14] [] 1 [41, 1000041, 64, 1000064] [] [] []) (((t_pickD_ok).append t_rawD_ok).append t_most2_ok) mixed Tryz.func65 rfl (by kernel_rfl) rfl (Nat.le_refl _) (by decide) (upTo_look (k := 1) rfl) ?_
  show codeA _ _ _ _ _ _ _ _
  simp only [go_sem, Tryz.results65]
  obtain ⟨hc, ha, hm1, hm7⟩ := hp
  refine ⟨⟨hc, by omega, hm1, hm7⟩, fun z1 h1 => ?_⟩
  have hf := h1.1
  have hn1 := hf.n1
  have hn7 := hf.n7
  have hd7 := hf.m7
  refine loop_intro (fun g : List Int × Int × Int => [(7, .int .i64 g.1.length), (6, .sl 6), (5, .bx 7 0), (0, .bx 0 0), (4, .bx 1 0)]) (fun g => [(0, .box [.bytes code, .int .i64 g.2.1, .int .u64 g.2.2]), (1, .box [.nils, .nils]), (4, .arr (.ints z1.xs)), (5, .mat z1.xss), (6, .arr (.ints g.1)), (7, .box [.sl 4, .mt 5])]) 8 (fun g => (g.1.length <= z1.xs.length /\ a <= g.2.1 /\ g.2.1 <= a + 300 + 2 * g.1.length) /\ ∀ x ∈ g.1, 0 <= x /\ x <= 19) (fun g => 7 - g.1.length) ([], z1.a, z1.s) ⟨⟨by simp, by dsimp only; omega, by simp; omega⟩, fun x hx => by cases hx⟩ (by omega) ?_ ?_
  · simp only [go_sem]
    rfl
  · rintro ⟨ps, a1, s1⟩ ⟨hx, hx19⟩
    simp only at hx hx19
    simp only [go_sem]
    refine fork_intro (fun q1 => ?_) (fun q1 => ?_)
    · refine ⟨⟨hc, by omega⟩, fun z hz => ⟨by omega, by omega, ?_⟩⟩
      refine LoopEnd.intro (ps ++ [z.n], z.a, z.s) ?_ ?_ (by omega) ?_
      · refine ⟨?_, fun x hx => ?_⟩
        · simp only [len_snoc]; omega
        · rcases List.mem_append.1 hx with hx | hx
          · exact hx19 x hx
          · rw [List.mem_singleton] at hx; subst hx; omega
      · simp only [len_snoc]; omega
      · simp only [go_sem, len_snoc, Int.natCast_add, Int.natCast_one]
    · have hpl : ps.length = z1.xs.length := by omega
      have h19 : ∀ k : Nat, k < ps.length -> 0 <= ix ps (k : Int) /\ ix ps (k : Int) <= 19 := fun k hk => hx19 _ (ix_mem ps hk)
      refine loop_intro (fun g : Nat × List (List Int) × Int × Int => [(8, .int .i64 g.1), (6, .sl 6), (5, .bx 7 0), (0, .bx 0 0), (4, .bx 1 0)]) (fun g => [(0, .box [.bytes code, .int .i64 g.2.2.1, .int .u64 g.2.2.2]), (1, .box [.nils, .nils]), (4, .arr (.ints z1.xs)), (5, .mat g.2.1), (6, .arr (.ints ps)), (7, .box [.sl 4, .mt 5])]) 8 (fun g => (g.1 <= z1.xss.length /\ g.2.1.length = z1.xss.length /\ a <= g.2.2.1 /\ g.2.2.1 <= a + 320 + 2 * g.1) /\ RowsIn z1.xs.length g.2.1) (fun g => 7 - g.1) (0, z1.xss, a1, s1) ⟨⟨by simp, rfl, by dsimp only; omega, by dsimp only; omega⟩, rows_of hf⟩ (by omega) ?_ ?_
      · simp only [go_sem]
        rfl
      · rintro ⟨i, D, a2, s2⟩ ⟨hD, hDr⟩
        simp only at hD hDr
        simp only [go_sem]
        refine fork_intro (fun q2 => ?_) (fun q2 => ?_)
        · refine ⟨⟨hc, by omega⟩, fun z hz => ?_⟩
          refine loop_intro (fun g : Nat × List (List Int) => [(10, .int .i64 g.1), (9, .int .i64 z.n), (8, .int .i64 i), (6, .sl 6), (5, .bx 7 0), (0, .bx 0 0), (4, .bx 1 0)]) (fun g => [(0, .box [.bytes code, .int .i64 z.a, .int .u64 z.s]), (1, .box [.nils, .nils]), (4, .arr (.ints z1.xs)), (5, .mat g.2), (6, .arr (.ints ps)), (7, .box [.sl 4, .mt 5])]) 8 (fun g => (g.1 <= z1.xs.length /\ g.2.length = z1.xss.length) /\ RowsIn z1.xs.length g.2) (fun g => 7 - g.1) (0, D) ⟨⟨by simp, hD.2.1⟩, hDr⟩ (by omega) ?_ ?_
          · simp only [go_sem]
            rfl
          · rintro ⟨k, E⟩ ⟨hE, hEr⟩
            simp only at hE hEr
            simp only [go_sem]
            refine fork_intro (fun q3 => ?_) (fun q3 => ?_)
            · have hrow := hEr.at (i := i) (by omega)
              have hpk := h19 k (by omega)
              refine ⟨by omega, by omega, by omega, by omega, by omega, by omega, by omega, ?_⟩
              refine LoopEnd.intro (k + 1, E.set i ((ix E (i : Int)).set k (max (z.n - ix ps (k : Int)) (ix ps (k : Int) - z.n)))) ?_ ?_ (by omega) ?_
              · exact ⟨⟨by dsimp only; omega, by dsimp only; rw [List.length_set]; exact hE.2⟩, hEr.upd (by omega) k (by omega)⟩
              · dsimp only; omega
              · simp only [go_sem, Int.natCast_add, Int.natCast_one]
            · refine ⟨by omega, ?_⟩
              refine LoopEnd.intro (i + 1, E, z.a, z.s) ?_ ?_ (by omega) ?_
              · exact ⟨by dsimp only; omega, hEr⟩
              · dsimp only; omega
              · simp only [go_sem, Int.natCast_add, Int.natCast_one]
        · exact ⟨{ xs := z1.xs, xss := D, a := a2, s := s2 }, ⟨field_of hn1 hn7 hf.o99 (show D.length <= 7 by omega) hDr, (by dsimp only; omega)⟩, ⟨rfl, rfl⟩, rfl, rfl⟩
def t_lineD : Table := [(65, zC 1 1 g_lineD)]
theorem t_lineD_ok : TabOK Tryz.prog t_lineD := .cons Tryz.func65 (by kernel_rfl) (.z (by decide) (by intro args pre _ hp; unfold g_lineD at hp ⊢; split at hp <;> first | exact hp.elim | exact ⟨fun z hz => ⟨rfl, shape_box _ _ rfl rfl rfl⟩, lineD_ok _ _ _ _ hp⟩)) (.nil _)
attribute [go_sem] g_lineD_eq t_lineD
def Bdd (o : List Int) (d : List (List Int)) : Prop := o.length <= 1000 /\ d.length <= 1000 /\ ∀ x ∈ d, x.length <= 1000
theorem bdd_of {o : List Int} {d : List (List Int)} (h : FieldOK o d) : Bdd o d := ⟨by have := h.n7; omega, by have := h.m7; omega, fun x hx => by rw [h.len x hx]; have := h.n7; omega⟩
theorem zfinS {o : List Int} {d : List (List Int)} {a0 a s : Int} (h : Bdd o d) (ha : a0 <= a /\ a <= a0 + 100) : ∃ z : Z, (Bdd z.xs z.xss /\ a0 <= z.a /\ z.a <= a0 + 100) /\ (AV.int .i64 a = AV.int .i64 z.a /\ AV.int .u64 s = AV.int .u64 z.s) /\ AV.ints o = AV.ints z.xs /\ d = z.xss := ⟨{ xs := o, xss := d, a := a, s := s }, ⟨h, ha⟩, ⟨rfl, rfl⟩, rfl, rfl⟩
def g_spoiltD : List AV -> Heap -> Prop × (Z -> Prop × AV × Heap)
  | [.bx 0 0, .agg [.sl 1, .mt 2]], [(0, .box [.bytes code, .int .i64 a, .int .u64 s]), (1, .arr (.ints o)), (2, .mat d)] => (code.length <= 1000000000 /\ (0 <= a /\ a <= 1000000000000 - 1000) /\ FieldOK o d, fun z => (Bdd z.xs z.xss /\ a <= z.a /\ z.a <= a + 100, .agg [.sl 5, .mt 6], [(0, .box [.bytes code, .int .i64 z.a, .int .u64 z.s]), (5, .arr (.ints z.xs)), (6, .mat z.xss)]))
  | _, _ => (False, fun _ => (False, .undef, []))
theorem g_spoiltD_eq (o : List Int) (d : List (List Int)) (code : List UInt8) (a s : Int) : g_spoiltD [.bx 0 0, .agg [.sl 1, .mt 2]] [(0, .box [.bytes code, .int .i64 a, .int .u64 s]), (1, .arr (.ints o)), (2, .mat d)] = (code.length <= 1000000000 /\ (0 <= a /\ a <= 1000000000000 - 1000) /\ FieldOK o d, fun z => (Bdd z.xs z.xss /\ a <= z.a /\ z.a <= a + 100, .agg [.sl 5, .mt 6], [(0, .box [.bytes code, .int .i64 z.a, .int .u64 z.s]), (5, .arr (.ints z.xs)), (6, .mat z.xss)])) := (rfl)
theorem spoiltD_ok (o : List Int) (d : List (List Int)) (code : List UInt8) (a s : Int) (hp : code.length <= 1000000000 /\ (0 <= a /\ a <= 1000000000000 - 1000) /\ FieldOK o d) : SpecZ Tryz.prog 63 [.bx 0 0, .agg [.sl 1, .mt 2]] [(0, .box [.bytes code, .int .i64 a, .int .u64 s]), (1, .arr (.ints o)), (2, .mat d)] 1 (fun z => (Bdd z.xs z.xss /\ a <= z.a /\ z.a <= a + 100, .agg [.sl 5, .mt 6], [(0, .box [.bytes code, .int .i64 z.a, .int .u64 z.s]), (5, .arr (.ints z.xs)), (6, .mat z.xss)])) := by
  refine fun_okZ (C := t_pickD ++ t_amongD ++ t_ownI) (hint := hintX [3, 4, 59] [(16, [.drop [1, 2, 3] 5, .post, .upf 4 0 (.arr (.ints [])), .upf 4 1 (.mat [])]), (17, [.skip, .skip, .mv 1 5, .mv 2 6])] 1 [41, 1000041, 34, 1000034] [] [(6, [3, 4, 0, 1, 2, 5, 6, 7]), (9, [5, 6, 0, 1, 2, 3, 4, 7, 8, 9])] [(6, [2, 5, 1]), (9, [2, 7, 1])]) (((t_pickD_ok).append t_amongD_ok).append t_ownI_ok) mixed Tryz.func63 rfl (by kernel_rfl) rfl (Nat.le_refl _) (by decide) (upTo_look (k := 3) rfl) ?_
  show codeA _ _ _ _ _ _ _ _
  simp only [go_sem, Tryz.results63]
  obtain ⟨hc, ha, hf⟩ := hp
  have hn1 := hf.n1
  have hn7 := hf.n7
  have hd7 := hf.m7
  have hb := bdd_of hf
  have hset : ∀ (k : Nat) (v : Int), Bdd (o.set k v) d := fun k v => ⟨by rw [List.length_set]; exact hb.1, hb.2⟩
  refine fork_intro (fun h => by omega) (fun _ => ⟨⟨hc, by omega, by omega⟩, fun z hz => ⟨⟨hc, by omega, by omega⟩, fun z1 hz1 => ?_⟩⟩)
  refine fork_intro (fun _ => ⟨⟨hc, by omega⟩, fun z2 hz2 => ⟨by omega, rfl, rfl, zfinS (hset _ _) (by omega)⟩⟩) (fun _ => fork_intro (fun _ => fork_intro (fun hd => ?_) (fun _ => ⟨rfl, rfl, zfinS hb (by omega)⟩)) (fun _ => ?_))
  · have hl : (ix d 0).length = o.length := hf.len _ (ix_memI d (by omega) (by omega))
    refine ⟨by omega, by omega, ⟨hc, by omega⟩, fun z2 hz2 => ⟨by omega, by omega, rfl, rfl, zfinS ⟨hb.1, by rw [List.length_set]; exact hb.2.1, fun x hx => ?_⟩ (by omega)⟩⟩
    rcases List.mem_or_eq_of_mem_set hx with hx | hx
    · exact hb.2.2 x hx
    · subst hx; rw [List.length_set]; omega
  · refine fork_intro (fun _ => ⟨by omega, rfl, rfl, zfinS ⟨by simp; omega, hb.2⟩ (by omega)⟩) (fun _ => fork_intro (fun _ => ?_) (fun _ => fork_intro (fun _ => zfinS ⟨by simp, by simp, fun x hx => by cases hx⟩ (by omega)) (fun _ => ⟨rfl, rfl, zfinS hb (by omega)⟩)))
    refine loop_intro (fun g : List (List Int) => [(3, .bx 3 0), (4, .bx 4 0), (0, .bx 0 0)]) (fun g => [(4, .box [.nils, .nils]), (3, .box [.sl 1, .mt 2]), (0, .box [.bytes code, .int .i64 z1.a, .int .u64 z1.s]), (1, .arr (.ints o)), (2, .mat g)]) 5 (fun g => g.length <= 8 /\ ∀ x ∈ g, x.length <= 1000) (fun g => 8 - g.length) d ⟨by omega, hb.2.2⟩ (by omega) ?_ ?_
    · simp only [go_sem]
    · rintro D ⟨hD, hDr⟩
      simp only [go_sem]
      refine fork_intro (fun q1 => ?_) (fun q1 => ⟨rfl, rfl, zfinS ⟨hb.1, by omega, hDr⟩ (by omega)⟩)
      refine ⟨by omega, by omega, LoopEnd.intro (D ++ [o]) ?_ ?_ (by omega) ?_⟩
      · refine ⟨by rw [len_snoc]; omega, fun x hx => ?_⟩
        rcases List.mem_append.1 hx with hx | hx
        · exact hDr x hx
        · rw [List.mem_singleton] at hx; subst hx; omega
      · rw [len_snoc]; omega
      · simp only [go_sem]
def t_spoiltD : Table := [(63, zC 3 1 g_spoiltD)]
theorem t_spoiltD_ok : TabOK Tryz.prog t_spoiltD := .cons Tryz.func63 (by kernel_rfl) (.z (by decide) (by intro args pre _ hp; unfold g_spoiltD at hp ⊢; split at hp <;> first | exact hp.elim | exact ⟨fun z hz => ⟨rfl, shape_box _ _ rfl rfl rfl⟩, spoiltD_ok _ _ _ _ _ hp⟩)) (.nil _)
attribute [go_sem] g_spoiltD_eq t_spoiltD
end Go.Proofs.YteefjdbdknkcjaaGreatDoor
namespace Go.Vc
set_option linter.unusedSimpArgs false
set_option linter.unusedVariables false

/-! sums over lists of sites -/
def sumL (f : Int -> Int) : List Int -> Int
  | [] => 0
  | x :: r => f x + sumL f r
theorem pay_sumL (o : List Int) : ∀ xs : List Int, pay o xs = sumL (fun a => ix o a) xs
  | [] => rfl
  | x :: r => by
    have e : pay o (x :: r) = ix o x + pay o r := by simp [pay]
    rw [e, pay_sumL o r]; rfl
theorem sumL_sub (f g : Int -> Int) : ∀ xs : List Int, sumL (fun x => f x - g x) xs = sumL f xs - sumL g xs
  | [] => rfl
  | x :: r => by simp only [sumL]; rw [sumL_sub f g r]; omega
theorem sumL_nn {f : Int -> Int} : ∀ {xs : List Int}, (∀ x ∈ xs, 0 <= f x) -> 0 <= sumL f xs
  | [], _ => Int.le_refl _
  | x :: r, h => by
    have h1 := h x List.mem_cons_self
    have h2 := sumL_nn (xs := r) (fun y hy => h y (List.mem_cons_of_mem _ hy))
    simp only [sumL]; omega
theorem sumL_get {f : Int -> Int} : ∀ {xs : List Int}, (∀ x ∈ xs, 0 <= f x) -> ∀ {a : Int}, a ∈ xs -> f a <= sumL f xs
  | [], _, a, ha => by cases ha
  | x :: r, h, a, ha => by
    have h1 := h x List.mem_cons_self
    have h3 : ∀ y ∈ r, 0 <= f y := fun y hy => h y (List.mem_cons_of_mem _ hy)
    have h2 := sumL_nn h3
    simp only [sumL]
    rcases List.mem_cons.1 ha with rfl | ha
    · omega
    · have := sumL_get h3 ha; omega
theorem sumL_sumN (g : Int -> Nat -> Int) (m : Nat) : ∀ xs : List Int, sumL (fun a => sumN (g a) m) xs = sumN (fun j => sumL (fun a => g a j) xs) m
  | [] => (sumN_zero (fun _ _ => rfl)).symm
  | x :: r => by
    simp only [sumL]
    rw [sumN_add, sumL_sumN g m r]
theorem sumN_sub (f g : Nat -> Int) : ∀ n : Nat, sumN (fun i => f i - g i) n = sumN f n - sumN g n
  | 0 => rfl
  | n + 1 => by simp only [sumN]; rw [sumN_sub f g n]; omega
theorem sumN_nn {f : Nat -> Int} : ∀ {n : Nat}, (∀ i, i < n -> 0 <= f i) -> 0 <= sumN f n
  | 0, _ => Int.le_refl _
  | n + 1, h => by
    have h1 := sumN_nn (n := n) (fun i hi => h i (by omega))
    have h2 := h n (by omega)
    simp only [sumN]; omega
/-! the server is nearest -/
/-! the total less the prices -/
theorem sum_ix (ps : List Int) : ps.sum = sumN (fun j => ix ps (j : Int)) ps.length := by
  have h := sum_tab (fun j => ix ps (j : Int)) ps.length
  rw [tab_of] at h; exact h
def dueS (o : List Int) (d : List (List Int)) (ps : List Int) (a : Int) : Int := ix o a - clm d ps 1 a
def dueC (d : List (List Int)) (ps set : List Int) (j : Nat) : Int := near (ix d (j : Int)) set - ix ps (j : Int) + sumL (fun a => clmT d ps 1 a j) set
theorem gap_split {o : List Int} {d : List (List Int)} {ps : List Int} (hl : ps.length = d.length) (set : List Int) :
    total o d set - ps.sum = sumL (dueS o d ps) set + sumN (dueC d ps set) d.length := by
  have e1 : sumL (dueS o d ps) set = pay o set - sumL (fun a => clm d ps 1 a) set := by rw [pay_sumL]; exact sumL_sub _ _ set
  have e2 : sumL (fun a => clm d ps 1 a) set = sumN (fun j => sumL (fun a => clmT d ps 1 a j) set) d.length := by
    unfold clm; rw [hl]; exact sumL_sumN _ _ _
  have e3 : sumN (dueC d ps set) d.length = svc d set - ps.sum + sumN (fun j => sumL (fun a => clmT d ps 1 a j) set) d.length := by
    unfold dueC
    rw [sumN_add, sumN_sub, sum_ix ps, hl]; rfl
  unfold total
  omega
theorem dueC_nn {o : List Int} {d : List (List Int)} {ps set : List Int} (h : OpenOK o d set) (j : Nat) : 0 <= dueC d ps set j := by
  have h1 := sumL_get (f := fun a => clmT d ps 1 a j) (xs := set) (fun x _ => clmT_nn _ _ _ _ _) (srv_mem (ix d (j : Int)) h.pos)
  have h2 : ix ps (j : Int) - near (ix d (j : Int)) set <= clmT d ps 1 (srv (ix d (j : Int)) set) j := by
    unfold clmT near; omega
  unfold dueC
  omega
section
variable {o : List Int} {d : List (List Int)} {ps set : List Int}
theorem fair_due (hf : fairB o d ps = true) {a : Int} (h0 : 0 <= a) (h1 : a < o.length) : 0 <= dueS o d ps a := by
  have := of_decide_eq_true (allN_iff.1 hf a.toNat (by omega))
  rw [show ((a.toNat : Nat) : Int) = a by omega] at this
  unfold dueS; omega
theorem due_set (h : OpenOK o d set) (hf : fairB o d ps = true) : ∀ x ∈ set, 0 <= dueS o d ps x := fun x hx => by
  obtain ⟨k, hk, rfl⟩ := mem_ix hx
  exact fair_due hf (h.xin k hk).1 (h.xin k hk).2
theorem gap_nn (h : OpenOK o d set) (hl : ps.length = d.length) (hf : fairB o d ps = true) : ps.sum <= total o d set := by
  have e := gap_split (o := o) hl set
  have h1 := sumL_nn (due_set h hf)
  have h2 := sumN_nn (f := dueC d ps set) (n := d.length) (fun j _ => dueC_nn h j)
  omega
end

/-! the ascent ends where no price can be raised -/
end Go.Vc
namespace Go.Proofs.YteefjdbdknkcjaaGreatDoor
open Go.Vc
set_option maxRecDepth 100000
set_option maxHeartbeats 1600000
set_option linter.unusedSimpArgs false
set_option linter.unusedVariables false

def g_fieldOfD : List AV -> Heap -> Prop × (Z -> Prop × AV × Heap)
  | [.bx 0 0, .int .i64 most], [(0, .box [.bytes code, .int .i64 a, .int .u64 s])] => (code.length <= 1000000000 /\ (0 <= a /\ a <= 1000000000000 - 3000) /\ 1 <= most /\ most <= 7, fun z => (Bdd z.xs z.xss /\ a <= z.a /\ z.a <= a + 1000, .agg [.sl 2, .mt 3], [(0, .box [.bytes code, .int .i64 z.a, .int .u64 z.s]), (2, .arr (.ints z.xs)), (3, .mat z.xss)]))
  | _, _ => (False, fun _ => (False, .undef, []))
theorem g_fieldOfD_eq (most : Int) (code : List UInt8) (a s : Int) : g_fieldOfD [.bx 0 0, .int .i64 most] [(0, .box [.bytes code, .int .i64 a, .int .u64 s])] = (code.length <= 1000000000 /\ (0 <= a /\ a <= 1000000000000 - 3000) /\ 1 <= most /\ most <= 7, fun z => (Bdd z.xs z.xss /\ a <= z.a /\ z.a <= a + 1000, .agg [.sl 2, .mt 3], [(0, .box [.bytes code, .int .i64 z.a, .int .u64 z.s]), (2, .arr (.ints z.xs)), (3, .mat z.xss)])) := (rfl)
theorem fieldOfD_ok (most : Int) (code : List UInt8) (a s : Int) (hp : code.length <= 1000000000 /\ (0 <= a /\ a <= 1000000000000 - 3000) /\ 1 <= most /\ most <= 7) : SpecZ Tryz.prog 39 [.bx 0 0, .int .i64 most] [(0, .box [.bytes code, .int .i64 a, .int .u64 s])] 1 (fun z => (Bdd z.xs z.xss /\ a <= z.a /\ z.a <= a + 1000, .agg [.sl 2, .mt 3], [(0, .box [.bytes code, .int .i64 z.a, .int .u64 z.s]), (2, .arr (.ints z.xs)), (3, .mat z.xss)])) := by
  refine fun_okZ (C := t_pickD ++ t_rawD ++ t_lineD ++ t_spoiltD ++ t_l2Close) (hint := hintX [4, 25] [(3, [.post, .mv 10 2, .mv 11 3]), (5, [.post, .mv 11 2, .mv 12 3]), (6, [.post, .mv 15 2, .mv 16 3])] 1 [41, 1000041, 64, 1000064, 65, 1000065, 63, 1000063] [] [] []) (((((t_pickD_ok).append t_rawD_ok).append t_lineD_ok).append t_spoiltD_ok).append t_l2Close_ok) mixed Tryz.func39 rfl (by kernel_rfl) rfl (Nat.le_refl _) (by decide) (upTo_look (k := 1) rfl) ?_
  show codeA _ _ _ _ _ _ _ _
  simp only [go_sem, Tryz.results39]
  obtain ⟨hc, ha, hm1, hm7⟩ := hp
  refine ⟨⟨hc, by omega, by omega⟩, fun z hz => fork_intro (fun _ => ?_) (fun _ => fork_intro (fun _ => ?_) (fun _ => ?_))⟩
  · exact ⟨⟨hc, by omega, hm1, hm7⟩, fun z1 h1 => ⟨⟨hc, by omega, h1.1⟩, fun z2 h2 => ⟨rfl, rfl, ⟨{ xs := z2.xs, xss := z2.xss, a := z2.a, s := z2.s }, ⟨h2.1, (by dsimp only; omega)⟩, ⟨rfl, rfl⟩, rfl, rfl⟩⟩⟩⟩
  · exact ⟨⟨hc, by omega, hm1, hm7⟩, fun z1 h1 => ⟨⟨hc, by omega, h1.1⟩, fun z2 h2 => ⟨rfl, rfl, ⟨{ xs := z2.xs, xss := z2.xss, a := z2.a, s := z2.s }, ⟨h2.1, (by dsimp only; omega)⟩, ⟨rfl, rfl⟩, rfl, rfl⟩⟩⟩⟩
  · refine ⟨⟨hc, by omega, hm1, hm7⟩, fun z1 h1 => ⟨h1.1, ⟨hc, by omega, ?_⟩, fun z2 h2 => ⟨rfl, rfl, ⟨{ xs := z2.xs, xss := z2.xss, a := z2.a, s := z2.s }, ⟨h2.1, (by dsimp only; omega)⟩, ⟨rfl, rfl⟩, rfl, rfl⟩⟩⟩⟩
    exact (closeD_ok h1.1.sh h1.1.m7 h1.1.n7).1.sh.field h1.1
def t_fieldOfD : Table := [(39, zC 1 1 g_fieldOfD)]
theorem t_fieldOfD_ok : TabOK Tryz.prog t_fieldOfD := .cons Tryz.func39 (by kernel_rfl) (.z (by decide) (by intro args pre _ hp; unfold g_fieldOfD at hp ⊢; split at hp <;> first | exact hp.elim | exact ⟨fun z hz => ⟨rfl, shape_box _ _ rfl rfl rfl⟩, fieldOfD_ok _ _ _ _ hp⟩)) (.nil _)
attribute [go_sem] g_fieldOfD_eq t_fieldOfD
def g_fieldD : List AV -> Heap -> Prop × (Z -> Prop × AV × Heap)
  | [.bx 0 0], [(0, .box [.bytes code, .int .i64 a, .int .u64 s])] => (code.length <= 1000000000 /\ (0 <= a /\ a <= 1000000000000 - 3000), fun z => (Bdd z.xs z.xss /\ a <= z.a /\ z.a <= a + 1000, .agg [.sl 3, .mt 4], [(0, .box [.bytes code, .int .i64 z.a, .int .u64 z.s]), (3, .arr (.ints z.xs)), (4, .mat z.xss)]))
  | _, _ => (False, fun _ => (False, .undef, []))
theorem g_fieldD_eq (code : List UInt8) (a s : Int) : g_fieldD [.bx 0 0] [(0, .box [.bytes code, .int .i64 a, .int .u64 s])] = (code.length <= 1000000000 /\ (0 <= a /\ a <= 1000000000000 - 3000), fun z => (Bdd z.xs z.xss /\ a <= z.a /\ z.a <= a + 1000, .agg [.sl 3, .mt 4], [(0, .box [.bytes code, .int .i64 z.a, .int .u64 z.s]), (3, .arr (.ints z.xs)), (4, .mat z.xss)])) := (rfl)
theorem fieldD_ok (code : List UInt8) (a s : Int) (hp : code.length <= 1000000000 /\ (0 <= a /\ a <= 1000000000000 - 3000)) : SpecZ Tryz.prog 33 [.bx 0 0] [(0, .box [.bytes code, .int .i64 a, .int .u64 s])] 1 (fun z => (Bdd z.xs z.xss /\ a <= z.a /\ z.a <= a + 1000, .agg [.sl 3, .mt 4], [(0, .box [.bytes code, .int .i64 z.a, .int .u64 z.s]), (3, .arr (.ints z.xs)), (4, .mat z.xss)])) := by
  refine fun_okZ (C := t_fieldOfD) (hint := hintX [2] [] 1 [39, 1000039] [] [] []) (t_fieldOfD_ok) mixed Tryz.func33 rfl (by kernel_rfl) rfl (Nat.le_refl _) (by decide) (upTo_look (k := 1) rfl) ?_
  show codeA _ _ _ _ _ _ _ _
  simp only [go_sem, Tryz.results33]
  obtain ⟨hc, ha⟩ := hp
  exact ⟨⟨hc, by omega, by omega, by omega⟩, fun z hz => ⟨{ xs := z.xs, xss := z.xss, a := z.a, s := z.s }, hz, ⟨rfl, rfl⟩, rfl, rfl⟩⟩
def t_fieldD : Table := [(33, zC 1 1 g_fieldD)]
theorem t_fieldD_ok : TabOK Tryz.prog t_fieldD := .cons Tryz.func33 (by kernel_rfl) (.z (by decide) (by intro args pre _ hp; unfold g_fieldD at hp ⊢; split at hp <;> first | exact hp.elim | exact ⟨fun z hz => ⟨rfl, shape_box _ _ rfl rfl rfl⟩, fieldD_ok _ _ _ hp⟩)) (.nil _)
attribute [go_sem] g_fieldD_eq t_fieldD
end Go.Proofs.YteefjdbdknkcjaaGreatDoor
namespace Go.Proofs.YteefjdbdknkcjaaGreatDoor
open Go.Vc
set_option maxRecDepth 100000
set_option maxHeartbeats 1600000
set_option linter.unusedSimpArgs false
set_option linter.unusedVariables false
def g_drawIsF : List AV -> Heap -> Prop × (Z -> Prop × AV × Heap)
  | [.bytes code], [] => (code.length <= 1000000000, fun z => (Bdd z.xs z.xss, .agg [.ints z.xs, .rows z.xss], []))
  | _, _ => (False, fun _ => (False, .undef, []))
theorem g_drawIsF_eq (code : List UInt8) : g_drawIsF [.bytes code] [] = (code.length <= 1000000000, fun z => (Bdd z.xs z.xss, .agg [.ints z.xs, .rows z.xss], [])) := (rfl)
theorem drawIsF_ok (code : List UInt8) (hp : code.length <= 1000000000) : SpecZ Tryz.prog 24 [.bytes code] [] 0 (fun z => (Bdd z.xs z.xss, .agg [.ints z.xs, .rows z.xss], [])) := by
  refine fun_okZ (C := t_fieldD) (hint := hintX [2, 6] [(2, [.post, .fz [8]])] 0 [33, 1000033] [] [] []) (t_fieldD_ok) mixed Tryz.func24 rfl (by kernel_rfl) rfl (Nat.le_refl _) (by decide) (upTo_look (k := 0) rfl) ?_
  show codeA _ _ _ _ _ _ _ _
  simp only [go_sem, Tryz.results24]
  exact ⟨⟨hp, by omega⟩, fun z hz => ⟨{ xs := z.xs, xss := z.xss }, hz.1, rfl, rfl⟩⟩
def t_drawIsF : Table := [(24, zC 0 0 g_drawIsF)]
theorem t_drawIsF_ok : TabOK Tryz.prog t_drawIsF := .cons Tryz.func24 (by kernel_rfl) (.z (by decide) (by intro args pre _ hp; unfold g_drawIsF at hp ⊢; split at hp <;> first | exact hp.elim | exact ⟨fun z hz => ⟨rfl, fun r hr => absurd hr (Nat.not_lt_zero _)⟩, drawIsF_ok _ hp⟩)) (.nil _)
attribute [go_sem] g_drawIsF_eq t_drawIsF
def g_drawClose : List AV -> Heap -> Prop × (Z -> Prop × AV × Heap)
  | [.bytes code], [] => (code.length <= 1000000000, fun z => (Bdd z.xs z.xss, .agg [.ints z.xs, .rows z.xss], []))
  | _, _ => (False, fun _ => (False, .undef, []))
theorem g_drawClose_eq (code : List UInt8) : g_drawClose [.bytes code] [] = (code.length <= 1000000000, fun z => (Bdd z.xs z.xss, .agg [.ints z.xs, .rows z.xss], [])) := (rfl)
theorem drawClose_ok (code : List UInt8) (hp : code.length <= 1000000000) : SpecZ Tryz.prog 5 [.bytes code] [] 0 (fun z => (Bdd z.xs z.xss, .agg [.ints z.xs, .rows z.xss], [])) := by
  refine fun_okZ (C := t_drawIsF) (hint := hintX [2] [] 0 [24, 1000024] [] [] []) (t_drawIsF_ok) mixed Tryz.func5 rfl (by kernel_rfl) rfl (Nat.le_refl _) (by decide) (upTo_look (k := 0) rfl) ?_
  show codeA _ _ _ _ _ _ _ _
  simp only [go_sem, Tryz.results5]
  exact ⟨hp, fun z hz => ⟨{ xs := z.xs, xss := z.xss }, hz, rfl, rfl⟩⟩
def t_drawClose : Table := [(5, zC 0 0 g_drawClose)]
theorem t_drawClose_ok : TabOK Tryz.prog t_drawClose := .cons Tryz.func5 (by kernel_rfl) (.z (by decide) (by intro args pre _ hp; unfold g_drawClose at hp ⊢; split at hp <;> first | exact hp.elim | exact ⟨fun z hz => ⟨rfl, fun r hr => absurd hr (Nat.not_lt_zero _)⟩, drawClose_ok _ hp⟩)) (.nil _)
attribute [go_sem] g_drawClose_eq t_drawClose
def g_drawScale : List AV -> Heap -> Prop × (Z -> Prop × AV × Heap)
  | [.bytes code], [] => (code.length <= 1000000000, fun z => (Bdd z.xs z.xss /\ -1 <= z.n /\ z.n <= 4611686018427387904, .tup [.agg [.ints z.xs, .rows z.xss], .int .i64 z.n], []))
  | _, _ => (False, fun _ => (False, .undef, []))
theorem g_drawScale_eq (code : List UInt8) : g_drawScale [.bytes code] [] = (code.length <= 1000000000, fun z => (Bdd z.xs z.xss /\ -1 <= z.n /\ z.n <= 4611686018427387904, .tup [.agg [.ints z.xs, .rows z.xss], .int .i64 z.n], [])) := (rfl)
theorem drawScale_ok (code : List UInt8) (hp : code.length <= 1000000000) : SpecZ Tryz.prog 11 [.bytes code] [] 0 (fun z => (Bdd z.xs z.xss /\ -1 <= z.n /\ z.n <= 4611686018427387904, .tup [.agg [.ints z.xs, .rows z.xss], .int .i64 z.n], [])) := by
  refine fun_okZ (C := t_fieldD ++ t_amongD) (hint := hintX [2, 7] [(2, [.post, .fz [9]])] 0 [33, 1000033, 34, 1000034] [] [] []) ((t_fieldD_ok).append t_amongD_ok) mixed Tryz.func11 rfl (by kernel_rfl) rfl (Nat.le_refl _) (by decide) (upTo_look (k := 0) rfl) ?_
  show codeA _ _ _ _ _ _ _ _
  simp only [go_sem, Tryz.results11]
  refine ⟨⟨hp, by omega⟩, fun z hz => ⟨⟨hp, by omega⟩, fun z1 h1 => ⟨{ xs := z.xs, xss := z.xss, n := z1.n }, ⟨hz.1, ?_⟩, ⟨rfl, rfl⟩, rfl⟩⟩⟩
  have h4 := h1.1
  simp only [List.mem_cons, List.not_mem_nil, or_false] at h4
  dsimp only
  omega
def t_drawScale : Table := [(11, zC 0 0 g_drawScale)]
theorem t_drawScale_ok : TabOK Tryz.prog t_drawScale := .cons Tryz.func11 (by kernel_rfl) (.z (by decide) (by intro args pre _ hp; unfold g_drawScale at hp ⊢; split at hp <;> first | exact hp.elim | exact ⟨fun z hz => ⟨rfl, fun r hr => absurd hr (Nat.not_lt_zero _)⟩, drawScale_ok _ hp⟩)) (.nil _)
attribute [go_sem] g_drawScale_eq t_drawScale
end Go.Proofs.YteefjdbdknkcjaaGreatDoor
namespace Go.Proofs.YteefjdbdknkcjaaGreatDoor
open Go.Vc
set_option maxRecDepth 100000
set_option maxHeartbeats 1600000
set_option linter.unusedSimpArgs false
set_option linter.unusedVariables false
def g_drawJoin : List AV -> Heap -> Prop × (Z -> Prop × AV × Heap)
  | [.bytes code], [] => (code.length <= 1000000000, fun z => (Bdd z.xs z.xss /\ Bdd z.ys z.yss, .tup [.agg [.ints z.xs, .rows z.xss], .agg [.ints z.ys, .rows z.yss]], []))
  | _, _ => (False, fun _ => (False, .undef, []))
theorem g_drawJoin_eq (code : List UInt8) : g_drawJoin [.bytes code] [] = (code.length <= 1000000000, fun z => (Bdd z.xs z.xss /\ Bdd z.ys z.yss, .tup [.agg [.ints z.xs, .rows z.xss], .agg [.ints z.ys, .rows z.yss]], [])) := (rfl)
theorem drawJoin_ok (code : List UInt8) (hp : code.length <= 1000000000) : SpecZ Tryz.prog 15 [.bytes code] [] 0 (fun z => (Bdd z.xs z.xss /\ Bdd z.ys z.yss, .tup [.agg [.ints z.xs, .rows z.xss], .agg [.ints z.ys, .rows z.yss]], [])) := by
  refine fun_okZ (C := t_pickD ++ t_oneD ++ t_fieldOfD ++ t_fieldD ++ t_ownI) (hint := hintX [2, 3, 5, 6, 12, 25] [(2, [.post, .fz [14], .frb 5]), (3, [.post, .upf 6 1 (.mat [])]), (13, [.post, .drop [9] 20]), (14, [.post, .fz [48]])] 0 [41, 1000041, 42, 1000042, 39, 1000039, 33, 1000033] [] [(14, [1, 0, 2, 3, 4])] [(14, [1, 2, 1]), (15, [1, 2, 1])]) (((((t_pickD_ok).append t_oneD_ok).append t_fieldOfD_ok).append t_fieldD_ok).append t_ownI_ok) mixed Tryz.func15 rfl (by kernel_rfl) rfl (Nat.le_refl _) (by decide) (upTo_look (k := 0) rfl) ?_
  show codeA _ _ _ _ _ _ _ _
  simp only [go_sem, Tryz.results15]
  refine ⟨⟨hp, by omega, by omega⟩, fun z hz => ⟨by have := hz.1.1; omega, ⟨hp, by omega, by omega⟩, fun z1 h1 => ?_⟩⟩
  obtain ⟨⟨b1, b2, b3⟩, ha⟩ := hz
  obtain ⟨hn, ha1⟩ := h1
  obtain ⟨k0, hk0⟩ : ∃ k : Nat, z1.n = k := ⟨z1.n.toNat, by omega⟩
  rw [hk0] at hn ⊢
  have hn4 : k0 <= 4 := by omega
  generalize z.xs = xs at *
  generalize z.xss = xss at *
  refine loop_intro (fun g : Nat × List (List Int) × Int × Int => [(7, .int .i64 g.1), (6, .bx 8 0), (5, .iptr [.ints xs, .rows xss]), (4, .bx 2 0), (3, .bx 1 0), (2, .bx 0 0)]) (fun g => [(9, .mat g.2.1), (8, .box [.ints xs, .mt 9]), (2, .box [.bytes code, .int .i64 g.2.2.1, .int .u64 g.2.2.2]), (1, .box [.nils, .nils]), (0, .box [.nils, .nils])]) 10 (fun g => (g.1 <= 4 /\ g.2.1.length + g.1 <= 4 /\ 0 <= g.2.2.1 /\ g.2.2.1 <= 1010 + 2000 * (4 - g.1 : Int)) /\ ∀ r ∈ g.2.1, r.length <= 1000) (fun g => g.1) (k0, [], z1.a, z1.s) ⟨⟨hn4, by simpa using hn4, by dsimp only; omega, by dsimp only; omega⟩, fun r hr => by cases hr⟩ (by omega) ?_ ?_
  · simp only [go_sem]
  · rintro ⟨k, M, a, s⟩ ⟨hk, hM⟩
    simp only at hk hM
    simp only [go_sem]
    refine fork_intro (fun q1 => ?_) (fun q1 => ?_)
    · refine loop_intro (fun g : List Int × Int × Int => [(9, .int .i64 g.1.length), (8, .sl 10), (7, .int .i64 k), (6, .bx 8 0), (5, .iptr [.ints xs, .rows xss]), (4, .bx 2 0), (3, .bx 1 0), (2, .bx 0 0)]) (fun g => [(10, .arr (.ints g.1)), (9, .mat M), (8, .box [.ints xs, .mt 9]), (2, .box [.bytes code, .int .i64 g.2.1, .int .u64 g.2.2]), (1, .box [.nils, .nils]), (0, .box [.nils, .nils])]) 11 (fun g => g.1.length <= xs.length /\ a <= g.2.1 /\ g.2.1 <= a + 2 * g.1.length) (fun g => xs.length - g.1.length) ([], a, s) ⟨by simp, by dsimp only; omega, by simp⟩ (by omega) ?_ ?_
      · simp only [go_sem]
        rfl
      · rintro ⟨r, a1, s1⟩ hr
        simp only at hr
        simp only [go_sem]
        refine fork_intro (fun q2 => ?_) (fun q2 => ?_)
        · refine ⟨⟨hp, by omega, by omega⟩, fun z2 hz2 => ⟨by omega, by omega, ?_⟩⟩
          refine LoopEnd.intro (r ++ [z2.n], z2.a, z2.s) ?_ ?_ (by omega) ?_
          · simp only [len_snoc]; omega
          · simp only [len_snoc]; omega
          · simp only [go_sem, len_snoc, Int.natCast_add, Int.natCast_one]
        · obtain ⟨k1, rfl⟩ : ∃ k1, k = k1 + 1 := ⟨k - 1, by omega⟩
          refine ⟨by omega, by omega, LoopEnd.intro (k1, M ++ [r], a1, s1) ?_ ?_ (by omega) ?_⟩
          · refine ⟨?_, fun x hx => ?_⟩
            · simp only [len_snoc]; omega
            · rcases List.mem_append.1 hx with hx | hx
              · exact hM x hx
              · rw [List.mem_singleton.1 hx]; omega
          · dsimp only; omega
          · simp only [go_sem, Int.natCast_add, Int.natCast_one]
            exact congrArg (AV.int _) (by omega)
    · have hMl : Bdd xs M := ⟨b1, by omega, hM⟩
      refine ⟨⟨hp, by omega, by omega⟩, fun z2 hz2 => fork_intro (fun _ => ⟨⟨hp, by omega⟩, fun z3 h3 => ?_⟩) (fun _ => ?_)⟩
      · exact ⟨{ xs := xs, xss := xss, ys := z3.xs, yss := z3.xss }, ⟨⟨b1, b2, b3⟩, h3.1⟩, ⟨rfl, rfl⟩, rfl, rfl⟩
      · exact ⟨{ xs := xs, xss := xss, ys := xs, yss := M }, ⟨⟨b1, b2, b3⟩, hMl⟩, ⟨rfl, rfl⟩, rfl, rfl⟩
def t_drawJoin : Table := [(15, zC 0 0 g_drawJoin)]
theorem t_drawJoin_ok : TabOK Tryz.prog t_drawJoin := .cons Tryz.func15 (by kernel_rfl) (.z (by decide) (by intro args pre _ hp; unfold g_drawJoin at hp ⊢; split at hp <;> first | exact hp.elim | exact ⟨fun z hz => ⟨rfl, fun r hr => absurd hr (Nat.not_lt_zero _)⟩, drawJoin_ok _ hp⟩)) (.nil _)
attribute [go_sem] g_drawJoin_eq t_drawJoin
end Go.Proofs.YteefjdbdknkcjaaGreatDoor
namespace Go.Proofs.YteefjdbdknkcjaaGreatDoor
open Go.Vc
set_option maxRecDepth 100000
set_option maxHeartbeats 1600000
set_option linter.unusedSimpArgs false
set_option linter.unusedVariables false
theorem zfinT {Q : Z -> Prop} {v : ByteArray} {a s : Int} (h : Q { b := v, a := a, s := s }) : ∃ z, Q z /\ AV.str v = AV.str z.b /\ AV.int .i64 a = AV.int .i64 z.a /\ AV.int .u64 s = AV.int .u64 z.s := ⟨_, h, rfl, rfl, rfl⟩
end Go.Proofs.YteefjdbdknkcjaaGreatDoor
namespace Go.Proofs.YteefjdbdknkcjaaGreatDoor
open Go.Vc
set_option maxRecDepth 100000
set_option linter.unusedSimpArgs false
set_option linter.unusedVariables false

def numB (n : Int) : ByteArray := ⟨(Lib.itoa n).toArray⟩
def digB : ByteArray := ⟨#[48, 49, 50, 51, 52, 53, 54, 55, 56, 57]⟩
theorem numB_neg {n : Int} (h : n < 0) : (⟨#[45]⟩ : ByteArray) ++ numB (-n) = numB n := by
  apply ByteArray.ext
  rw [ByteArray.data_append]
  unfold numB Lib.itoa
  rw [if_pos h, if_neg (by omega)]
  have e : (-n).toNat = n.natAbs := by omega
  rw [e]; simp
theorem digB_ex (k : Nat) (h : k < 10) : digB.extract k (k + 1) = ⟨#[UInt8.ofNat (48 + k)]⟩ := by
  rcases k with _ | _ | _ | _ | _ | _ | _ | _ | _ | _ | k <;> first | rfl | omega
theorem numB_low {n : Int} (h0 : 0 <= n) (h : n < 10) : digB.extract n.toNat (n + 1).toNat = numB n := by
  rw [show (n + 1).toNat = n.toNat + 1 by omega, digB_ex _ (by omega)]
  apply ByteArray.ext
  unfold numB Lib.itoa
  rw [if_neg (by omega), Lib.decDigits_one (by omega)]
theorem numB_high {n : Int} (h : 10 <= n) : numB (n / 10) ++ digB.extract (n % 10).toNat (n % 10 + 1).toNat = numB n := by
  rw [show (n % 10 + 1).toNat = (n % 10).toNat + 1 by omega, digB_ex _ (by omega)]
  apply ByteArray.ext
  rw [ByteArray.data_append]
  unfold numB Lib.itoa
  rw [if_neg (by omega), if_neg (by omega)]
  have e : Lib.decDigits n.toNat = Lib.decDigits (n.toNat / 10) ++ [UInt8.ofNat (48 + n.toNat % 10)] := by
    rw [Lib.decDigits, dif_neg (by omega)]
  rw [e, show (n / 10).toNat = n.toNat / 10 by omega, show (n % 10).toNat = n.toNat % 10 by omega]
  simp
theorem numB_size (n : Int) (h0 : -9223372036854775808 <= n) (h1 : n <= 9223372036854775807) : (numB n).size <= 21 := by
  have := Lib.itoa_length_le n h0 h1
  show (Lib.itoa n).toArray.size <= 21
  simpa using this
theorem digB_size (a b : Nat) : (digB.extract a b).size <= 10 := by
  rw [ByteArray.size_extract]
  have : digB.size = 10 := rfl
  omega
def numIn (k : Nat) (n : Int) : Prop := k <= 9 /\ ((0 <= n /\ n < 10 ^ k) \/ (n < 0 /\ -n * 10 < 10 ^ k))
theorem numIn_bd {k : Nat} {n : Int} (h : numIn k n) : -1000000000 < n /\ n < 1000000000 := by
  obtain ⟨hk, h⟩ := h
  have : (10 : Int) ^ k <= 1000000000 := by
    rcases k with _ | _ | _ | _ | _ | _ | _ | _ | _ | _ | k <;> first | omega | decide
  omega
theorem numIn_neg {k : Nat} {n : Int} (h : numIn (k + 1) n) (hn : n < 0) : numIn k (-n) := by
  obtain ⟨hk, h⟩ := h
  rw [Int.pow_succ] at h
  exact ⟨by omega, .inl (by omega)⟩
theorem numIn_div {k : Nat} {n : Int} (h : numIn (k + 1) n) (hn : 10 <= n) : numIn k (n / 10) := by
  obtain ⟨hk, h⟩ := h
  rw [Int.pow_succ] at h
  exact ⟨by omega, .inl (by omega)⟩
theorem numIn_zero {n : Int} (h : numIn 0 n) : n = 0 := by
  obtain ⟨hk, h⟩ := h
  simp at h; omega
theorem numIn_of {n : Int} (h0 : -10000000 < n) (h1 : n < 10000000) : numIn 8 n := ⟨by omega, by simp only [Int.reducePow]; omega⟩

theorem extract_upto (s : ByteArray) (k : Nat) : s.extract 0 k = ⟨(s.data.toList.take k).toArray⟩ := by
  apply ByteArray.ext
  apply Array.ext'
  rw [ByteArray.data_extract]
  simp
def hasB (s : ByteArray) (c : UInt8) : Bool := decide (0 <= Lib.indexByte s.data.toList c)
theorem byteAt_some (s : ByteArray) {k : Nat} (h : k < s.size) : s.data.toList[k]? = some (byteAt s (k : Int)) := by
  unfold byteAt
  exact ix_some s.data.toList (k := k) (by simpa using h)
theorem hasB_yes {s : ByteArray} {c : UInt8} {k : Nat} (hk : k < s.size) (h : byteAt s (k : Int) = c) : hasB s c = true := by
  unfold hasB
  refine decide_eq_true ?_
  have g := Lib.indexByte_ge s.data.toList c
  rcases Int.lt_or_le (Lib.indexByte s.data.toList c) 0 with h1 | h1
  · have e1 : Lib.indexByte s.data.toList c = -1 := by omega
    exact (Lib.indexByte_none e1 k (by rw [byteAt_some s hk, h])).elim
  · exact h1
theorem hasB_no {s : ByteArray} {c : UInt8} (h : ∀ k : Nat, k < s.size -> byteAt s (k : Int) ≠ c) : hasB s c = false := by
  unfold hasB
  refine decide_eq_false (fun h0 => ?_)
  obtain ⟨o, ho⟩ : ∃ o : Nat, Lib.indexByte s.data.toList c = o := ⟨(Lib.indexByte s.data.toList c).toNat, by omega⟩
  obtain ⟨h1, _⟩ := Lib.indexByte_some ho
  have hlt : o < s.data.toList.length := (List.getElem?_eq_some_iff.1 h1).1
  have hlt' : o < s.size := by simpa using hlt
  rw [byteAt_some s hlt'] at h1
  exact h o hlt' (Option.some.inj h1)
def frontB (s : ByteArray) (c : UInt8) : ByteArray := ⟨(if 0 <= Lib.indexByte s.data.toList c then s.data.toList.take (Lib.indexByte s.data.toList c).toNat else s.data.toList).toArray⟩
theorem extract_all (s : ByteArray) : s.extract 0 s.size = s := by
  apply ByteArray.ext
  rw [ByteArray.data_extract]
  simp
def splP (s : ByteArray) (c : UInt8) : Nat -> List ByteArray × Nat
  | 0 => ([], 0)
  | i + 1 => if byteAt s (i : Int) = c then ((splP s c i).1 ++ [s.extract (splP s c i).2 i], i + 1) else splP s c i
def splL (s : ByteArray) (c : UInt8) : List ByteArray := (splP s c s.size).1 ++ [s.extract (splP s c s.size).2 s.size]
theorem splP_le (s : ByteArray) (c : UInt8) : ∀ i, (splP s c i).2 <= i /\ (splP s c i).1.length <= i
  | 0 => ⟨Nat.le_refl _, Nat.le_refl _⟩
  | i + 1 => by
    have h := splP_le s c i
    unfold splP
    split
    · refine ⟨Nat.le_refl _, ?_⟩
      simp; omega
    · exact ⟨by omega, by omega⟩
theorem splL_len (s : ByteArray) (c : UInt8) : 1 <= (splL s c).length /\ (splL s c).length <= s.size + 1 := by
  have := (splP_le s c s.size).2
  unfold splL
  rw [List.length_append]
  exact ⟨by simp, by simp; omega⟩
end Go.Proofs.YteefjdbdknkcjaaGreatDoor
