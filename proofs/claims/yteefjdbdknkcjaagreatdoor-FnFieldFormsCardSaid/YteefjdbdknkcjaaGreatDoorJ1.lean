/- Texts joined: Pl DA A2 A3 PlT A6 PlF. -/
import Derived.Test.YteefjdbdknkcjaaGreatDoorVc
import Derived.Test.YteefjdbdknkcjaaGreatDoorTy
namespace Go.Vc
set_option linter.unusedSimpArgs false
set_option linter.unusedVariables false
set_option linter.unusedSectionVars false

/-! an element by its number -/
section
variable {α : Type} [Inhabited α]
theorem ix_some (xs : List α) {k : Nat} (h : k < xs.length) : xs[k]? = some (ix xs (k : Int)) := by
  have e := ix_get (xs := xs) (i := (k : Int)) (by simpa using h)
  simpa using e
theorem ix_mem (xs : List α) {k : Nat} (h : k < xs.length) : ix xs (k : Int) ∈ xs := List.mem_of_getElem? (ix_some xs h)
theorem ix_memI (xs : List α) {i : Int} (h0 : 0 <= i) (h : i < xs.length) : ix xs i ∈ xs := List.mem_of_getElem? (ix_get (by omega))
theorem drop_ix (xs : List α) {k : Nat} (h : k < xs.length) : xs.drop k = ix xs (k : Int) :: xs.drop (k + 1) := by
  rw [List.drop_eq_getElem_cons h]
  congr 1
  have := List.getElem?_eq_getElem h
  rw [ix_some xs h] at this; exact (Option.some.inj this).symm
theorem take_ix (xs : List α) {k : Nat} (h : k < xs.length) : xs.take (k + 1) = xs.take k ++ [ix xs (k : Int)] := by
  rw [List.take_add_one, ix_some xs h]; rfl
theorem ix_ext {xs ys : List α} (hl : xs.length = ys.length) (h : ∀ k, k < xs.length -> ix xs (k : Int) = ix ys (k : Int)) : xs = ys := by
  apply List.ext_getElem?
  intro k
  by_cases hk : k < xs.length
  · rw [ix_some xs hk, ix_some ys (by omega), h k hk]
  · rw [List.getElem?_eq_none (by omega), List.getElem?_eq_none (by omega)]
theorem ix_set (xs : List α) {k : Nat} (v : α) (h : k < xs.length) (j : Nat) : ix (xs.set k v) (j : Int) = if j = k then v else ix xs (j : Int) := by
  simp only [ix, Int.toNat_natCast, List.getD_eq_getElem?_getD]
  rw [List.getElem?_set]
  by_cases e : k = j
  · subst e; simp [h]
  · rw [if_neg e, if_neg (fun e' => e e'.symm)]
theorem ix_append_left (xs ys : List α) {k : Nat} (h : k < xs.length) : ix (xs ++ ys) (k : Int) = ix xs (k : Int) := by
  simp only [ix, Int.toNat_natCast, List.getD_eq_getElem?_getD]; rw [List.getElem?_append_left h]
theorem ix_append_right (xs ys : List α) (k : Nat) : ix (xs ++ ys) ((xs.length + k : Nat) : Int) = ix ys (k : Int) := by
  simp only [ix, Int.toNat_natCast, List.getD_eq_getElem?_getD]; rw [List.getElem?_append_right (by omega)]; congr 2; omega
theorem ix_map {β : Type} [Inhabited β] (f : α -> β) (xs : List α) {k : Nat} (h : k < xs.length) : ix (xs.map f) (k : Int) = f (ix xs (k : Int)) := by
  have e := ix_some xs h
  have e2 : (xs.map f)[k]? = some (f (ix xs (k : Int))) := by rw [List.getElem?_map, e]; rfl
  rw [ix_some (xs.map f) (by simpa using h)] at e2
  exact Option.some.inj e2
theorem ix_cons_zero (x : α) (xs : List α) : ix (x :: xs) 0 = x := rfl
theorem take_eq {xs ys : List α} {k : Nat} {x y : α} (h : xs.take k = ys.take k) (hx : xs[k]? = some x) (hy : ys[k]? = some y) : xs.take (k + 1) = ys.take (k + 1) ↔ x = y := by
  rw [List.take_add_one, List.take_add_one, h, hx, hy]
  simp
def fill (v : α) (xs : List α) (k : Nat) : List α := xs.take k ++ List.replicate (xs.length - k) v
def over (ys xs : List α) (k : Nat) : List α := ys.take k ++ xs.drop k
theorem over_len (ys xs : List α) {k : Nat} (h : xs.length = ys.length) (hk : k <= xs.length) : (over ys xs k).length = xs.length := by simp [over]; omega
theorem over_end (ys xs : List α) (h : xs.length = ys.length) : over ys xs xs.length = ys := by simp [over, h]
theorem over_zero (ys xs : List α) : over ys xs 0 = xs := by simp [over]
theorem over_set (ys xs : List α) {k : Nat} (hl : xs.length = ys.length) (h : k < xs.length) : (over ys xs k).set k (ix ys k) = over ys xs (k + 1) := by
  have e := ix_some ys (show k < ys.length by omega)
  have h1 : (ys.take k).length = k := by simp; omega
  unfold over
  rw [List.set_append_right _ _ (by omega), h1, Nat.sub_self, drop_ix xs h, List.set_cons_zero, List.take_add_one, e]
  simp
theorem over_ix (ys xs : List α) {k : Nat} (hl : xs.length = ys.length) (h : k < xs.length) : ix (over ys xs k) (k : Int) = ix xs (k : Int) := by
  have h1 : (ys.take k).length = k := by simp; omega
  have := ix_append_right (ys.take k) (xs.drop k) 0
  rw [h1, Nat.add_zero] at this
  unfold over
  rw [this, drop_ix xs h]; rfl
end

/-! sizes, as the law package counts them -/
def szI (xs : List Int) (l : Int) : Int := if l - xs.length < 0 then -1 else l - xs.length
def szR : List (List Int) -> Int -> Int
  | [], l => l
  | x :: r, l => if szI x l < 0 then -1 else szR r (szI x l)
def szII (xs : List (List Int)) (l : Int) : Int := if l - xs.length < 0 then -1 else szR xs (l - xs.length)
def szF (o : List Int) (d : List (List Int)) (l : Int) : Int := if szI o l < 0 then -1 else if szII d (szI o l) < 0 then -1 else szII d (szI o l)
/-! marks: k, k + 1, .. -/
def upF : Int -> Nat -> List Int
  | _, 0 => []
  | k, n + 1 => k :: upF (k + 1) n
def sumLen : List (List Int) -> Int
  | [] => 0
  | x :: r => x.length + sumLen r
def markR : Int -> List (List Int) -> List (List Int)
  | _, [] => []
  | k, x :: r => upF k x.length :: markR (k + x.length) r
structure SzOK (o : List Int) (d : List (List Int)) (l : Int) : Prop where
  ho : o.length <= 1048576
  hd : d.length <= 1048576
  hr : ∀ x ∈ d, x.length <= 1048576
  hs : sumLen d <= 1048576
  f1 : o.length <= 1048576 /\ d.length <= 1048576 /\ ∀ x ∈ d, x.length <= 1048576
  f2 : o.length <= 1048576000 /\ d.length <= 1048576000 /\ ∀ x ∈ d, x.length <= 1048576000
  fm : o.length <= 2000000 /\ d.length <= 2000000 /\ sumLen d <= 2000000
  le : 0 <= szF o d l /\ szF o d l <= 1048576
/-! the first place where a test holds -/
def idxG {α : Type} (p : α -> Bool) : List α -> Int -> Int
  | [], _ => -1
  | x :: r, k => if p x = true then k else idxG p r (k + 1)
theorem idxG_bd {α : Type} (p : α -> Bool) : ∀ (xs : List α) (k : Int), 0 <= k -> -1 <= idxG p xs k /\ idxG p xs k < k + xs.length \/ (idxG p xs k = -1)
  | [], k, h => by simp [idxG]
  | x :: r, k, h => by
    unfold idxG
    split
    · left; simp; omega
    · rcases idxG_bd p r (k + 1) (by omega) with h1 | h1
      · left; simp; omega
      · right; exact h1
theorem idxG_any {α : Type} (p : α -> Bool) : ∀ (xs : List α) (k : Int), 0 <= k -> decide (0 <= idxG p xs k) = xs.any p
  | [], k, _ => by simp [idxG]
  | x :: r, k, h => by
    unfold idxG
    cases hx : p x with
    | true => simp [hx, h]
    | false => simp [hx, idxG_any p r (k + 1) (by omega)]

/-! fields -/
def rowOK (hi : Int) (xs : List Int) : Bool := xs.all fun x => decide (0 <= x /\ x <= hi)
def good (o : List Int) (d : List (List Int)) : Bool := decide (1 <= o.length /\ o.length <= 7) && rowOK 99 o && decide (d.length <= 7) && d.all fun r => decide (r.length = o.length) && rowOK 99 r
theorem rowOK_iff {hi : Int} {xs : List Int} : rowOK hi xs = true ↔ ∀ x ∈ xs, 0 <= x /\ x <= hi := by simp [rowOK]
structure FieldOK (o : List Int) (d : List (List Int)) : Prop where
  n1 : 1 <= o.length
  n7 : o.length <= 7
  o99 : ∀ x ∈ o, 0 <= x /\ x <= 99
  m7 : d.length <= 7
  len : ∀ r ∈ d, r.length = o.length
  d99 : ∀ r ∈ d, ∀ x ∈ r, 0 <= x /\ x <= 99
theorem good_iff {o : List Int} {d : List (List Int)} : good o d = true ↔ FieldOK o d := by
  simp only [good, Bool.and_eq_true, decide_eq_true_eq, rowOK_iff, List.all_eq_true]
  exact ⟨fun ⟨⟨⟨⟨a, b⟩, c⟩, e⟩, f⟩ => ⟨a, b, c, e, fun r hr => (f r hr).1, fun r hr => (f r hr).2⟩, fun h => ⟨⟨⟨⟨h.n1, h.n7⟩, h.o99⟩, h.m7⟩, fun r hr => ⟨h.len r hr, h.d99 r hr⟩⟩⟩

/-! the end of a law: what both packages say is the same -/
end Go.Vc
namespace Go.Proofs.YteefjdbdknkcjaaGreatDoor
open Go.Vc
set_option maxRecDepth 100000
set_option linter.unusedSimpArgs false
set_option linter.unusedVariables false

theorem and255 (x : Nat) : ((bitN .and x 255 : Nat) : Int) <= 255 := by
  have : x &&& 255 <= 255 := Nat.and_le_right
  show ((x &&& 255 : Nat) : Int) <= 255
  omega
theorem wrap_u64 (n : Int) : 0 <= IntKind.u64.wrap n /\ IntKind.u64.wrap n <= 18446744073709551615 := by
  simp only [IntKind.wrap, IntKind.signed, IntKind.bits]
  simp
  omega
theorem v_addU (x y : Int) : arithV .add (.int .u64 x) (.int .u64 y) = .int .u64 (IntKind.u64.wrap (x + y)) := (rfl)
theorem v_mulU (x y : Int) : arithV .mul (.int .u64 x) (.int .u64 y) = .int .u64 (IntKind.u64.wrap (x * y)) := (rfl)
theorem p_addU (P : Program) (t : TypeId) (x y : Int) : arithP P t .add (.int .u64 x) (.int .u64 y) = True := by show (IntKind.u64 = .u64) = True; simp
theorem p_mulU (P : Program) (t : TypeId) (x y : Int) : arithP P t .mul (.int .u64 x) (.int .u64 y) = True := by show (IntKind.u64 = .u64) = True; simp
attribute [go_sem] v_addU v_mulU p_addU p_mulU
theorem zfinN {Q : Z -> Prop} {v a s : Int} (h : Q { n := v, a := a, s := s }) : ∃ z, Q z /\ AV.int .i64 v = AV.int .i64 z.n /\ AV.int .i64 a = AV.int .i64 z.a /\ AV.int .u64 s = AV.int .u64 z.s := ⟨_, h, rfl, rfl, rfl⟩
theorem zfinB {Q : Z -> Prop} {v : Bool} {f : Z -> Bool} {a s n : Int} (h : Q { n := n, a := a, s := s }) (hf : v = f { n := n, a := a, s := s }) : ∃ z, Q z /\ AV.bool v = AV.bool (f z) /\ AV.int .i64 a = AV.int .i64 z.a /\ AV.int .u64 s = AV.int .u64 z.s := ⟨_, h, by rw [hf], rfl, rfl⟩
def g_nextD : List AV -> Heap -> Prop × (Z -> Prop × AV × Heap)
  | [.bx 0 0], [(0, .box [.bytes code, .int .i64 a, .int .u64 s])] => (code.length <= 1000000000 /\ 0 <= a /\ a <= 1000000000000, fun z => ((0 <= z.n /\ z.n <= 255) /\ z.a = a + 1, .int .i64 z.n, [(0, .box [.bytes code, .int .i64 z.a, .int .u64 z.s])]))
  | _, _ => (False, fun _ => (False, .undef, []))
theorem g_nextD_eq (code : List UInt8) (a s : Int) : g_nextD [.bx 0 0] [(0, .box [.bytes code, .int .i64 a, .int .u64 s])] = (code.length <= 1000000000 /\ 0 <= a /\ a <= 1000000000000, fun z => ((0 <= z.n /\ z.n <= 255) /\ z.a = a + 1, .int .i64 z.n, [(0, .box [.bytes code, .int .i64 z.a, .int .u64 z.s])])) := (rfl)
theorem nextD_ok (code : List UInt8) (a s : Int) (hp : code.length <= 1000000000 /\ 0 <= a /\ a <= 1000000000000) : SpecZ Tryz.prog 66 [.bx 0 0] [(0, .box [.bytes code, .int .i64 a, .int .u64 s])] 1 (fun z => ((0 <= z.n /\ z.n <= 255) /\ z.a = a + 1, .int .i64 z.n, [(0, .box [.bytes code, .int .i64 z.a, .int .u64 z.s])])) := by
  refine fun_okZ (C := []) (hint := hintX [] [] 1 [] [] [] []) (TabOK.nil _) mixed Tryz.func66 rfl (by kernel_rfl) rfl (Nat.le_refl _) (by decide) (upTo_look (k := 1) rfl) ?_
  show codeA _ _ _ _ _ _ _ _
  simp only [go_sem, Tryz.results66]
  have e40 : (2 : Int) ^ Int.toNat 40 = 1099511627776 := by decide
  have e255 : Int.toNat 255 = 255 := rfl
  have hx := (ix code a).toNat_lt
  have hW : ∀ x : Int, (0 <= IntKind.u64.wrap x / 1099511627776 /\ 0 <= IntKind.u64.wrap x / 1099511627776 /\ IntKind.u64.wrap x / 1099511627776 <= 18446744073709551615) := fun x => by
    have := wrap_u64 x; omega
  have hB : ∀ x : Nat, 0 <= ((bitN .and x 255 : Nat) : Int) /\ ((bitN .and x 255 : Nat) : Int) <= 255 := fun x => ⟨by omega, and255 x⟩
  have h40 : (0 : Int) <= 40 /\ Int.toNat 40 <= 64 := by decide
  simp only [e40, e255]
  have fin : ∀ (v w : Int), 0 <= v /\ v <= 255 -> ∃ z : Z, ((0 <= z.n /\ z.n <= 255) /\ z.a = a + 1) /\ AV.int .i64 v = AV.int .i64 z.n /\ AV.int .i64 (a + 1) = AV.int .i64 z.a /\ AV.int .u64 w = AV.int .u64 z.s := fun v w hv => ⟨{ n := v, a := a + 1, s := w }, ⟨hv, rfl⟩, rfl, rfl, rfl⟩
  refine fork_intro (fun h1 => ?_) (fun h1 => ?_)
  · refine ⟨by omega, by omega, by omega, by omega, fork_intro (fun h2 => ?_) (fun h2 => ?_)⟩
    · exact fin _ _ (by omega)
    · have hb := hB (IntKind.u64.wrap (IntKind.u64.wrap (IntKind.u64.wrap (s * 6364136223846793005) + ↑(ix code a).toNat) + 462197) / 1099511627776).toNat
      exact ⟨h40, ⟨hW _, by omega⟩, by omega, fin _ _ hb⟩
  · refine ⟨by omega, by omega, fork_intro (fun h2 => ?_) (fun h2 => ?_)⟩
    · exact fin _ _ (by omega)
    · have hb := hB (IntKind.u64.wrap (IntKind.u64.wrap (IntKind.u64.wrap (s * 6364136223846793005) + 0) + 462197) / 1099511627776).toNat
      exact ⟨h40, ⟨hW _, by omega⟩, by omega, fin _ _ hb⟩
def t_nextD : Table := [(66, zC 1 1 g_nextD)]
theorem t_nextD_ok : TabOK Tryz.prog t_nextD := .cons Tryz.func66 (by kernel_rfl) (.z (by decide) (by intro args pre _ hp; unfold g_nextD at hp ⊢; split at hp <;> first | exact hp.elim | exact ⟨fun z hz => ⟨rfl, shape_box _ _ rfl rfl rfl⟩, nextD_ok _ _ _ hp⟩)) (.nil _)
attribute [go_sem] g_nextD_eq t_nextD
def g_pickD : List AV -> Heap -> Prop × (Z -> Prop × AV × Heap)
  | [.bx 0 0, .int .i64 n], [(0, .box [.bytes code, .int .i64 a, .int .u64 s])] => (code.length <= 1000000000 /\ (0 <= a /\ a <= 1000000000000 - 10) /\ n <= 1000000000, fun z => ((0 <= z.n /\ (1 <= n -> z.n < n)) /\ a <= z.a /\ z.a <= a + 2, .int .i64 z.n, [(0, .box [.bytes code, .int .i64 z.a, .int .u64 z.s])]))
  | _, _ => (False, fun _ => (False, .undef, []))
theorem g_pickD_eq (n : Int) (code : List UInt8) (a s : Int) : g_pickD [.bx 0 0, .int .i64 n] [(0, .box [.bytes code, .int .i64 a, .int .u64 s])] = (code.length <= 1000000000 /\ (0 <= a /\ a <= 1000000000000 - 10) /\ n <= 1000000000, fun z => ((0 <= z.n /\ (1 <= n -> z.n < n)) /\ a <= z.a /\ z.a <= a + 2, .int .i64 z.n, [(0, .box [.bytes code, .int .i64 z.a, .int .u64 z.s])])) := (rfl)
theorem pickD_ok (n : Int) (code : List UInt8) (a s : Int) (hp : code.length <= 1000000000 /\ (0 <= a /\ a <= 1000000000000 - 10) /\ n <= 1000000000) : SpecZ Tryz.prog 41 [.bx 0 0, .int .i64 n] [(0, .box [.bytes code, .int .i64 a, .int .u64 s])] 1 (fun z => ((0 <= z.n /\ (1 <= n -> z.n < n)) /\ a <= z.a /\ z.a <= a + 2, .int .i64 z.n, [(0, .box [.bytes code, .int .i64 z.a, .int .u64 z.s])])) := by
  refine fun_okZ (C := t_nextD) (hint := hintX [] [] 1 [66, 1000066] [] [] []) (t_nextD_ok) mixed Tryz.func41 rfl (by kernel_rfl) rfl (Nat.le_refl _) (by decide) (upTo_look (k := 1) rfl) ?_
  show codeA _ _ _ _ _ _ _ _
  simp only [go_sem, Tryz.results41]
  obtain ⟨hc, ha, hn⟩ := hp
  have hmod : ∀ x : Int, 1 < n -> 0 <= x -> 0 <= x % n /\ x % n < n := fun x h1 h2 => ⟨Int.emod_nonneg _ (by omega), Int.emod_lt_of_pos _ (by omega)⟩
  refine fork_intro (fun h1 => zfinN (by dsimp only; omega)) (fun h1 => ⟨⟨hc, by omega⟩, fun z hz => fork_intro (fun h2 => ⟨by omega, ⟨hc, by omega⟩, fun z1 hz1 => ⟨by omega, by omega, zfinN ?_⟩⟩) (fun h2 => ⟨by omega, zfinN ?_⟩)⟩)
  · have := hmod (z.n * 256 + z1.n) (by omega) (by omega)
    dsimp only; omega
  · have := hmod z.n (by omega) (by omega)
    dsimp only; omega
def t_pickD : Table := [(41, zC 1 1 g_pickD)]
theorem t_pickD_ok : TabOK Tryz.prog t_pickD := .cons Tryz.func41 (by kernel_rfl) (.z (by decide) (by intro args pre _ hp; unfold g_pickD at hp ⊢; split at hp <;> first | exact hp.elim | exact ⟨fun z hz => ⟨rfl, shape_box _ _ rfl rfl rfl⟩, pickD_ok _ _ _ _ hp⟩)) (.nil _)
attribute [go_sem] g_pickD_eq t_pickD
def g_oneD : List AV -> Heap -> Prop × (Z -> Prop × AV × Heap)
  | [.bx 0 0, .int .i64 n], [(0, .box [.bytes code, .int .i64 a, .int .u64 s])] => (code.length <= 1000000000 /\ (0 <= a /\ a <= 1000000000000 - 10) /\ n <= 1000000000, fun z => (a <= z.a /\ z.a <= a + 2, .bool (decide (z.n = 0)), [(0, .box [.bytes code, .int .i64 z.a, .int .u64 z.s])]))
  | _, _ => (False, fun _ => (False, .undef, []))
theorem g_oneD_eq (n : Int) (code : List UInt8) (a s : Int) : g_oneD [.bx 0 0, .int .i64 n] [(0, .box [.bytes code, .int .i64 a, .int .u64 s])] = (code.length <= 1000000000 /\ (0 <= a /\ a <= 1000000000000 - 10) /\ n <= 1000000000, fun z => (a <= z.a /\ z.a <= a + 2, .bool (decide (z.n = 0)), [(0, .box [.bytes code, .int .i64 z.a, .int .u64 z.s])])) := (rfl)
theorem oneD_ok (n : Int) (code : List UInt8) (a s : Int) (hp : code.length <= 1000000000 /\ (0 <= a /\ a <= 1000000000000 - 10) /\ n <= 1000000000) : SpecZ Tryz.prog 42 [.bx 0 0, .int .i64 n] [(0, .box [.bytes code, .int .i64 a, .int .u64 s])] 1 (fun z => (a <= z.a /\ z.a <= a + 2, .bool (decide (z.n = 0)), [(0, .box [.bytes code, .int .i64 z.a, .int .u64 z.s])])) := by
  refine fun_okZ (C := t_pickD) (hint := hintX [] [] 1 [41, 1000041] [] [] []) (t_pickD_ok) mixed Tryz.func42 rfl (by kernel_rfl) rfl (Nat.le_refl _) (by decide) (upTo_look (k := 1) rfl) ?_
  show codeA _ _ _ _ _ _ _ _
  simp only [go_sem, Tryz.results42]
  exact ⟨hp, fun z hz => zfinB (n := z.n) (by dsimp only; omega) rfl⟩
def t_oneD : Table := [(42, zC 1 1 g_oneD)]
theorem t_oneD_ok : TabOK Tryz.prog t_oneD := .cons Tryz.func42 (by kernel_rfl) (.z (by decide) (by intro args pre _ hp; unfold g_oneD at hp ⊢; split at hp <;> first | exact hp.elim | exact ⟨fun z hz => ⟨rfl, shape_box _ _ rfl rfl rfl⟩, oneD_ok _ _ _ _ hp⟩)) (.nil _)
attribute [go_sem] g_oneD_eq t_oneD
def g_amongD : List AV -> Heap -> Prop × (Z -> Prop × AV × Heap)
  | [.bx 0 0, .ints xs], [(0, .box [.bytes code, .int .i64 a, .int .u64 s])] => (code.length <= 1000000000 /\ (0 <= a /\ a <= 1000000000000 - 10) /\ 1 <= xs.length /\ xs.length <= 100, fun z => (z.n ∈ xs /\ a <= z.a /\ z.a <= a + 2, .int .i64 z.n, [(0, .box [.bytes code, .int .i64 z.a, .int .u64 z.s])]))
  | _, _ => (False, fun _ => (False, .undef, []))
theorem g_amongD_eq (xs : List Int) (code : List UInt8) (a s : Int) : g_amongD [.bx 0 0, .ints xs] [(0, .box [.bytes code, .int .i64 a, .int .u64 s])] = (code.length <= 1000000000 /\ (0 <= a /\ a <= 1000000000000 - 10) /\ 1 <= xs.length /\ xs.length <= 100, fun z => (z.n ∈ xs /\ a <= z.a /\ z.a <= a + 2, .int .i64 z.n, [(0, .box [.bytes code, .int .i64 z.a, .int .u64 z.s])])) := (rfl)
theorem amongD_ok (xs : List Int) (code : List UInt8) (a s : Int) (hp : code.length <= 1000000000 /\ (0 <= a /\ a <= 1000000000000 - 10) /\ 1 <= xs.length /\ xs.length <= 100) : SpecZ Tryz.prog 34 [.bx 0 0, .ints xs] [(0, .box [.bytes code, .int .i64 a, .int .u64 s])] 1 (fun z => (z.n ∈ xs /\ a <= z.a /\ z.a <= a + 2, .int .i64 z.n, [(0, .box [.bytes code, .int .i64 z.a, .int .u64 z.s])])) := by
  refine fun_okZ (C := t_pickD) (hint := hintX [] [] 1 [41, 1000041] [] [] []) (t_pickD_ok) mixed Tryz.func34 rfl (by kernel_rfl) rfl (Nat.le_refl _) (by decide) (upTo_look (k := 1) rfl) ?_
  show codeA _ _ _ _ _ _ _ _
  simp only [go_sem, Tryz.results34]
  obtain ⟨hc, ha, h1, h2⟩ := hp
  refine ⟨⟨hc, by omega, by omega⟩, fun z hz => ⟨by omega, zfinN ?_⟩⟩
  exact ⟨ix_memI xs (by omega) (by omega), (by dsimp only; omega)⟩
def t_amongD : Table := [(34, zC 1 1 g_amongD)]
theorem t_amongD_ok : TabOK Tryz.prog t_amongD := .cons Tryz.func34 (by kernel_rfl) (.z (by decide) (by intro args pre _ hp; unfold g_amongD at hp ⊢; split at hp <;> first | exact hp.elim | exact ⟨fun z hz => ⟨rfl, shape_box _ _ rfl rfl rfl⟩, amongD_ok _ _ _ _ hp⟩)) (.nil _)
attribute [go_sem] g_amongD_eq t_amongD
end Go.Proofs.YteefjdbdknkcjaaGreatDoor
namespace Go.Proofs.YteefjdbdknkcjaaGreatDoor
open Go.Vc
set_option maxRecDepth 100000
set_option linter.unusedSimpArgs false
set_option linter.unusedVariables false


end Go.Proofs.YteefjdbdknkcjaaGreatDoor
namespace Go.Proofs.YteefjdbdknkcjaaGreatDoor
open Go.Vc
set_option maxRecDepth 100000
set_option linter.unusedSimpArgs false
set_option linter.unusedVariables false

def g_l1In : List AV -> Prop × AV
  | [.int .i64 x, .int .i64 a, .int .i64 b] => (True, .bool (decide (a <= x /\ x <= b)))
  | _ => (False, .undef)
theorem g_l1In_eq (x a b : Int) : g_l1In [.int .i64 x, .int .i64 a, .int .i64 b] = (True, .bool (decide (a <= x /\ x <= b))) := (rfl)
theorem l1In_ok (x a b : Int) (hp : True) : SpecOK Tryz.prog 59 [.int .i64 x, .int .i64 a, .int .i64 b] (.bool (decide (a <= x /\ x <= b))) [] := by
  refine fun_ok (C := []) (hint := hintX [] [] 0 [] [] [] []) (TabOK.nil _) mixed Tryz.func59 rfl (by kernel_rfl) rfl ?_
  show codeA _ _ _ _ _ _ _ _
  simp only [go_sem, Tryz.results59]
  refine fork_intro (fun h1 => ?_) (fun h1 => ?_) <;> simp [h1]
def t_l1In : Table := [(59, pureC g_l1In)]
theorem t_l1In_ok : TabOK Tryz.prog t_l1In := .cons Tryz.func59 (by kernel_rfl) (.pure (by intro args hp; unfold g_l1In at hp ⊢; split at hp <;> first | exact hp.elim | exact l1In_ok _ _ _ hp)) (.nil _)
attribute [go_sem] g_l1In_eq t_l1In
def g_between : List AV -> Prop × AV
  | [.int .i64 x, .int .i64 a, .int .i64 b] => (True, .bool (decide (a <= x /\ x <= b)))
  | _ => (False, .undef)
theorem g_between_eq (x a b : Int) : g_between [.int .i64 x, .int .i64 a, .int .i64 b] = (True, .bool (decide (a <= x /\ x <= b))) := (rfl)
theorem between_ok (x a b : Int) (hp : True) : SpecOK Tryz.prog 54 [.int .i64 x, .int .i64 a, .int .i64 b] (.bool (decide (a <= x /\ x <= b))) [] := by
  refine fun_ok (C := []) (hint := hintX [] [] 0 [] [] [] []) (TabOK.nil _) mixed Tryz.func54 rfl (by kernel_rfl) rfl ?_
  show codeA _ _ _ _ _ _ _ _
  simp only [go_sem, Tryz.results54]
  refine fork_intro (fun h1 => ?_) (fun h1 => ?_) <;> simp [h1]
def t_between : Table := [(54, pureC g_between)]
theorem t_between_ok : TabOK Tryz.prog t_between := .cons Tryz.func54 (by kernel_rfl) (.pure (by intro args hp; unfold g_between at hp ⊢; split at hp <;> first | exact hp.elim | exact between_ok _ _ _ hp)) (.nil _)
attribute [go_sem] g_between_eq t_between
def g_btw1 : List AV -> Prop × AV
  | [.int .i64 x, .iptr [.int .i64 a], .iptr [.int .i64 b]] => (True, .bool (!decide (a <= x /\ x <= b)))
  | _ => (False, .undef)
theorem g_btw1_eq (x a b : Int) : g_btw1 [.int .i64 x, .iptr [.int .i64 a], .iptr [.int .i64 b]] = (True, .bool (!decide (a <= x /\ x <= b))) := (rfl)
theorem btw1_ok (x a b : Int) (hp : True) : SpecOK Tryz.prog 80 [.int .i64 x, .iptr [.int .i64 a], .iptr [.int .i64 b]] (.bool (!decide (a <= x /\ x <= b))) [] := by
  refine fun_ok (C := t_between) (hint := hintX [] [] 0 [] [] [] []) (t_between_ok) mixed Tryz.func80 rfl (by kernel_rfl) rfl ?_
  show codeA _ _ _ _ _ _ _ _
  simp only [go_sem, Tryz.results80]

def t_btw1 : Table := [(80, pureC g_btw1)]
theorem t_btw1_ok : TabOK Tryz.prog t_btw1 := .cons Tryz.func80 (by kernel_rfl) (.pure (by intro args hp; unfold g_btw1 at hp ⊢; split at hp <;> first | exact hp.elim | exact btw1_ok _ _ _ hp)) (.nil _)
attribute [go_sem] g_btw1_eq t_btw1
def g_idxBtw : List AV -> Prop × AV
  | [.ints xs, .fn 80 [.iptr [.int .i64 a], .iptr [.int .i64 b]]] => (xs.length <= 1048576000, .int .i64 (idxG (fun x => !decide (a <= x /\ x <= b)) xs 0))
  | _ => (False, .undef)
theorem g_idxBtw_eq (xs : List Int) (a b : Int) : g_idxBtw [.ints xs, .fn 80 [.iptr [.int .i64 a], .iptr [.int .i64 b]]] = (xs.length <= 1048576000, .int .i64 (idxG (fun x => !decide (a <= x /\ x <= b)) xs 0)) := (rfl)
theorem idxBtw_ok (xs : List Int) (a b : Int) (hp : xs.length <= 1048576000) : SpecOK Tryz.prog 97 [.ints xs, .fn 80 [.iptr [.int .i64 a], .iptr [.int .i64 b]]] (.int .i64 (idxG (fun x => !decide (a <= x /\ x <= b)) xs 0)) [] := by
  refine fun_ok (C := t_btw1) (hint := hintX [] [] 0 [] [] [] []) (t_btw1_ok) mixed Tryz.func97 rfl (by kernel_rfl) rfl ?_
  show codeA _ _ _ _ _ _ _ _
  simp only [go_sem, Tryz.results97]
  refine loop_intro (fun k : Nat => [(8, .int .i64 k), (7, .int .i64 xs.length), (0, .ints xs), (1, .fn 80 [.iptr [.int .i64 a], .iptr [.int .i64 b]])]) (fun _ => []) 0 (fun k => k <= xs.length /\ idxG (fun x => !decide (a <= x /\ x <= b)) (xs.drop k) k = idxG (fun x => !decide (a <= x /\ x <= b)) xs 0) (fun k => xs.length - k) 0 ⟨Nat.zero_le _, rfl⟩ (Nat.zero_le _) ?_ ?_
  · simp only [go_sem]
    repeat' (first | refine fork_intro (fun hb => ?_) (fun hb => ?_) | refine partB_intro (fun hb => ?_) (fun hb => ?_) | refine And.intro ?_ ?_)
    all_goals first | trivial | rfl | omega
  · rintro k ⟨hk, ht⟩
    simp only [go_sem]
    refine fork_intro (fun hb => ?_) (fun hb => ?_)
    · rw [drop_ix xs (show k < xs.length by omega), idxG] at ht
      refine ⟨by omega, fork_intro (fun hc => ?_) (fun hc => ?_)⟩
      · rw [if_neg (by simp [hc])] at ht
        refine ⟨by omega, ?_⟩
        refine LoopEnd.intro (k + 1) ⟨by omega, ht⟩ (by omega) (Nat.zero_le _) ?_
        simp only [go_sem]
        repeat' (first | refine fork_intro (fun hb => ?_) (fun hb => ?_) | refine partB_intro (fun hb => ?_) (fun hb => ?_) | refine And.intro ?_ ?_)
        all_goals first | trivial | rfl | omega
      · rw [if_pos (by simp [hc])] at ht
        rw [<- ht]
    · rw [show k = xs.length by omega, List.drop_length] at ht
      rw [<- ht]; rfl
def t_idxBtw : Table := [(97, pureC g_idxBtw)]
theorem t_idxBtw_ok : TabOK Tryz.prog t_idxBtw := .cons Tryz.func97 (by kernel_rfl) (.pure (by intro args hp; unfold g_idxBtw at hp ⊢; split at hp <;> first | exact hp.elim | exact idxBtw_ok _ _ _ hp)) (.nil _)
attribute [go_sem] g_idxBtw_eq t_idxBtw
def g_ctnBtw : List AV -> Prop × AV
  | [.ints xs, .fn 80 [.iptr [.int .i64 a], .iptr [.int .i64 b]]] => (xs.length <= 1048576000, .bool (xs.any fun x => !decide (a <= x /\ x <= b)))
  | _ => (False, .undef)
theorem g_ctnBtw_eq (xs : List Int) (a b : Int) : g_ctnBtw [.ints xs, .fn 80 [.iptr [.int .i64 a], .iptr [.int .i64 b]]] = (xs.length <= 1048576000, .bool (xs.any fun x => !decide (a <= x /\ x <= b))) := (rfl)
theorem ctnBtw_ok (xs : List Int) (a b : Int) (hp : xs.length <= 1048576000) : SpecOK Tryz.prog 79 [.ints xs, .fn 80 [.iptr [.int .i64 a], .iptr [.int .i64 b]]] (.bool (xs.any fun x => !decide (a <= x /\ x <= b))) [] := by
  refine fun_ok (C := t_idxBtw) (hint := hintX [] [] 0 [] [] [] []) (t_idxBtw_ok) mixed Tryz.func79 rfl (by kernel_rfl) rfl ?_
  show codeA _ _ _ _ _ _ _ _
  simp only [go_sem, Tryz.results79]
  refine ⟨hp, ?_⟩
  rw [<- idxG_any _ xs 0 (by omega)]
def t_ctnBtw : Table := [(79, pureC g_ctnBtw)]
theorem t_ctnBtw_ok : TabOK Tryz.prog t_ctnBtw := .cons Tryz.func79 (by kernel_rfl) (.pure (by intro args hp; unfold g_ctnBtw at hp ⊢; split at hp <;> first | exact hp.elim | exact ctnBtw_ok _ _ _ hp)) (.nil _)
attribute [go_sem] g_ctnBtw_eq t_ctnBtw
def g_areBtw : List AV -> Prop × AV
  | [.ints xs, .int .i64 a, .int .i64 b] => (xs.length <= 1048576000, .bool (xs.all fun x => decide (a <= x /\ x <= b)))
  | _ => (False, .undef)
theorem g_areBtw_eq (xs : List Int) (a b : Int) : g_areBtw [.ints xs, .int .i64 a, .int .i64 b] = (xs.length <= 1048576000, .bool (xs.all fun x => decide (a <= x /\ x <= b))) := (rfl)
theorem areBtw_ok (xs : List Int) (a b : Int) (hp : xs.length <= 1048576000) : SpecOK Tryz.prog 55 [.ints xs, .int .i64 a, .int .i64 b] (.bool (xs.all fun x => decide (a <= x /\ x <= b))) [] := by
  refine fun_ok (C := t_ctnBtw) (hint := hintX [] [] 0 [] [] [] []) (t_ctnBtw_ok) mixed Tryz.func55 rfl (by kernel_rfl) rfl ?_
  show codeA _ _ _ _ _ _ _ _
  simp only [go_sem, Tryz.results55]
  refine ⟨hp, ?_⟩
  congr 1
  rw [List.all_eq_not_any_not]
def t_areBtw : Table := [(55, pureC g_areBtw)]
theorem t_areBtw_ok : TabOK Tryz.prog t_areBtw := .cons Tryz.func55 (by kernel_rfl) (.pure (by intro args hp; unfold g_areBtw at hp ⊢; split at hp <;> first | exact hp.elim | exact areBtw_ok _ _ _ hp)) (.nil _)
attribute [go_sem] g_areBtw_eq t_areBtw
def g_l2Row : List AV -> Prop × AV
  | [.ints xs, .int .i64 n, .int .i64 m] => (xs.length <= 1048576000, .bool (rowOK m xs && decide ((xs.length : Int) = n)))
  | _ => (False, .undef)
theorem g_l2Row_eq (xs : List Int) (n m : Int) : g_l2Row [.ints xs, .int .i64 n, .int .i64 m] = (xs.length <= 1048576000, .bool (rowOK m xs && decide ((xs.length : Int) = n))) := (rfl)
theorem l2Row_ok (xs : List Int) (n m : Int) (hp : xs.length <= 1048576000) : SpecOK Tryz.prog 58 [.ints xs, .int .i64 n, .int .i64 m] (.bool (rowOK m xs && decide ((xs.length : Int) = n))) [] := by
  refine fun_ok (C := t_l1In) (hint := hintX [] [] 0 [] [] [] []) (t_l1In_ok) mixed Tryz.func58 rfl (by kernel_rfl) rfl ?_
  show codeA _ _ _ _ _ _ _ _
  simp only [go_sem, Tryz.results58]
  refine loop_intro (fun k : Nat => [(7, .int .i64 k), (0, .ints xs), (1, .int .i64 n), (2, .int .i64 m)]) (fun _ => []) 0 (fun k => k <= xs.length /\ rowOK m (xs.drop k) = rowOK m xs) (fun k => xs.length - k) 0 ⟨Nat.zero_le _, rfl⟩ (Nat.zero_le _) ?_ ?_
  · simp only [go_sem]
    repeat' (first | refine fork_intro (fun hb => ?_) (fun hb => ?_) | refine partB_intro (fun hb => ?_) (fun hb => ?_) | refine And.intro ?_ ?_)
    all_goals first | trivial | rfl | omega
  · rintro k ⟨hk, ht⟩
    simp only [go_sem]
    refine fork_intro (fun hb => ?_) (fun hb => ?_)
    · rw [drop_ix xs (show k < xs.length by omega)] at ht
      simp only [rowOK, List.all_cons] at ht
      refine ⟨by omega, fork_intro (fun hc => ?_) (fun hc => ?_)⟩
      · refine ⟨by omega, ?_⟩
        refine LoopEnd.intro (k + 1) ⟨by omega, ?_⟩ (by omega) (Nat.zero_le _) ?_
        · show ((xs.drop (k + 1)).all _) = _; rw [rowOK, <- ht]; simp [hc]
        · simp only [go_sem]
          repeat' (first | refine fork_intro (fun hb => ?_) (fun hb => ?_) | refine partB_intro (fun hb => ?_) (fun hb => ?_) | refine And.intro ?_ ?_)
          all_goals first | trivial | rfl | omega
      · rw [show rowOK m xs = false by rw [rowOK, <- ht]; simp [hc]]; rfl
    · rw [show k = xs.length by omega, List.drop_length] at ht
      rw [<- ht]; simp [rowOK]
def t_l2Row : Table := [(58, pureC g_l2Row)]
theorem t_l2Row_ok : TabOK Tryz.prog t_l2Row := .cons Tryz.func58 (by kernel_rfl) (.pure (by intro args hp; unfold g_l2Row at hp ⊢; split at hp <;> first | exact hp.elim | exact l2Row_ok _ _ _ hp)) (.nil _)
attribute [go_sem] g_l2Row_eq t_l2Row
def g_l2Good : List AV -> Prop × AV
  | [.agg [.ints o, .rows d]] => (o.length <= 1048576000 /\ d.length <= 1048576000 /\ ∀ x ∈ d, x.length <= 1048576000, .bool (good o d))
  | _ => (False, .undef)
theorem g_l2Good_eq (o : List Int) (d : List (List Int)) : g_l2Good [.agg [.ints o, .rows d]] = (o.length <= 1048576000 /\ d.length <= 1048576000 /\ ∀ x ∈ d, x.length <= 1048576000, .bool (good o d)) := (rfl)
theorem l2Good_ok (o : List Int) (d : List (List Int)) (hp : o.length <= 1048576000 /\ d.length <= 1048576000 /\ ∀ x ∈ d, x.length <= 1048576000) : SpecOK Tryz.prog 28 [.agg [.ints o, .rows d]] (.bool (good o d)) [] := by
  refine fun_ok (C := t_l1In ++ t_l2Row) (hint := hintX [] [] 0 [] [] [] []) ((t_l1In_ok).append t_l2Row_ok) mixed Tryz.func28 rfl (by kernel_rfl) rfl ?_
  show codeA _ _ _ _ _ _ _ _
  simp only [go_sem, Tryz.results28]
  obtain ⟨ho, hd, hr⟩ := hp
  have hg : good o d = ((d.all fun r => rowOK 99 r && decide ((r.length : Int) = o.length)) && (decide (1 <= (o.length : Int) /\ (o.length : Int) <= 7) && rowOK 99 o && decide ((d.length : Int) <= 7))) := by
    have e1 : (fun r : List Int => decide (r.length = o.length) && rowOK 99 r) = fun r => rowOK 99 r && decide ((r.length : Int) = o.length) := by
      funext r; rw [Bool.and_comm]; congr 1; exact decide_eq_decide.2 (by omega)
    have e2 : decide (1 <= o.length /\ o.length <= 7) = decide (1 <= (o.length : Int) /\ (o.length : Int) <= 7) := decide_eq_decide.2 (by omega)
    have e3 : decide (d.length <= 7) = decide ((d.length : Int) <= 7) := decide_eq_decide.2 (by omega)
    rw [good, e1, e2, e3, Bool.and_comm]
  refine loop_intro (fun k : Nat => [(4, .int .i64 k), (3, .int .i64 o.length), (1, .iptr [.ints o, .rows d])]) (fun _ => []) 0 (fun k => k <= d.length /\ ((d.drop k).all fun r => rowOK 99 r && decide ((r.length : Int) = o.length)) = d.all fun r => rowOK 99 r && decide ((r.length : Int) = o.length)) (fun k => d.length - k) 0 ⟨Nat.zero_le _, rfl⟩ (Nat.zero_le _) ?_ ?_
  · simp only [go_sem]
    repeat' (first | refine fork_intro (fun hb => ?_) (fun hb => ?_) | refine partB_intro (fun hb => ?_) (fun hb => ?_) | refine And.intro ?_ ?_)
    all_goals first | trivial | rfl | omega
  · rintro k ⟨hk, ht⟩
    simp only [go_sem]
    refine fork_intro (fun hb => ?_) (fun hb => ?_)
    · have hmem := ix_mem d (show k < d.length by omega)
      rw [drop_ix d (show k < d.length by omega), List.all_cons] at ht
      refine ⟨by omega, hr _ hmem, partB_intro (fun hc => ?_) (fun hc => ?_)⟩
      · refine ⟨by omega, ?_⟩
        refine LoopEnd.intro (k + 1) ⟨by omega, ?_⟩ (by omega) (Nat.zero_le _) ?_
        · rw [<- ht, hc]; rfl
        · simp only [go_sem]
          repeat' (first | refine fork_intro (fun hb => ?_) (fun hb => ?_) | refine partB_intro (fun hb => ?_) (fun hb => ?_) | refine And.intro ?_ ?_)
          all_goals first | trivial | rfl | omega
      · rw [hg, <- ht, hc]; rfl
    · rw [show k = d.length by omega, List.drop_length] at ht
      rw [hg, <- ht]
      refine fork_intro (fun hc => ?_) (fun hc => ?_)
      · refine ⟨ho, partB_intro (fun hd => ?_) (fun hd => ?_)⟩
        · have hd' : rowOK 99 o = true := by simpa using hd
          simp [hc, hd']
        · have hd' : rowOK 99 o = false := by simpa using hd
          simp [hd']
      · simp [hc]
def t_l2Good : Table := [(28, pureC g_l2Good)]
theorem t_l2Good_ok : TabOK Tryz.prog t_l2Good := .cons Tryz.func28 (by kernel_rfl) (.pure (by intro args hp; unfold g_l2Good at hp ⊢; split at hp <;> first | exact hp.elim | exact l2Good_ok _ _ hp)) (.nil _)
attribute [go_sem] g_l2Good_eq t_l2Good
def g_isF1 : List AV -> Prop × AV
  | [.ints r, .iptr [.ints o, .rows d]] => (r.length <= 1048576000, .bool (!(decide ((r.length : Int) = o.length) && rowOK 99 r)))
  | _ => (False, .undef)
theorem g_isF1_eq (r o : List Int) (d : List (List Int)) : g_isF1 [.ints r, .iptr [.ints o, .rows d]] = (r.length <= 1048576000, .bool (!(decide ((r.length : Int) = o.length) && rowOK 99 r))) := (rfl)
theorem isF1_ok (r o : List Int) (d : List (List Int)) (hp : r.length <= 1048576000) : SpecOK Tryz.prog 57 [.ints r, .iptr [.ints o, .rows d]] (.bool (!(decide ((r.length : Int) = o.length) && rowOK 99 r))) [] := by
  refine fun_ok (C := t_areBtw) (hint := hintX [] [] 0 [] [] [] []) (t_areBtw_ok) mixed Tryz.func57 rfl (by kernel_rfl) rfl ?_
  show codeA _ _ _ _ _ _ _ _
  simp only [go_sem, Tryz.results57]
  refine fork_intro (fun h1 => ?_) (fun h1 => ?_)
  · exact ⟨hp, by simp [h1, rowOK]⟩
  · simp [h1]
def t_isF1 : Table := [(57, pureC g_isF1)]
theorem t_isF1_ok : TabOK Tryz.prog t_isF1 := .cons Tryz.func57 (by kernel_rfl) (.pure (by intro args hp; unfold g_isF1 at hp ⊢; split at hp <;> first | exact hp.elim | exact isF1_ok _ _ _ hp)) (.nil _)
attribute [go_sem] g_isF1_eq t_isF1
def g_idxF : List AV -> Prop × AV
  | [.rows xs, .fn 57 [.iptr [.ints o, .rows d]]] => (xs.length <= 1048576000 /\ ∀ x ∈ xs, x.length <= 1048576000, .int .i64 (idxG (fun r : List Int => !(decide ((r.length : Int) = o.length) && rowOK 99 r)) xs 0))
  | _ => (False, .undef)
theorem g_idxF_eq (xs : List (List Int)) (o : List Int) (d : List (List Int)) : g_idxF [.rows xs, .fn 57 [.iptr [.ints o, .rows d]]] = (xs.length <= 1048576000 /\ ∀ x ∈ xs, x.length <= 1048576000, .int .i64 (idxG (fun r : List Int => !(decide ((r.length : Int) = o.length) && rowOK 99 r)) xs 0)) := (rfl)
theorem idxF_ok (xs : List (List Int)) (o : List Int) (d : List (List Int)) (hp : xs.length <= 1048576000 /\ ∀ x ∈ xs, x.length <= 1048576000) : SpecOK Tryz.prog 81 [.rows xs, .fn 57 [.iptr [.ints o, .rows d]]] (.int .i64 (idxG (fun r : List Int => !(decide ((r.length : Int) = o.length) && rowOK 99 r)) xs 0)) [] := by
  refine fun_ok (C := t_isF1) (hint := hintX [] [] 0 [] [] [] []) (t_isF1_ok) mixed Tryz.func81 rfl (by kernel_rfl) rfl ?_
  show codeA _ _ _ _ _ _ _ _
  simp only [go_sem, Tryz.results81]
  obtain ⟨hx, hr⟩ := hp
  refine loop_intro (fun k : Nat => [(8, .int .i64 k), (7, .int .i64 xs.length), (0, .rows xs), (1, .fn 57 [.iptr [.ints o, .rows d]])]) (fun _ => []) 0 (fun k => k <= xs.length /\ idxG (fun r : List Int => !(decide ((r.length : Int) = o.length) && rowOK 99 r)) (xs.drop k) k = idxG (fun r : List Int => !(decide ((r.length : Int) = o.length) && rowOK 99 r)) xs 0) (fun k => xs.length - k) 0 ⟨Nat.zero_le _, rfl⟩ (Nat.zero_le _) ?_ ?_
  · simp only [go_sem]
    repeat' (first | refine fork_intro (fun hb => ?_) (fun hb => ?_) | refine partB_intro (fun hb => ?_) (fun hb => ?_) | refine And.intro ?_ ?_)
    all_goals first | trivial | rfl | omega
  · rintro k ⟨hk, ht⟩
    simp only [go_sem]
    refine fork_intro (fun hb => ?_) (fun hb => ?_)
    · have hmem := ix_mem xs (show k < xs.length by omega)
      rw [drop_ix xs (show k < xs.length by omega), idxG] at ht
      refine ⟨by omega, hr _ hmem, partB_intro (fun hc => ?_) (fun hc => ?_)⟩
      · rw [if_neg (by simp [hc])] at ht
        refine ⟨by omega, ?_⟩
        refine LoopEnd.intro (k + 1) ⟨by omega, ht⟩ (by omega) (Nat.zero_le _) ?_
        simp only [go_sem]
        repeat' (first | refine fork_intro (fun hb => ?_) (fun hb => ?_) | refine partB_intro (fun hb => ?_) (fun hb => ?_) | refine And.intro ?_ ?_)
        all_goals first | trivial | rfl | omega
      · rw [if_pos (by simp [hc])] at ht
        rw [<- ht]
    · rw [show k = xs.length by omega, List.drop_length] at ht
      rw [<- ht]; rfl
def t_idxF : Table := [(81, pureC g_idxF)]
theorem t_idxF_ok : TabOK Tryz.prog t_idxF := .cons Tryz.func81 (by kernel_rfl) (.pure (by intro args hp; unfold g_idxF at hp ⊢; split at hp <;> first | exact hp.elim | exact idxF_ok _ _ _ hp)) (.nil _)
attribute [go_sem] g_idxF_eq t_idxF
def g_ctnF : List AV -> Prop × AV
  | [.rows xs, .fn 57 [.iptr [.ints o, .rows d]]] => (xs.length <= 1048576000 /\ ∀ x ∈ xs, x.length <= 1048576000, .bool (xs.any fun r : List Int => !(decide ((r.length : Int) = o.length) && rowOK 99 r)))
  | _ => (False, .undef)
theorem g_ctnF_eq (xs : List (List Int)) (o : List Int) (d : List (List Int)) : g_ctnF [.rows xs, .fn 57 [.iptr [.ints o, .rows d]]] = (xs.length <= 1048576000 /\ ∀ x ∈ xs, x.length <= 1048576000, .bool (xs.any fun r : List Int => !(decide ((r.length : Int) = o.length) && rowOK 99 r))) := (rfl)
theorem ctnF_ok (xs : List (List Int)) (o : List Int) (d : List (List Int)) (hp : xs.length <= 1048576000 /\ ∀ x ∈ xs, x.length <= 1048576000) : SpecOK Tryz.prog 56 [.rows xs, .fn 57 [.iptr [.ints o, .rows d]]] (.bool (xs.any fun r : List Int => !(decide ((r.length : Int) = o.length) && rowOK 99 r))) [] := by
  refine fun_ok (C := t_idxF) (hint := hintX [] [] 0 [] [] [] []) (t_idxF_ok) mixed Tryz.func56 rfl (by kernel_rfl) rfl ?_
  show codeA _ _ _ _ _ _ _ _
  simp only [go_sem, Tryz.results56]
  refine ⟨hp, ?_⟩
  rw [<- idxG_any _ xs 0 (by omega)]
def t_ctnF : Table := [(56, pureC g_ctnF)]
theorem t_ctnF_ok : TabOK Tryz.prog t_ctnF := .cons Tryz.func56 (by kernel_rfl) (.pure (by intro args hp; unfold g_ctnF at hp ⊢; split at hp <;> first | exact hp.elim | exact ctnF_ok _ _ _ hp)) (.nil _)
attribute [go_sem] g_ctnF_eq t_ctnF
def g_isF : List AV -> Prop × AV
  | [.agg [.ints o, .rows d]] => (o.length <= 1048576000 /\ d.length <= 1048576000 /\ ∀ x ∈ d, x.length <= 1048576000, .bool (good o d))
  | _ => (False, .undef)
theorem g_isF_eq (o : List Int) (d : List (List Int)) : g_isF [.agg [.ints o, .rows d]] = (o.length <= 1048576000 /\ d.length <= 1048576000 /\ ∀ x ∈ d, x.length <= 1048576000, .bool (good o d)) := (rfl)
theorem isF_ok (o : List Int) (d : List (List Int)) (hp : o.length <= 1048576000 /\ d.length <= 1048576000 /\ ∀ x ∈ d, x.length <= 1048576000) : SpecOK Tryz.prog 25 [.agg [.ints o, .rows d]] (.bool (good o d)) [] := by
  refine fun_ok (C := t_between ++ t_areBtw ++ t_ctnF) (hint := hintX [] [] 0 [] [] [] []) (((t_between_ok).append t_areBtw_ok).append t_ctnF_ok) mixed Tryz.func25 rfl (by kernel_rfl) rfl ?_
  show codeA _ _ _ _ _ _ _ _
  simp only [go_sem, Tryz.results25]
  obtain ⟨ho, hd, hr⟩ := hp
  have hg : good o d = (decide (1 <= (o.length : Int) /\ (o.length : Int) <= 7) && rowOK 99 o && decide ((d.length : Int) <= 7) && !d.any fun r : List Int => !(decide ((r.length : Int) = o.length) && rowOK 99 r)) := by
    have e1 : (fun r : List Int => decide (r.length = o.length) && rowOK 99 r) = fun r => decide ((r.length : Int) = o.length) && rowOK 99 r := by
      funext r; congr 1; exact decide_eq_decide.2 (by omega)
    have e2 : decide (1 <= o.length /\ o.length <= 7) = decide (1 <= (o.length : Int) /\ (o.length : Int) <= 7) := decide_eq_decide.2 (by omega)
    have e3 : decide (d.length <= 7) = decide ((d.length : Int) <= 7) := decide_eq_decide.2 (by omega)
    rw [good, e1, e2, e3, List.all_eq_not_any_not]
  refine fork_intro (fun h1 => ?_) (fun h1 => ?_)
  · refine ⟨ho, partB_intro (fun h2 => ?_) (fun h2 => ?_)⟩
    · have h2' : rowOK 99 o = true := h2
      refine fork_intro (fun h3 => ?_) (fun h3 => ?_)
      · exact ⟨⟨hd, hr⟩, by rw [hg]; simp [h1, h2', h3]⟩
      · rw [hg]; simp [h3]
    · have h2' : rowOK 99 o = false := h2
      rw [hg]; simp [h2']
  · rw [hg]; simp [h1]
def t_isF : Table := [(25, pureC g_isF)]
theorem t_isF_ok : TabOK Tryz.prog t_isF := .cons Tryz.func25 (by kernel_rfl) (.pure (by intro args hp; unfold g_isF at hp ⊢; split at hp <;> first | exact hp.elim | exact isF_ok _ _ hp)) (.nil _)
attribute [go_sem] g_isF_eq t_isF
end Go.Proofs.YteefjdbdknkcjaaGreatDoor
namespace Go.Vc
set_option linter.unusedSimpArgs false
set_option linter.unusedVariables false

/-! sums -/
def sumN (f : Nat -> Int) : Nat -> Int
  | 0 => 0
  | n + 1 => sumN f n + f n
theorem sumN_congr {f g : Nat -> Int} : ∀ {n : Nat}, (∀ i, i < n -> f i = g i) -> sumN f n = sumN g n
  | 0, _ => rfl
  | n + 1, h => by rw [sumN, sumN, sumN_congr (fun i hi => h i (by omega)), h n (by omega)]
theorem sumN_add (f g : Nat -> Int) : ∀ n : Nat, sumN (fun i => f i + g i) n = sumN f n + sumN g n
  | 0 => rfl
  | n + 1 => by simp only [sumN]; rw [sumN_add f g n]; omega
theorem sumN_zero {f : Nat -> Int} : ∀ {n : Nat}, (∀ i, i < n -> f i = 0) -> sumN f n = 0
  | 0, _ => rfl
  | n + 1, h => by rw [sumN, sumN_zero (fun i hi => h i (by omega)), h n (by omega)]; rfl
theorem sumN_bd {f : Nat -> Int} {lo hi : Int} : ∀ {n : Nat}, (∀ i, i < n -> lo <= f i /\ f i <= hi) -> lo * n <= sumN f n /\ sumN f n <= hi * n
  | 0, _ => by simp [sumN]
  | n + 1, h => by
    have h1 := sumN_bd (n := n) (fun i hi => h i (by omega))
    have h2 := h n (by omega)
    rw [sumN]
    simp only [Int.natCast_add, Int.mul_add, Int.natCast_one, Int.mul_one]
    omega

/-! trees: a list of parents -/
structure TreeOK (ps : List Int) : Prop where
  n1 : 1 <= ps.length
  n7 : ps.length <= 7
  root : ix ps 0 = -1
  par : ∀ k : Nat, k < ps.length -> 0 < k -> 0 <= ix ps (k : Int) /\ ix ps (k : Int) < k
def tree (ps : List Int) : Bool := decide ((1 <= ps.length /\ ps.length <= 7) /\ ix ps 0 = -1 /\ ∀ k : Nat, k < ps.length -> 0 < k -> 0 <= ix ps (k : Int) /\ ix ps (k : Int) < k)
def upT (ps : List Int) (x : Nat) : Nat -> Nat -> Nat
  | 0, z => z
  | f + 1, z => if x < z then upT ps x f (ix ps (z : Int)).toNat else z
def up (ps : List Int) (x y : Nat) : Nat := upT ps x y y
def wtT (ps ws : List Int) (x : Nat) : Int := sumN (fun y => if up ps x y = x then ix ws (y : Int) else 0) ps.length
def belowT (ps ws : List Int) (x v : Nat) : Int := sumN (fun y => if up ps (max x v) y = v then ix ws (y : Int) else 0) ps.length
def belowL (ps ws : List Int) (x : Nat) : List Int := (List.range ps.length).map fun v => belowT ps ws x v
/-! lengths in a tree -/
def apt (ps ls : List Int) : Nat -> Nat -> Nat -> Int
  | 0, _, _ => 0
  | f + 1, x, y => if x = y then 0 else if y < x then ix ls (x : Int) + apt ps ls f (ix ps (x : Int)).toNat y else ix ls (y : Int) + apt ps ls f x (ix ps (y : Int)).toNat
def apart (ps ls : List Int) (x y : Nat) : Int := apt ps ls (x + y) x y
def mostT (ps ws : List Int) (x : Nat) : Nat -> Int
  | 0 => wtT ps ws 0 - wtT ps ws x
  | y + 1 => if ix ps (y : Int) = x then max (mostT ps ws x y) (wtT ps ws y) else mostT ps ws x y
def fst (p : Nat -> Bool) (n : Nat) : Option Nat := (List.range n).find? p
def majP (ps ws : List Int) (x : Nat) : Bool := decide (2 * mostT ps ws x ps.length <= wtT ps ws 0)
def majOK (ps ws : List Int) : Bool := tree ps && (rowOK 99 ws && decide ((ws.length : Int) = ps.length))
def majI (ps ws : List Int) : Int := match fst (majP ps ws) ps.length with | some k => (k : Int) | none => 0
def majB (ps ws : List Int) : Bool := (fst (majP ps ws) ps.length).isSome
end Go.Vc
namespace Go.Proofs.YteefjdbdknkcjaaGreatDoor
open Go.Vc
set_option maxRecDepth 100000
set_option linter.unusedSimpArgs false
set_option linter.unusedVariables false

def treeP (ps : List Int) (k : Nat) : Prop := (k = 0 -> ix ps 0 = -1) /\ (0 < k -> 0 <= ix ps (k : Int) /\ ix ps (k : Int) < k)
def g_most2 : List AV -> Prop × AV
  | [.int .i64 a, .int .i64 b] => (True, .int .i64 (max a b))
  | _ => (False, .undef)
theorem g_most2_eq (a b : Int) : g_most2 [.int .i64 a, .int .i64 b] = (True, .int .i64 (max a b)) := (rfl)
theorem most2_ok (a b : Int) (hp : True) : SpecOK Tryz.prog 85 [.int .i64 a, .int .i64 b] (.int .i64 (max a b)) [] := by
  refine fun_ok (C := []) (hint := hintX [] [] 0 [] [] [] []) (TabOK.nil _) mixed Tryz.func85 rfl (by kernel_rfl) rfl ?_
  show codeA _ _ _ _ _ _ _ _
  simp only [go_sem, Tryz.results85]
  repeat' (first | refine fork_intro (fun hb => ?_) (fun hb => ?_) | refine partB_intro (fun hb => ?_) (fun hb => ?_) | refine And.intro ?_ ?_)
  all_goals first | exact True.intro | omega | with_reducible rfl | exact congrArg (AV.int _) (by omega) | (first | congr 1; omega)
def t_most2 : Table := [(85, pureC g_most2)]
theorem t_most2_ok : TabOK Tryz.prog t_most2 := .cons Tryz.func85 (by kernel_rfl) (.pure (by intro args hp; unfold g_most2 at hp ⊢; split at hp <;> first | exact hp.elim | exact most2_ok _ _ hp)) (.nil _)
attribute [go_sem] g_most2_eq t_most2
def g_cloneI : List AV -> Prop × AV × Heap
  | [.ints xs] => (xs.length <= 1048576000, .sl 0, [(0, .arr (.ints xs))])
  | _ => (False, .undef, [])
theorem g_cloneI_eq (xs : List Int) : g_cloneI [.ints xs] = (xs.length <= 1048576000, .sl 0, [(0, .arr (.ints xs))]) := (rfl)
theorem cloneI_ok (xs : List Int) (hp : xs.length <= 1048576000) : SpecOK Tryz.prog 26 [.ints xs] (.sl 0) [(0, .arr (.ints xs))] := by
  refine fun_ok (C := []) (hint := hintX [5, 7] [(2, [.post, .up 2 (.arr (.ints []))])] 0 [] [] [] []) (TabOK.nil _) mixed Tryz.func26 rfl (by kernel_rfl) rfl ?_
  show codeA _ _ _ _ _ _ _ _
  simp only [go_sem, Tryz.results26]
  intro b hb
  exact partB_intro (fun h => by rw [hb h]) (fun h => by omega)
def t_cloneI : Table := [(26, ownC g_cloneI)]
theorem t_cloneI_ok : TabOK Tryz.prog t_cloneI := .cons Tryz.func26 (by kernel_rfl) (.own (by intro args hp; unfold g_cloneI at hp ⊢; split at hp <;> first | exact hp.elim | exact ⟨cloneI_ok _ hp, rfl⟩)) (.nil _)
attribute [go_sem] g_cloneI_eq t_cloneI
def wtF (ps ws : List Int) (x y : Nat) : Int := if up ps x y = x then ix ws (y : Int) else 0
end Go.Proofs.YteefjdbdknkcjaaGreatDoor
namespace Go.Vc
set_option linter.unusedSimpArgs false
set_option linter.unusedVariables false

/-! lists by a rule -/
def tab {α : Type} (n : Nat) (f : Nat -> α) : List α := (List.range n).map f
theorem tab_len {α : Type} (n : Nat) (f : Nat -> α) : (tab n f).length = n := by simp [tab]
theorem tab_ix {α : Type} [Inhabited α] {n : Nat} {f : Nat -> α} {k : Nat} (h : k < n) : ix (tab n f) (k : Int) = f k := by
  have h1 := ix_some (tab n f) (k := k) (by rw [tab_len]; exact h)
  have h2 : (tab n f)[k]? = some (f k) := by simp [tab, h]
  rw [h1] at h2
  exact Option.some.inj h2
theorem tab_succ {α : Type} (n : Nat) (f : Nat -> α) : tab (n + 1) f = tab n f ++ [f n] := by simp [tab, List.range_succ]
theorem tab_congr {α : Type} {n : Nat} {f g : Nat -> α} (h : ∀ k, k < n -> f k = g k) : tab n f = tab n g := by
  unfold tab
  exact List.map_congr_left (fun k hk => h k (List.mem_range.1 hk))
theorem tab_of {α : Type} [Inhabited α] (xs : List α) : tab xs.length (fun k => ix xs (k : Int)) = xs :=
  ix_ext (by rw [tab_len]) (fun k hk => by rw [tab_len] at hk; rw [tab_ix hk])
theorem mem_tab {α : Type} {n : Nat} {f : Nat -> α} {x : α} : x ∈ tab n f ↔ ∃ k, k < n /\ f k = x := by simp [tab]
def sel (p : Nat -> Bool) : Nat -> List Int
  | 0 => []
  | n + 1 => if p n = true then sel p n ++ [(n : Int)] else sel p n
theorem sel_t {p : Nat -> Bool} {n : Nat} (h : p n = true) : sel p (n + 1) = sel p n ++ [(n : Int)] := by rw [sel, if_pos h]
theorem sel_f {p : Nat -> Bool} {n : Nat} (h : p n = false) : sel p (n + 1) = sel p n := by rw [sel, if_neg (by rw [h]; simp)]
theorem sel_len (p : Nat -> Bool) : ∀ n, (sel p n).length <= n
  | 0 => Nat.le_refl _
  | n + 1 => by
    have := sel_len p n
    unfold sel
    split
    · simp; omega
    · omega
theorem mem_sel {p : Nat -> Bool} {x : Int} : ∀ {n : Nat}, x ∈ sel p n ↔ ∃ k : Nat, k < n /\ p k = true /\ (k : Int) = x
  | 0 => by simp [sel]
  | n + 1 => by
    unfold sel
    split
    · rename_i h
      rw [List.mem_append, mem_sel (n := n)]
      constructor
      · rintro (⟨k, h1, h2, h3⟩ | h1)
        · exact ⟨k, by omega, h2, h3⟩
        · simp at h1; exact ⟨n, by omega, h, h1.symm⟩
      · rintro ⟨k, h1, h2, h3⟩
        by_cases e : k = n
        · subst e; right; simpa using h3.symm
        · exact .inl ⟨k, by omega, h2, h3⟩
    · rename_i h
      rw [mem_sel (n := n)]
      constructor
      · rintro ⟨k, h1, h2, h3⟩; exact ⟨k, by omega, h2, h3⟩
      · rintro ⟨k, h1, h2, h3⟩
        by_cases e : k = n
        · subst e; exact (h h2).elim
        · exact ⟨k, by omega, h2, h3⟩

/-! what holds for all numbers less than n -/
def allN (p : Nat -> Bool) (n : Nat) : Bool := (List.range n).all p
theorem allN_iff {p : Nat -> Bool} {n : Nat} : allN p n = true ↔ ∀ k, k < n -> p k = true := by simp [allN]
theorem mul_bd {n u a b : Int} (hn : 0 <= n /\ n <= a) (hu : 0 <= u /\ u <= b) : 0 <= n * u /\ n * u <= a * b :=
  ⟨Int.mul_nonneg hn.1 hu.1, Int.mul_le_mul hn.2 hu.2 hu.1 (by omega)⟩

/-! fields -/
theorem FieldOK.o_ix {o : List Int} {d : List (List Int)} (h : FieldOK o d) {a : Int} (h0 : 0 <= a) (h1 : a < o.length) : 0 <= ix o a /\ ix o a <= 99 := h.o99 _ (ix_memI o h0 h1)
theorem FieldOK.d_len {o : List Int} {d : List (List Int)} (h : FieldOK o d) {k : Int} (h0 : 0 <= k) (h1 : k < d.length) : (ix d k).length = o.length := h.len _ (ix_memI d h0 h1)
theorem FieldOK.d_ix {o : List Int} {d : List (List Int)} (h : FieldOK o d) {k a : Int} (h0 : 0 <= k) (h1 : k < d.length) (h2 : 0 <= a) (h3 : a < o.length) : 0 <= ix (ix d k) a /\ ix (ix d k) a <= 99 :=
  h.d99 _ (ix_memI d h0 h1) _ (ix_memI _ h2 (by rw [h.d_len h0 h1]; exact h3))

structure Small (o : List Int) (d : List (List Int)) : Prop where
  ho : o.length <= 7
  hd : d.length <= 7
  hs : sumLen d <= 49
  h0 : 0 <= sumLen d
  hr : ∀ x ∈ d, x.length <= 1048576000
/-! prices -/
def pricesOK (o : List Int) (d : List (List Int)) (ps : List Int) : Bool := rowOK 500 ps && (good o d && decide ((ps.length : Int) = d.length))
structure PricesOK (o : List Int) (d : List (List Int)) (ps : List Int) : Prop where
  f : FieldOK o d
  len : ps.length = d.length
  p0 : ∀ k : Nat, k < ps.length -> 0 <= ix ps (k : Int) /\ ix ps (k : Int) <= 500
structure ClmOK (o : List Int) (d : List (List Int)) (ps : List Int) (u : Int) : Prop where
  f : FieldOK o d
  len : ps.length = d.length
  p0 : ∀ k : Nat, k < ps.length -> 0 <= ix ps (k : Int) /\ ix ps (k : Int) <= 1000000
  u0 : 0 <= u /\ u <= 2520
theorem PricesOK.clm {o : List Int} {d : List (List Int)} {ps : List Int} (h : PricesOK o d ps) : ClmOK o d ps 1 := ⟨h.f, h.len, fun k hk => by have := h.p0 k hk; omega, by omega⟩
def clmT (d : List (List Int)) (ps : List Int) (u a : Int) (j : Nat) : Int := max 0 (ix ps (j : Int) - u * ix (ix d (j : Int)) a)
def clm (d : List (List Int)) (ps : List Int) (u a : Int) : Int := sumN (clmT d ps u a) ps.length
def clms (d : List (List Int)) (ps : List Int) (u : Int) (n : Nat) : List Int := tab n (fun a => clm d ps u (a : Int))
theorem ClmOK.t_bd {o : List Int} {d : List (List Int)} {ps : List Int} {u : Int} (h : ClmOK o d ps u) {a : Int} (h0 : 0 <= a) (h1 : a < o.length) {j : Nat} (hj : j < ps.length) :
    (0 <= u * ix (ix d (j : Int)) a /\ u * ix (ix d (j : Int)) a <= 249480) /\ 0 <= clmT d ps u a j /\ clmT d ps u a j <= 1000000 := by
  have h2 := h.f.d_ix (k := (j : Int)) (a := a) (by omega) (by have := h.len; omega) h0 h1
  have h3 := mul_bd h.u0 h2
  have h4 := h.p0 j hj
  unfold clmT
  omega
theorem ClmOK.s_bd {o : List Int} {d : List (List Int)} {ps : List Int} {u : Int} (h : ClmOK o d ps u) {a : Int} (h0 : 0 <= a) (h1 : a < o.length) {j : Nat} (hj : j <= ps.length) : 0 <= sumN (clmT d ps u a) j /\ sumN (clmT d ps u a) j <= 7000000 := by
  have h2 := sumN_bd (f := clmT d ps u a) (lo := 0) (hi := 1000000) (n := j) (fun i hi => (h.t_bd h0 h1 (by omega)).2)
  have := h.len
  have := h.f.m7
  omega
theorem ClmOK.bd {o : List Int} {d : List (List Int)} {ps : List Int} {u : Int} (h : ClmOK o d ps u) {a : Int} (h0 : 0 <= a) (h1 : a < o.length) : 0 <= clm d ps u a /\ clm d ps u a <= 7000000 := h.s_bd h0 h1 (Nat.le_refl _)
def restsL (o : List Int) (d : List (List Int)) (ps : List Int) : List Int := tab o.length (fun a => ix o (a : Int) - clm d ps 1 (a : Int))
def fairB (o : List Int) (d : List (List Int)) (ps : List Int) : Bool := allN (fun a => decide (clm d ps 1 (a : Int) <= ix o (a : Int))) o.length
def tightL (o : List Int) (d : List (List Int)) (ps : List Int) : List Int := sel (fun a => decide (clm d ps 1 (a : Int) = ix o (a : Int))) o.length
def minF : List Int -> Int -> Int
  | [], m => m
  | x :: r, m => minF r (min m x)
def maxF : List Int -> Int -> Int
  | [], m => m
  | x :: r, m => maxF r (max m x)
theorem minF_ge : ∀ (xs : List Int) (m b : Int), b <= minF xs m ↔ b <= m /\ ∀ x ∈ xs, b <= x
  | [], m, b => by simp [minF]
  | x :: r, m, b => by
    rw [minF, minF_ge r]
    simp only [List.mem_cons, forall_eq_or_imp]
    rw [Int.le_min]
    exact ⟨fun ⟨⟨h1, h2⟩, h3⟩ => ⟨h1, h2, h3⟩, fun ⟨h1, h2, h3⟩ => ⟨⟨h1, h2⟩, h3⟩⟩
def minL (xs : List Int) : Int := minF (xs.drop 1) (ix xs 0)
def maxL (xs : List Int) : Int := maxF (xs.drop 1) (ix xs 0)
theorem minL_ge {xs : List Int} (h : 0 < xs.length) (b : Int) : b <= minL xs ↔ ∀ x ∈ xs, b <= x := by
  cases xs with
  | nil => simp at h
  | cons x r =>
    unfold minL
    rw [minF_ge]
    simp [ix_cons_zero]
end Go.Vc
