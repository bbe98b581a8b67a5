/- Texts joined: PlJ FT PlH X0 X1M X1 X2S PlX X2 X5 FP EA EF SC XE. -/
import Derived.Test.YteefjdbdknkcjaaGreatDoorJ4
import Derived.Lib.Join
import Derived.Lib.AtoiTie
import Derived.Test.YteefjdbdknkcjaaGreatDoorTy
import Derived.Test.YteefjdbdknkcjaaGreatDoorShelf
import Derived.Below
import Derived.Sort.Grow
namespace Go.Proofs.YteefjdbdknkcjaaGreatDoor
open Go.Vc
set_option maxRecDepth 100000
set_option linter.unusedSimpArgs false
set_option linter.unusedVariables false

def joinB (xs : List ByteArray) (sep : ByteArray) : ByteArray := ⟨(Lib.join (xs.map (·.data.toList)) sep.data.toList).toArray⟩
theorem joinB_one (x sep : ByteArray) : joinB [x] sep = x := by
  unfold joinB
  rw [List.map_cons, List.map_nil, Lib.join_one]
theorem joinB_snoc {xs : List ByteArray} (h : xs ≠ []) (y sep : ByteArray) : joinB (xs ++ [y]) sep = joinB xs sep ++ sep ++ y := by
  cases xs with
  | nil => exact (h rfl).elim
  | cons a r =>
    apply ByteArray.ext
    rw [ByteArray.data_append, ByteArray.data_append]
    unfold joinB
    rw [List.cons_append, List.map_cons, List.map_cons, Lib.join_cons, Lib.join_cons]
    unfold Lib.joinTail
    simp
theorem empty_app (a : ByteArray) : (⟨#[]⟩ : ByteArray) ++ a = a := by
  apply ByteArray.ext
  rw [ByteArray.data_append]; simp
theorem joinB_size_snoc {xs : List ByteArray} (h : xs ≠ []) (y sep : ByteArray) : (joinB (xs ++ [y]) sep).size = (joinB xs sep).size + sep.size + y.size := by
  rw [joinB_snoc h, ByteArray.size_append, ByteArray.size_append]
theorem joinB_le {n : Nat} (sep : ByteArray) : ∀ (xs : List ByteArray), (∀ x ∈ xs, x.size <= n) -> (joinB xs sep).size <= (n + sep.size) * xs.length := by
  have key : ∀ (k : Nat) (xs : List ByteArray), xs.length = k -> (∀ x ∈ xs, x.size <= n) -> (joinB xs sep).size <= (n + sep.size) * xs.length := by
    intro k
    induction k with
    | zero => intro xs h _; rw [List.length_eq_zero_iff.1 h]; exact Nat.zero_le _
    | succ k ih =>
      intro xs h hx
      obtain ⟨ys, y, rfl⟩ : ∃ ys y, xs = ys ++ [y] := ⟨xs.dropLast, xs.getLast (by intro e; rw [e] at h; cases h), (List.dropLast_concat_getLast _).symm⟩
      have hl : ys.length = k := by rw [List.length_append] at h; simpa using h
      have h1 := ih ys hl (fun x hm => hx x (by simp [hm]))
      have h2 := hx y (by simp)
      rw [List.length_append, List.length_singleton, Nat.mul_add, Nat.mul_one]
      by_cases hne : ys = []
      · subst hne; rw [List.nil_append, joinB_one]; simp; omega
      · rw [joinB_size_snoc hne]; omega
  exact fun xs hx => key _ xs rfl hx
theorem beqL (a b : ByteArray) : (a.toList == b.toList) = decide (a = b) := by
  rw [ByteArray.toList_eq, ByteArray.toList_eq]
  by_cases h : a = b
  · rw [h]; simp
  · rw [decide_eq_false h]
    rw [beq_eq_false_iff_ne]
    intro e
    exact h (by cases a; cases b; congr 1; exact Array.ext' e)
def sumZ : List ByteArray -> Nat
  | [] => 0
  | x :: r => x.size + sumZ r
def wordsB (xs : List Int) : ByteArray := joinB (xs.map numB) ⟨#[32]⟩
theorem take_succ_map {α β : Type} [Inhabited α] (f : α -> β) (xs : List α) {k : Nat} (h : k < xs.length) : (xs.take (k + 1)).map f = (xs.take k).map f ++ [f (ix xs (k : Int))] := by
  have e := ix_some xs h
  rw [List.take_add_one, e, Option.toList_some, List.map_append, List.map_cons, List.map_nil]
theorem take_ne {α : Type} {xs : List α} {k : Nat} (h : k < xs.length) (hk : 0 < k) : xs.take k ≠ [] := by
  intro e
  have := congrArg List.length e
  rw [List.length_take, Nat.min_eq_left (by omega), List.length_nil] at this
  omega
theorem words_take (xs : List Int) {k : Nat} (h : k < xs.length) (hk : 0 < k) : wordsB (xs.take (k + 1)) = wordsB (xs.take k) ++ ⟨#[32]⟩ ++ numB (ix xs (k : Int)) := by
  unfold wordsB
  rw [take_succ_map numB xs h, joinB_snoc]
  intro e
  exact take_ne h hk (List.map_eq_nil_iff.1 e)
theorem words_first (xs : List Int) (h : 0 < xs.length) : wordsB (xs.take (0 + 1)) = numB (ix xs ((0 : Nat) : Int)) := by
  unfold wordsB
  rw [take_succ_map numB xs h, List.take_zero, List.map_nil, List.nil_append, joinB_one]
theorem words_le {xs : List Int} (h : ∀ x ∈ xs, 0 <= x /\ x <= 99) : (wordsB xs).size <= 22 * xs.length := by
  unfold wordsB
  have := joinB_le (n := 21) ⟨#[32]⟩ (xs.map numB) (fun x hx => by
    obtain ⟨n, hn, rfl⟩ := List.mem_map.1 hx
    have := h n hn
    exact numB_size n (by omega) (by omega))
  rw [List.length_map] at this
  exact this
def textL (o : List Int) (d : List (List Int)) (i : Nat) : List ByteArray := wordsB o :: (d.take i).map wordsB
def textB (o : List Int) (d : List (List Int)) (i : Nat) : ByteArray := joinB (textL o d i) ⟨#[32, 47, 32]⟩
theorem textL_succ (o : List Int) (d : List (List Int)) {i : Nat} (h : i < d.length) : textL o d (i + 1) = textL o d i ++ [wordsB (ix d (i : Int))] := by
  unfold textL
  rw [take_succ_map wordsB d h]; rfl
theorem textB_succ (o : List Int) (d : List (List Int)) {i : Nat} (h : i < d.length) : textB o d (i + 1) = textB o d i ++ ⟨#[32, 47, 32]⟩ ++ wordsB (ix d (i : Int)) := by
  unfold textB
  rw [textL_succ o d h, joinB_snoc (by simp [textL])]
theorem textB_zero (o : List Int) (d : List (List Int)) : textB o d 0 = wordsB o := joinB_one _ _
theorem textL_len (o : List Int) (d : List (List Int)) {i : Nat} (h : i <= d.length) : (textL o d i).length = i + 1 := by
  unfold textL
  rw [List.length_cons, List.length_map, List.length_take, Nat.min_eq_left h]
theorem field_row {o : List Int} {d : List (List Int)} (h : FieldOK o d) {i : Nat} (hi : i < d.length) : ∀ x ∈ ix d (i : Int), 0 <= x /\ x <= 99 := h.d99 _ (by
  have e := ix_some d hi
  exact List.mem_of_getElem? e)
theorem field_row_len {o : List Int} {d : List (List Int)} (h : FieldOK o d) {i : Nat} (hi : i < d.length) : (ix d (i : Int)).length <= 7 := by
  have e := ix_some d hi
  have := h.len _ (List.mem_of_getElem? e)
  have := h.n7
  omega
theorem textB_le {o : List Int} {d : List (List Int)} (h : FieldOK o d) {i : Nat} (hi : i <= d.length) : (textB o d i).size <= 157 * (i + 1) := by
  have h7 := h.n7
  have := joinB_le (n := 154) ⟨#[32, 47, 32]⟩ (textL o d i) (fun x hx => by
    unfold textL at hx
    rcases List.mem_cons.1 hx with rfl | hx
    · have := words_le h.o99; omega
    · obtain ⟨r, hr, rfl⟩ := List.mem_map.1 hx
      have hr := List.mem_of_mem_take hr
      have h1 := words_le (h.d99 r hr)
      have h2 := h.len r hr
      omega)
  rw [textL_len o d hi] at this
  exact this
end Go.Proofs.YteefjdbdknkcjaaGreatDoor
namespace Go.Proofs.YteefjdbdknkcjaaGreatDoor
open Go.Vc
set_option maxRecDepth 100000
set_option maxHeartbeats 1600000
set_option linter.unusedSimpArgs false
set_option linter.unusedVariables false
def g_spoiltT : List AV -> Heap -> Prop × (Z -> Prop × AV × Heap)
  | [.bx 0 0, .str t, .str w], [(0, .box [.bytes code, .int .i64 a, .int .u64 s])] => (code.length <= 1000000000 /\ (0 <= a /\ a <= 1000000000000 - 100) /\ t.size <= 10000 /\ 1 <= w.size /\ w.size <= 100, fun z => (z.b.size <= t.size + 100 /\ a <= z.a /\ z.a <= a + 6, .str z.b, [(0, .box [.bytes code, .int .i64 z.a, .int .u64 z.s])]))
  | _, _ => (False, fun _ => (False, .undef, []))
theorem g_spoiltT_eq (t w : ByteArray) (code : List UInt8) (a s : Int) : g_spoiltT [.bx 0 0, .str t, .str w] [(0, .box [.bytes code, .int .i64 a, .int .u64 s])] = (code.length <= 1000000000 /\ (0 <= a /\ a <= 1000000000000 - 100) /\ t.size <= 10000 /\ 1 <= w.size /\ w.size <= 100, fun z => (z.b.size <= t.size + 100 /\ a <= z.a /\ z.a <= a + 6, .str z.b, [(0, .box [.bytes code, .int .i64 z.a, .int .u64 z.s])])) := (rfl)
theorem spoiltT_ok (t w : ByteArray) (code : List UInt8) (a s : Int) (hp : code.length <= 1000000000 /\ (0 <= a /\ a <= 1000000000000 - 100) /\ t.size <= 10000 /\ 1 <= w.size /\ w.size <= 100) : SpecZ Tryz.prog 52 [.bx 0 0, .str t, .str w] [(0, .box [.bytes code, .int .i64 a, .int .u64 s])] 1 (fun z => (z.b.size <= t.size + 100 /\ a <= z.a /\ z.a <= a + 6, .str z.b, [(0, .box [.bytes code, .int .i64 z.a, .int .u64 z.s])])) := by
  refine fun_okZ (C := t_pickD) (hint := hintX [] [] 1 [41, 1000041] [] [] []) (t_pickD_ok) mixed Tryz.func52 rfl (by kernel_rfl) rfl (Nat.le_refl _) (by decide) (upTo_look (k := 1) rfl) ?_
  show codeA _ _ _ _ _ _ _ _
  simp only [go_sem, Tryz.results52]
  obtain ⟨hc, ha, ht, hw1, hw2⟩ := hp
  rw [beqL]
  refine partB_intro (fun h0 => ⟨by omega, zfinT ⟨?_, by dsimp only; omega⟩⟩) (fun h0 => ?_)
  · show (w.extract 0 1).size <= t.size + 100
    rw [ByteArray.size_extract]; omega
  have ht1 : 1 <= t.size := by
    rcases Nat.eq_zero_or_pos t.size with e | e
    · exact (of_decide_eq_false h0 (ByteArray.size_eq_zero_iff.1 e)).elim
    · exact e
  refine ⟨⟨hc, by omega, by omega⟩, fun z h1 => ⟨⟨hc, by omega, by omega⟩, fun z1 h2 => ⟨by omega, ?_, ⟨hc, by omega, by omega⟩, fun z2 h3 => ?_⟩⟩⟩
  · rw [ByteArray.size_extract]; omega
  have e1 : (t.extract (Int.toNat 0) z.n.toNat).size <= t.size := by rw [ByteArray.size_extract]; omega
  have e2 : ((w.extract z1.n.toNat w.size).extract (Int.toNat 0) (Int.toNat 1)).size <= 1 := by rw [ByteArray.size_extract]; show min 1 _ - 0 <= 1; omega
  have e3 : (t.extract (Int.toNat 0) z.n.toNat).size = z.n.toNat := by rw [ByteArray.size_extract]; show min z.n.toNat _ - 0 = _; omega
  have e4 : (t.extract z.n.toNat t.size).size = t.size - z.n.toNat := by rw [ByteArray.size_extract]; omega
  have e5 : (t.extract (z.n + 1).toNat t.size).size <= t.size - z.n.toNat := by rw [ByteArray.size_extract]; omega
  refine fork_intro (fun _ => ⟨by omega, by omega, by omega, by omega, zfinT ⟨?_, by dsimp only; omega⟩⟩) (fun _ => fork_intro (fun _ => ⟨by omega, by omega, by omega, by omega, by omega, zfinT ⟨?_, by dsimp only; omega⟩⟩) (fun _ => ⟨by omega, by omega, by omega, by omega, zfinT ⟨?_, by dsimp only; omega⟩⟩)) <;> (simp only [ByteArray.size_append]; omega)
def t_spoiltT : Table := [(52, zC 1 1 g_spoiltT)]
theorem t_spoiltT_ok : TabOK Tryz.prog t_spoiltT := .cons Tryz.func52 (by kernel_rfl) (.z (by decide) (by intro args pre _ hp; unfold g_spoiltT at hp ⊢; split at hp <;> first | exact hp.elim | exact ⟨fun z hz => ⟨rfl, shape_box _ _ rfl rfl rfl⟩, spoiltT_ok _ _ _ _ _ hp⟩)) (.nil _)
attribute [go_sem] g_spoiltT_eq t_spoiltT
end Go.Proofs.YteefjdbdknkcjaaGreatDoor
namespace Go.Proofs.YteefjdbdknkcjaaGreatDoor
open Go.Vc
set_option maxRecDepth 100000
set_option linter.unusedSimpArgs false
set_option linter.unusedVariables false

theorem digitVal_of (k : Nat) (h : k < 10) : Lib.digitVal (UInt8.ofNat (48 + k)) = some k := by
  rcases k with _ | _ | _ | _ | _ | _ | _ | _ | _ | _ | k <;> first | rfl | omega
theorem decFrom_snoc (b : UInt8) : ∀ (l : List UInt8) (acc : Nat), Lib.decFrom acc (l ++ [b]) = (Lib.decFrom acc l).bind fun m => (Lib.digitVal b).map (m * 10 + ·)
  | [], acc => by
    simp only [List.nil_append, Lib.decFrom, Option.bind_some]
    cases Lib.digitVal b <;> rfl
  | a :: l, acc => by
    simp only [List.cons_append, Lib.decFrom]
    cases Lib.digitVal a with
    | none => rfl
    | some d => exact decFrom_snoc b l _
theorem dec_split {u : Nat} (h : ¬ u < 10) : Lib.decDigits u = Lib.decDigits (u / 10) ++ [UInt8.ofNat (48 + u % 10)] := by
  rw [Lib.decDigits, dif_neg h]
theorem dec_fold (u : Nat) : Lib.decFrom 0 (Lib.decDigits u) = some u := by
  induction u using Nat.strongRecOn with
  | ind u ih =>
    by_cases h : u < 10
    · rw [Lib.decDigits_one h]
      simp only [Lib.decFrom, digitVal_of u h]; simp
    · rw [dec_split h, decFrom_snoc, ih (u / 10) (by omega), Option.bind_some, digitVal_of _ (by omega)]
      simp only [Option.map_some]
      congr 1; omega
theorem dec_len : ∀ (k u : Nat), u < 10 ^ (k + 1) -> (Lib.decDigits u).length <= k + 1
  | 0, u, h => by rw [Lib.decDigits_one (by omega)]; simp
  | k + 1, u, h => by
    by_cases g : u < 10
    · rw [Lib.decDigits_one g]; simp
    · rw [dec_split g, List.length_append]
      have := dec_len k (u / 10) (by rw [Nat.pow_succ] at h; omega)
      simp; omega
theorem dec_pos (u : Nat) : 1 <= (Lib.decDigits u).length := by
  by_cases g : u < 10
  · rw [Lib.decDigits_one g]; simp
  · rw [dec_split g, List.length_append]; simp
theorem digit_of_from : ∀ (l : List UInt8) (acc m : Nat), Lib.decFrom acc l = some m -> ∀ b ∈ l, 48 <= b.toNat /\ b.toNat <= 57
  | [], _, _, _, b, hb => by cases hb
  | a :: l, acc, m, h, b, hb => by
    unfold Lib.decFrom at h
    cases e : Lib.digitVal a with
    | none => rw [e] at h; cases h
    | some d =>
      rw [e] at h
      rcases List.mem_cons.1 hb with rfl | hb
      · unfold Lib.digitVal at e
        split at e
        · assumption
        · cases e
      · exact digit_of_from l _ m h b hb
theorem dec_digit (u : Nat) : ∀ b ∈ Lib.decDigits u, 48 <= b.toNat /\ b.toNat <= 57 := digit_of_from _ 0 u (dec_fold u)
theorem atoi_itoa (n : Int) : Lib.atoi (Lib.itoa n) = some n := by
  unfold Lib.itoa
  have key : ∀ u : Nat, Lib.decNat (Lib.decDigits u) = some u := fun u => by
    unfold Lib.decNat
    have := dec_pos u
    rw [if_neg (by intro h; rw [List.isEmpty_iff] at h; rw [h] at this; simp at this), dec_fold]
  split
  · rename_i h
    unfold Lib.atoi
    simp only [beq_self_eq_true, if_true, key, Option.map_some]
    congr 1; omega
  · rename_i h
    obtain ⟨b, r, e⟩ : ∃ b r, Lib.decDigits n.toNat = b :: r := by
      have := dec_pos n.toNat
      cases e : Lib.decDigits n.toNat with
      | nil => rw [e] at this; simp at this
      | cons b r => exact ⟨b, r, rfl⟩
    have hb := dec_digit n.toNat b (by rw [e]; simp)
    have k := key n.toNat
    rw [e] at k ⊢
    unfold Lib.atoi
    have h45 : (b == 45) = false := by
      rw [beq_eq_false_iff_ne]; intro e; rw [e] at hb; simp at hb
    have h43 : (b == 43) = false := by
      rw [beq_eq_false_iff_ne]; intro e; rw [e] at hb; simp at hb
    simp only [h45, h43, Bool.false_eq_true, if_false, k, Option.map_some]
    congr 1; omega
theorem atoiAll_itoa {n : Int} (h0 : -999999 <= n) (h1 : n <= 999999) : Lib.atoiAll (Lib.itoa n) = .ok n := by
  rw [Lib.atoiAll_short, atoi_itoa]; rfl
  unfold Lib.itoa
  have a := dec_len 5 n.natAbs (by omega)
  have b := dec_len 5 n.toNat (by omega)
  split
  · simp; omega
  · omega

def okN (s : ByteArray) : Bool := match Lib.atoiAll s.data.toList with
  | .ok n => decide (-999999 <= n /\ n <= 999999) && decide (numB n = s)
  | _ => false
def valN (s : ByteArray) : Int := match Lib.atoiAll s.data.toList with
  | .ok n => n
  | _ => 0
theorem okN_of {n : Int} {s : ByteArray} (h0 : -999999 <= n) (h1 : n <= 999999) (e : numB n = s) : okN s = true /\ valN s = n := by
  subst e
  have h : Lib.atoiAll (numB n).data.toList = .ok n := atoiAll_itoa h0 h1
  unfold okN valN
  rw [h]
  exact ⟨by simp [h0, h1], rfl⟩
theorem okN_inv {s : ByteArray} (h : okN s = true) : ∃ n, -999999 <= n /\ n <= 999999 /\ numB n = s /\ valN s = n := by
  unfold okN at h
  split at h
  · rename_i n e
    simp only [Bool.and_eq_true, decide_eq_true_eq] at h
    exact ⟨n, h.1.1, h.1.2, h.2, by unfold valN; rw [e]⟩
  · cases h

def absB (s : ByteArray) : ByteArray := if 1 < s.size /\ byteAt s 0 = 45 then s.extract 1 s.size else s
def foldD (t : ByteArray) : Nat -> Int
  | 0 => 0
  | k + 1 => 10 * foldD t k + ((byteAt t (k : Int)).toNat - 48)
theorem foldD_bd {t : ByteArray} : ∀ k, (∀ j : Nat, j < k -> 48 <= (byteAt t (j : Int)).toNat /\ (byteAt t (j : Int)).toNat <= 57) -> 0 <= foldD t k /\ foldD t k < 10 ^ k
  | 0, _ => by simp [foldD]
  | k + 1, h => by
    have a := foldD_bd k (fun j hj => h j (by omega))
    have b := h k (by omega)
    unfold foldD
    rw [Int.pow_succ]
    omega
theorem foldD_from {t : ByteArray} : ∀ k, k <= t.size -> (∀ j : Nat, j < k -> 48 <= (byteAt t (j : Int)).toNat /\ (byteAt t (j : Int)).toNat <= 57) -> ∃ m : Nat, Lib.decFrom 0 (t.data.toList.take k) = some m /\ foldD t k = m
  | 0, _, _ => ⟨0, rfl, rfl⟩
  | k + 1, hk, h => by
    obtain ⟨m, h1, h2⟩ := foldD_from k (by omega) (fun j hj => h j (by omega))
    have b := h k (by omega)
    have e := byteAt_some t (show k < t.size by omega)
    refine ⟨m * 10 + ((byteAt t (k : Int)).toNat - 48), ?_, ?_⟩
    · rw [List.take_add_one, e, Option.toList_some, decFrom_snoc, h1]
      unfold Lib.digitVal
      rw [if_pos b]; rfl
    · unfold foldD; rw [h2]; omega
theorem num_abs {n : Int} {s : ByteArray} (h0 : -999999 <= n) (h1 : n <= 999999) (e : numB n = s) :
    1 <= (absB s).size /\ (absB s).size <= 6 /\ (∀ j : Nat, j < (absB s).size -> 48 <= (byteAt (absB s) (j : Int)).toNat /\ (byteAt (absB s) (j : Int)).toNat <= 57) /\ foldD (absB s) (absB s).size = n.natAbs /\ ((absB s).size < s.size ↔ n < 0) := by
  subst e
  have key : ∀ t : ByteArray, t.data.toList = Lib.decDigits n.natAbs -> 1 <= t.size /\ t.size <= 6 /\ (∀ j : Nat, j < t.size -> 48 <= (byteAt t (j : Int)).toNat /\ (byteAt t (j : Int)).toNat <= 57) /\ foldD t t.size = n.natAbs := fun t ht => by
    have hsz : t.size = (Lib.decDigits n.natAbs).length := by rw [<- ht]; simp
    have hd : ∀ j : Nat, j < t.size -> 48 <= (byteAt t (j : Int)).toNat /\ (byteAt t (j : Int)).toNat <= 57 := fun j hj => by
      have e := byteAt_some t hj
      rw [ht] at e
      exact dec_digit _ _ (List.mem_of_getElem? e)
    obtain ⟨m, g1, g2⟩ := foldD_from t.size (Nat.le_refl _) hd
    rw [ht, hsz, List.take_length, dec_fold] at g1
    refine ⟨by rw [hsz]; exact dec_pos _, by rw [hsz]; exact dec_len 5 _ (by omega), hd, ?_⟩
    rw [g2, <- Option.some.inj g1]
  by_cases hn : n < 0
  · have hd : (numB n).data.toList = 45 :: Lib.decDigits n.natAbs := by
      show (Lib.itoa n).toArray.toList = _
      unfold Lib.itoa; rw [if_pos hn]
    have hs : (numB n).size = (Lib.decDigits n.natAbs).length + 1 := by
      have : (numB n).size = (numB n).data.toList.length := by simp
      rw [this, hd]; rfl
    have h45 : byteAt (numB n) 0 = 45 := by unfold byteAt; rw [hd]; rfl
    have hp := dec_pos n.natAbs
    have ea : absB (numB n) = (numB n).extract 1 (numB n).size := by unfold absB; rw [if_pos ⟨by omega, h45⟩]
    have ht : (absB (numB n)).data.toList = Lib.decDigits n.natAbs := by
      rw [ea, Lib.extract_to_end, hd]; rfl
    obtain ⟨k1, k2, k3, k4⟩ := key _ ht
    refine ⟨k1, k2, k3, k4, ⟨fun _ => hn, fun _ => ?_⟩⟩
    have : (absB (numB n)).size = (absB (numB n)).data.toList.length := by simp
    rw [this, ht, hs]; omega
  · have hd : (numB n).data.toList = Lib.decDigits n.natAbs := by
      show (Lib.itoa n).toArray.toList = _
      unfold Lib.itoa; rw [if_neg hn, show n.toNat = n.natAbs by omega]
    have ea : absB (numB n) = numB n := by
      unfold absB
      rw [if_neg]
      rintro ⟨h2, h3⟩
      have e := byteAt_some (numB n) (k := 0) (by omega)
      rw [hd] at e
      have := dec_digit _ _ (List.mem_of_getElem? e)
      rw [show ((0 : Nat) : Int) = 0 from rfl, h3] at this
      simp at this
    obtain ⟨k1, k2, k3, k4⟩ := key (absB (numB n)) (by rw [ea]; exact hd)
    refine ⟨k1, k2, k3, k4, ⟨fun h => by rw [ea] at h; omega, fun h => (hn h).elim⟩⟩
end Go.Proofs.YteefjdbdknkcjaaGreatDoor
namespace Go.Proofs.YteefjdbdknkcjaaGreatDoor
open Go.Vc Go.RowKit
set_option maxRecDepth 100000
set_option linter.unusedSimpArgs false
set_option linter.unusedVariables false

theorem ext_ok {f : FuncId} {args : List AV} {val : AV}
    (h : ∀ (S : Store) (w : World) (cargs : Array Value), StoreIn S w -> cargs.size = args.length -> (∀ (j : Nat) x v, args[j]? = some x -> cargs[j]? = some v -> Sees S x v) ->
      Calls Tryz.prog f cargs w fun e w' => ∃ cv, e = .returned cv /\ Kept (w.heap.size <= ·) w w' /\ Sees S val cv) : SpecOK Tryz.prog f args val [] := by
  intro S w cargs hS hsz hargs
  refine (h S w cargs hS hsz hargs).mono ?_
  rintro e w' ⟨cv, rfl, hk, hs⟩
  refine ⟨cv, S, ⟨fun _ _ => 0, fun _ => 0, fun _ _ => 0⟩, rfl, ⟨fun b c hb => ?_, hS.1, fun r k hr => (by cases hr), fun r j hf => hf.elim, fun r j r' j' hf => hf.elim⟩, fun _ _ h => h, fun b h1 h2 => absurd h1 h2, hk, .pure _ _ hs⟩
  obtain ⟨el, fr, he⟩ := hS.2 b c hb
  have hlt : b < w.heap.size := (Array.getElem?_eq_some_iff.1 he).1
  exact ⟨el, fr, by rw [hk.block b hlt (by omega)]; exact he⟩
theorem kept_grow (w : World) (k : Nat) (os : Array Obj) : Kept (w.heap.size <= ·) w (Sort.grow (w.drewN k) os) :=
  ⟨rfl, rfl, rfl, by simp [Sort.grow, World.drewN], fun b hb _ => by simp [Sort.grow, World.drewN, Array.getElem?_append_left hb], fun _ => Nat.le_add_right _ _⟩
theorem args1 {S : Store} {x : AV} {cargs : Array Value} (hsz : cargs.size = [x].length) (h : ∀ (j : Nat) y v, [x][j]? = some y -> cargs[j]? = some v -> Sees S y v) : ∃ v, cargs = #[v] /\ Sees S x v := by
  obtain ⟨l⟩ := cargs
  match l, hsz with
  | [v], _ => exact ⟨v, rfl, h 0 x v rfl rfl⟩
theorem args2 {S : Store} {x y : AV} {cargs : Array Value} (hsz : cargs.size = [x, y].length) (h : ∀ (j : Nat) z v, [x, y][j]? = some z -> cargs[j]? = some v -> Sees S z v) : ∃ v u, cargs = #[v, u] /\ Sees S x v /\ Sees S y u := by
  obtain ⟨l⟩ := cargs
  match l, hsz with
  | [v, u], _ => exact ⟨v, u, rfl, h 0 x v rfl rfl, h 1 y u rfl rfl⟩
theorem sees_int {S : Store} {k : IntKind} {n : Int} {v : Value} (h : Sees S (.int k n) v) : v = .int k n := by
  cases h with
  | int => rfl
  | lst _ _ _ _ _ he => simp [AV.elems] at he
theorem sees_strv {S : Store} {s : ByteArray} {v : Value} (h : Sees S (.str s) v) : v = .string s := by
  cases h with
  | str => rfl
  | lst _ _ _ _ _ he => simp [AV.elems] at he
def g_joinC : List AV -> Prop × AV
  | [.strs xs, .str t] => (xs.length <= 1048576000 /\ (joinB xs t).size <= 1048576000, .str (joinB xs t))
  | _ => (False, .undef)
theorem g_joinC_eq (xs : List ByteArray) (t : ByteArray) : g_joinC [.strs xs, .str t] = (xs.length <= 1048576000 /\ (joinB xs t).size <= 1048576000, .str (joinB xs t)) := (rfl)
theorem joinC_ok (xs : List ByteArray) (t : ByteArray) (hp : xs.length <= 1048576000 /\ (joinB xs t).size <= 1048576000) : SpecOK Tryz.prog 48 [.strs xs, .str t] (.str (joinB xs t)) [] := by
  refine ext_ok (fun S w cargs hS hsz hargs => ?_)
  obtain ⟨v, u, rfl, h1, h2⟩ := args2 hsz hargs
  obtain rfl := sees_strv h2
  have hl : (Lib.join (xs.map (·.data.toList)) t.data.toList).length <= 140737488355328 := by
    have : (joinB xs t).size = (Lib.join (xs.map (·.data.toList)) t.data.toList).length := by show (List.toArray _).size = _; simp
    omega
  have kb : ∀ {w' : World}, Below w.heap.size w w' -> Kept (w.heap.size <= ·) w w' := fun hb => ⟨hb.os, hb.tape, hb.output, hb.size, fun b hlt _ => hb.block b hlt, fun d => False.elim d⟩
  cases h1 with
  | lst _ ys m a cap he hcap b off c vals hrow hm hc hs =>
    simp only [AV.elems, Option.some.injEq, Prod.mk.injEq] at he
    obtain ⟨rfl, rfl⟩ := he
    rw [List.length_map]
    by_cases hne : xs = []
    · subst hne
      refine (Tryz.strings_Join_none a cap t w).mono ?_
      rintro e w' ⟨rfl, rfl⟩
      exact ⟨_, rfl, .refl _ _, .str _⟩
    · obtain ⟨rfl, hb⟩ := hrow (by simpa using hne)
      have hin := hS.2 _ _ hb
      refine (Tryz.strings_Join b off cap xs t w (fun j x hx => ?_) hin.lt (by omega) (by rw [List.length_map] at hcap; exact hcap) hl).mono ?_
      · have e1 : (xs.map AV.str)[j]? = some (.str x) := by rw [List.getElem?_map, hx]; rfl
        have e2 : (AV.str x).cells[0]? = some (.str x) := rfl
        have h3 := hc j _ 0 _ e1 e2
        have h4 := sees_strv (hs j _ 0 _ e1 e2)
        rw [hin.cell, show off + j = off + j * 1 + 0 by omega, h3, h4]
      · rintro e w' ⟨rfl, hb⟩
        exact ⟨_, rfl, kb hb, .str _⟩
def t_joinC : Table := [(48, pureC g_joinC)]
theorem t_joinC_ok : TabOK Tryz.prog t_joinC := .cons Tryz.func48 (by kernel_rfl) (.pure (by intro args hp; unfold g_joinC at hp ⊢; split at hp <;> first | exact hp.elim | exact joinC_ok _ _ hp)) (.nil _)
attribute [go_sem] g_joinC_eq t_joinC
end Go.Proofs.YteefjdbdknkcjaaGreatDoor
namespace Go.Proofs.YteefjdbdknkcjaaGreatDoor
open Go.Vc
theorem maxLen0 {S : Store} {w : World} (hS : StoreIn S w) : ∃ m : Int, w.cell? ⟨0, 0, none⟩ = some (.int .i64 m) := by
  obtain ⟨c, m, hc, hm⟩ : ∃ (c : Array Value) (m : Int), S 0 = some c /\ c[0]? = some (.int .i64 m) := by first | exact hS.1 | exact hS.1.2.1
  exact ⟨m, ((hS.2 _ _ hc).cell 0).trans hm⟩

end Go.Proofs.YteefjdbdknkcjaaGreatDoor
namespace Go.Proofs.YteefjdbdknkcjaaGreatDoor
open Go.Vc
set_option maxRecDepth 100000
set_option linter.unusedSimpArgs false
set_option linter.unusedVariables false

theorem tab10 {S : Store} {w : World} (hS : StoreIn S w) : Lib.TabIs Tryz.prog w "internal/strconv.uint64pow10" .u64 Lib.pow10Tab := by
  obtain ⟨el, fr, he⟩ := hS.2 _ _ hS.1.1
  unfold Lib.TabIs World.var?
  rw [show Tryz.prog.globalNamed "internal/strconv.uint64pow10" = some 3 by kernel_rfl]
  simp only [Option.bind_some, he]
def g_itoa : List AV -> Prop × AV
  | [.int .i64 n] => (-9223372036854775808 <= n /\ n <= 9223372036854775807, .str (numB n))
  | _ => (False, .undef)
theorem g_itoa_eq (n : Int) : g_itoa [.int .i64 n] = (-9223372036854775808 <= n /\ n <= 9223372036854775807, .str (numB n)) := (rfl)
theorem itoa_ok (n : Int) (hp : -9223372036854775808 <= n /\ n <= 9223372036854775807) : SpecOK Tryz.prog 70 [.int .i64 n] (.str (numB n)) [] := by
  refine ext_ok (fun S w cargs hS hsz hargs => ?_)
  obtain ⟨v, rfl, h1⟩ := args1 hsz hargs
  obtain rfl := sees_int h1
  refine (Tryz.strconv_Itoa n hp.1 hp.2 w (tab10 hS)).mono ?_
  rintro e w' ⟨rfl, k, os, rfl⟩
  exact ⟨_, rfl, kept_grow w k os, .str _⟩
def t_itoa : Table := [(70, pureC g_itoa)]
theorem t_itoa_ok : TabOK Tryz.prog t_itoa := .cons Tryz.func70 (by kernel_rfl) (.pure (by intro args hp; unfold g_itoa at hp ⊢; split at hp <;> first | exact hp.elim | exact itoa_ok _ hp)) (.nil _)
attribute [go_sem] g_itoa_eq t_itoa
end Go.Proofs.YteefjdbdknkcjaaGreatDoor
namespace Go.Proofs.YteefjdbdknkcjaaGreatDoor
open Go.Vc
set_option maxRecDepth 100000
set_option linter.unusedSimpArgs false
set_option linter.unusedVariables false
def g_splitS : List AV -> Prop × AV
  | [.str s, .int .u8 b] => (s.size <= 1048576 /\ 0 <= b /\ b < 256, .strs (splL s (UInt8.ofNat b.toNat)))
  | _ => (False, .undef)
theorem g_splitS_eq (s : ByteArray) (b : Int) : g_splitS [.str s, .int .u8 b] = (s.size <= 1048576 /\ 0 <= b /\ b < 256, .strs (splL s (UInt8.ofNat b.toNat))) := (rfl)
theorem splitS_ok (s : ByteArray) (b : Int) (hp : s.size <= 1048576 /\ 0 <= b /\ b < 256) : SpecOK Tryz.prog 77 [.str s, .int .u8 b] (.strs (splL s (UInt8.ofNat b.toNat))) [] := by
  refine fun_ok (C := []) (hint := hintX [5, 8, 26] [] 0 [] [] [] []) (TabOK.nil _) mixed Tryz.func77 rfl (by kernel_rfl) rfl ?_
  show codeA _ _ _ _ _ _ _ _
  simp only [go_sem, Tryz.results77]
  obtain ⟨m, rfl⟩ : ∃ m : Nat, b = m := ⟨b.toNat, by omega⟩
  have hm : (UInt8.ofNat m).toNat = m := by simp; omega
  refine loop_intro (fun k : Nat => [(7, .int .i64 k), (6, .int .i64 (splP s (UInt8.ofNat m) k).2), (5, .sl 0), (0, .str s), (1, .int .u8 m)]) (fun k => [(0, .arr (.strs (splP s (UInt8.ofNat m) k).1))]) 1 (fun k => k <= s.size) (fun k => s.size - k) 0 (Nat.zero_le _) (by omega) ?_ ?_
  · simp only [go_sem]
    repeat' (first | refine fork_intro (fun hb => ?_) (fun hb => ?_) | refine partB_intro (fun hb => ?_) (fun hb => ?_) | refine And.intro ?_ ?_)
    all_goals first | exact True.intro | omega | with_reducible rfl | exact congrArg (AV.int _) (by omega) | (first | rfl)
  · intro k hk
    have hle := splP_le s (UInt8.ofNat m) k
    simp only [go_sem]
    refine fork_intro (fun hc => ?_) (fun hc => ?_)
    · refine ⟨⟨by omega, by omega⟩, ?_⟩
      refine fork_intro (fun hd => ?_) (fun hd => ?_)
      · have e : byteAt s (k : Int) = UInt8.ofNat m := UInt8.toNat_inj.1 (by rw [hm]; omega)
        have e2 : splP s (UInt8.ofNat m) (k + 1) = ((splP s (UInt8.ofNat m) k).1 ++ [s.extract (splP s (UInt8.ofNat m) k).2 k], k + 1) := if_pos e
        repeat' (first | refine fork_intro (fun hb => ?_) (fun hb => ?_) | refine partB_intro (fun hb => ?_) (fun hb => ?_) | refine And.intro ?_ ?_)
        all_goals first | exact True.intro | omega | with_reducible rfl | exact congrArg (AV.int _) (by omega) | (refine LoopEnd.intro (k + 1) (by first | omega) (by first | omega | (dsimp only; omega)) (by omega) ?_; simp only [go_sem]; (repeat' (first | refine fork_intro (fun hb => ?_) (fun hb => ?_) | refine partB_intro (fun hb => ?_) (fun hb => ?_) | refine And.intro ?_ ?_)); all_goals first | exact True.intro | omega | with_reducible rfl | exact congrArg (AV.int _) (by omega) | (first | rfl | (rw [e2]; done) | (rw [e2]; exact congrArg (AV.int _) (by show ((k : Int) + 1) = ((k + 1 : Nat) : Int); omega)))) | (first | rfl | (rw [e2]; done) | (rw [e2]; exact congrArg (AV.int _) (by show ((k : Int) + 1) = ((k + 1 : Nat) : Int); omega)))
      · have e : byteAt s (k : Int) ≠ UInt8.ofNat m := fun h => hd (by rw [h, hm])
        have e2 : splP s (UInt8.ofNat m) (k + 1) = splP s (UInt8.ofNat m) k := if_neg e
        repeat' (first | refine fork_intro (fun hb => ?_) (fun hb => ?_) | refine partB_intro (fun hb => ?_) (fun hb => ?_) | refine And.intro ?_ ?_)
        all_goals first | exact True.intro | omega | with_reducible rfl | exact congrArg (AV.int _) (by omega) | (refine LoopEnd.intro (k + 1) (by first | omega) (by first | omega | (dsimp only; omega)) (by omega) ?_; simp only [go_sem]; (repeat' (first | refine fork_intro (fun hb => ?_) (fun hb => ?_) | refine partB_intro (fun hb => ?_) (fun hb => ?_) | refine And.intro ?_ ?_)); all_goals first | exact True.intro | omega | with_reducible rfl | exact congrArg (AV.int _) (by omega) | (first | rw [e2] | rfl)) | (first | rw [e2] | rfl)
    · have hk' : k = s.size := by omega
      subst hk'
      repeat' (first | refine fork_intro (fun hb => ?_) (fun hb => ?_) | refine partB_intro (fun hb => ?_) (fun hb => ?_) | refine And.intro ?_ ?_)
      all_goals first | exact True.intro | omega | with_reducible rfl | exact congrArg (AV.int _) (by omega) | (first | rfl)
def t_splitS : Table := [(77, pureC g_splitS)]
theorem t_splitS_ok : TabOK Tryz.prog t_splitS := .cons Tryz.func77 (by kernel_rfl) (.pure (by intro args hp; unfold g_splitS at hp ⊢; split at hp <;> first | exact hp.elim | exact splitS_ok _ _ hp)) (.nil _)
attribute [go_sem] g_splitS_eq t_splitS
end Go.Proofs.YteefjdbdknkcjaaGreatDoor
namespace Go.Proofs.YteefjdbdknkcjaaGreatDoor
open Go.Vc
set_option maxRecDepth 100000
set_option linter.unusedSimpArgs false
set_option linter.unusedVariables false

def sumB (s : ByteArray) : Nat -> Int
  | 0 => 7
  | k + 1 => (41 * sumB s k + (byteAt s k).toNat + 1) % 999979
def sealB (s : ByteArray) : ByteArray := s ++ (⟨#[35]⟩ : ByteArray) ++ numB (sumB s s.size)
def okC (s : ByteArray) : Bool := decide (s.size <= 4000) && (!hasB s 35 && decide ((sealB s).size <= 4000))
def okV (s : ByteArray) : Bool := decide (s.size <= 4000) && decide (sealB (frontB s 35) = s)

end Go.Proofs.YteefjdbdknkcjaaGreatDoor
namespace Go.Proofs.YteefjdbdknkcjaaGreatDoor
open Go.Vc
set_option maxRecDepth 100000
set_option linter.unusedSimpArgs false
set_option linter.unusedVariables false


def g_numK (k : Nat) : List AV -> Prop × AV
  | [.int .i64 n] => (numIn k n, .str (numB n))
  | _ => (False, .undef)
theorem g_numK_eq (k : Nat) (n : Int) : g_numK k [.int .i64 n] = (numIn k n, .str (numB n)) := (rfl)
def t_numK (k : Nat) : Table := [(91, pureC (g_numK k))]
theorem numK_low (n : Int) (h0 : 0 <= n) (h9 : n < 10) : SpecOK Tryz.prog 91 [.int .i64 n] (.str (numB n)) [] := by
  refine fun_ok (C := []) (hint := hintX [] [] 0 [] [] [] []) (TabOK.nil _) mixed Tryz.func91 rfl (by kernel_rfl) rfl ?_
  show codeA _ _ _ _ _ _ _ _
  simp only [go_sem, Tryz.results91]
  refine fork_intro (fun hb => absurd hb (by omega)) (fun _ => ?_)
  refine fork_intro (fun _ => ?_) (fun hb => absurd h9 hb)
  have hd := numB_low h0 h9
  unfold digB at hd
  have hz : (#[48, 49, 50, 51, 52, 53, 54, 55, 56, 57] : Array UInt8).size = 10 := rfl
  rw [hz]
  repeat' (first | with_reducible refine And.intro ?_ ?_)
  all_goals first | with_reducible exact True.intro | omega | exact congrArg AV.str hd
theorem numK_ok : ∀ (k : Nat) (n : Int), numIn k n -> SpecOK Tryz.prog 91 [.int .i64 n] (.str (numB n)) []
  | 0, n, hp => numK_low n (by have := numIn_zero hp; omega) (by have := numIn_zero hp; omega)
  | k + 1, n, hp => by
    have hbd := numIn_bd hp
    have hT : TabOK Tryz.prog (t_numK k) := .cons Tryz.func91 (by kernel_rfl) (.pure (by intro args hp; unfold g_numK at hp ⊢; split at hp <;> first | exact hp.elim | exact numK_ok k _ hp)) (.nil _)
    by_cases hlow : 0 <= n /\ n < 10
    · exact numK_low n hlow.1 hlow.2
    refine fun_ok (C := t_numK k) (hint := hintX [] [] 0 [] [] [] []) hT mixed Tryz.func91 rfl (by kernel_rfl) rfl ?_
    show codeA _ _ _ _ _ _ _ _
    simp only [go_sem, Tryz.results91, t_numK, g_numK_eq]
    refine fork_intro (fun hb => ?_) (fun hb => ?_)
    · have h1 := numIn_neg hp hb
      have h2 := numB_neg hb
      have h3 := numB_size (-n) (by omega) (by omega)
      have hz : (#[45] : Array UInt8).size = 1 := rfl
      simp only [Int.zero_sub, hz]
      repeat' (first | with_reducible refine And.intro ?_ ?_)
      all_goals first | with_reducible exact True.intro | with_reducible exact h1 | omega | exact congrArg AV.str h2
    · refine fork_intro (fun hc => absurd ⟨by omega, hc⟩ hlow) (fun hc => ?_)
      have h1 := numIn_div hp (by omega)
      have h2 := numB_high (n := n) (by omega)
      unfold digB at h2
      have h3 := numB_size (n / 10) (by omega) (by omega)
      have h4 := digB_size (n % 10).toNat (n % 10 + 1).toNat
      unfold digB at h4
      have hz : (#[48, 49, 50, 51, 52, 53, 54, 55, 56, 57] : Array UInt8).size = 10 := rfl
      simp only [hz]
      repeat' (first | with_reducible refine And.intro ?_ ?_)
      all_goals first | with_reducible exact True.intro | with_reducible exact h1 | omega | exact congrArg AV.str h2

def g_numS : List AV -> Prop × AV
  | [.int .i64 n] => (-10000000 < n /\ n < 10000000, .str (numB n))
  | _ => (False, .undef)
theorem g_numS_eq (n : Int) : g_numS [.int .i64 n] = (-10000000 < n /\ n < 10000000, .str (numB n)) := (rfl)
theorem numS_ok (n : Int) (hp : -10000000 < n /\ n < 10000000) : SpecOK Tryz.prog 91 [.int .i64 n] (.str (numB n)) [] := by
  exact numK_ok 8 n (numIn_of hp.1 hp.2)
def t_numS : Table := [(91, pureC g_numS)]
theorem t_numS_ok : TabOK Tryz.prog t_numS := .cons Tryz.func91 (by kernel_rfl) (.pure (by intro args hp; unfold g_numS at hp ⊢; split at hp <;> first | exact hp.elim | exact numS_ok _ hp)) (.nil _)
attribute [go_sem] g_numS_eq t_numS
end Go.Proofs.YteefjdbdknkcjaaGreatDoor
namespace Go.Proofs.YteefjdbdknkcjaaGreatDoor
open Go.Vc
set_option maxRecDepth 100000
set_option linter.unusedSimpArgs false
set_option linter.unusedVariables false

def g_wordsS : List AV -> Prop × AV
  | [.ints xs] => (xs.length <= 7 /\ ∀ x ∈ xs, 0 <= x /\ x <= 99, .str (wordsB xs))
  | _ => (False, .undef)
theorem g_wordsS_eq (xs : List Int) : g_wordsS [.ints xs] = (xs.length <= 7 /\ ∀ x ∈ xs, 0 <= x /\ x <= 99, .str (wordsB xs)) := (rfl)
theorem wordsS_ok (xs : List Int) (hp : xs.length <= 7 /\ ∀ x ∈ xs, 0 <= x /\ x <= 99) : SpecOK Tryz.prog 74 [.ints xs] (.str (wordsB xs)) [] := by
  refine fun_ok (C := t_numS) (hint := hintX [] [] 0 [] [] [] []) (t_numS_ok) mixed Tryz.func74 rfl (by kernel_rfl) rfl ?_
  show codeA _ _ _ _ _ _ _ _
  simp only [go_sem, Tryz.results74]
  refine loop_intro (fun k : Nat => [(3, .str (wordsB (xs.take k))), (4, .int .i64 k), (0, .ints xs)]) (fun _ => []) 0 (fun k => k <= xs.length) (fun k => xs.length - k) 0 (by omega) (by omega) ?_ ?_
  · simp only [go_sem]
    repeat' (first | refine fork_intro (fun hb => ?_) (fun hb => ?_) | refine partB_intro (fun hb => ?_) (fun hb => ?_) | refine And.intro ?_ ?_)
    all_goals first | exact True.intro | omega | with_reducible rfl | exact congrArg (AV.int _) (by omega) | (first | rfl)
  · intro k hk
    have hw := words_le (xs := xs.take k) (fun x hx => hp.2 x (List.mem_of_mem_take hx))
    rw [List.length_take, Nat.min_eq_left hk] at hw
    have hz : (#[32] : Array UInt8).size = 1 := rfl
    simp only [go_sem]
    refine fork_intro (fun hc => ?_) (fun hc => ?_)
    · have hx := hp.2 _ (List.mem_of_getElem? (ix_some xs (show k < xs.length by omega)))
      have hn := numB_size (ix xs (k : Int)) (by omega) (by omega)
      simp only [hz, ByteArray.size_append]
      have hz2 : (⟨#[32]⟩ : ByteArray).size = 1 := rfl
      refine fork_intro (fun hd => ?_) (fun hd => ?_)
      · have e := words_take xs (show k < xs.length by omega) (by omega)
        repeat' (first | refine fork_intro (fun hb => ?_) (fun hb => ?_) | refine partB_intro (fun hb => ?_) (fun hb => ?_) | refine And.intro ?_ ?_)
        all_goals first | exact True.intro | omega | with_reducible rfl | exact congrArg (AV.int _) (by omega) | (refine LoopEnd.intro (k + 1) (by first | omega) (by first | omega | (dsimp only; omega)) (by omega) ?_; simp only [go_sem]; (repeat' (first | refine fork_intro (fun hb => ?_) (fun hb => ?_) | refine partB_intro (fun hb => ?_) (fun hb => ?_) | refine And.intro ?_ ?_)); all_goals first | exact True.intro | omega | with_reducible rfl | exact congrArg (AV.int _) (by omega) | (first | rw [e] | rfl)) | (first | rw [e] | rfl)
      · obtain rfl : k = 0 := by omega
        have e := words_first xs (by omega)
        have e0 : wordsB (xs.take 0) ++ numB (ix xs ((0 : Nat) : Int)) = wordsB (xs.take (0 + 1)) := by rw [e]; exact empty_app _
        repeat' (first | refine fork_intro (fun hb => ?_) (fun hb => ?_) | refine partB_intro (fun hb => ?_) (fun hb => ?_) | refine And.intro ?_ ?_)
        all_goals first | exact True.intro | omega | with_reducible rfl | exact congrArg (AV.int _) (by omega) | (refine LoopEnd.intro (0 + 1) (by first | omega) (by first | omega | (dsimp only; omega)) (by omega) ?_; simp only [go_sem]; (repeat' (first | refine fork_intro (fun hb => ?_) (fun hb => ?_) | refine partB_intro (fun hb => ?_) (fun hb => ?_) | refine And.intro ?_ ?_)); all_goals first | exact True.intro | omega | with_reducible rfl | exact congrArg (AV.int _) (by omega) | (first | rfl | exact congrArg AV.str e0)) | (first | rfl | exact congrArg AV.str e0)
    · rw [List.take_of_length_le (by omega)]
def t_wordsS : Table := [(74, pureC g_wordsS)]
theorem t_wordsS_ok : TabOK Tryz.prog t_wordsS := .cons Tryz.func74 (by kernel_rfl) (.pure (by intro args hp; unfold g_wordsS at hp ⊢; split at hp <;> first | exact hp.elim | exact wordsS_ok _ hp)) (.nil _)
attribute [go_sem] g_wordsS_eq t_wordsS
def g_wordsI : List AV -> Prop × AV
  | [.ints xs] => (xs.length <= 7 /\ ∀ x ∈ xs, 0 <= x /\ x <= 99, .str (wordsB xs))
  | _ => (False, .undef)
theorem g_wordsI_eq (xs : List Int) : g_wordsI [.ints xs] = (xs.length <= 7 /\ ∀ x ∈ xs, 0 <= x /\ x <= 99, .str (wordsB xs)) := (rfl)
theorem wordsI_ok (xs : List Int) (hp : xs.length <= 7 /\ ∀ x ∈ xs, 0 <= x /\ x <= 99) : SpecOK Tryz.prog 47 [.ints xs] (.str (wordsB xs)) [] := by
  refine fun_ok (C := t_itoa ++ t_joinC) (hint := hintX [3, 6, 17] [] 0 [] [] [] []) ((t_itoa_ok).append t_joinC_ok) mixed Tryz.func47 rfl (by kernel_rfl) rfl ?_
  show codeA _ _ _ _ _ _ _ _
  simp only [go_sem, Tryz.results47]
  refine loop_intro (fun k : Nat => [(3, .sl 0), (7, .ints xs), (8, .int .i64 xs.length), (9, .int .i64 k)]) (fun k => [(0, .arr (.strs ((xs.take k).map numB)))]) 1 (fun k => k <= xs.length) (fun k => xs.length - k) 0 (by omega) (by omega) ?_ ?_
  · simp only [go_sem]
    repeat' (first | refine fork_intro (fun hb => ?_) (fun hb => ?_) | refine partB_intro (fun hb => ?_) (fun hb => ?_) | refine And.intro ?_ ?_)
    all_goals first | exact True.intro | omega | with_reducible rfl | exact congrArg (AV.int _) (by omega) | (first | rfl)
  · intro k hk
    simp only [go_sem]
    refine fork_intro (fun hc => ?_) (fun hc => ?_)
    · have hx := hp.2 _ (List.mem_of_getElem? (ix_some xs (show k < xs.length by omega)))
      have e := take_succ_map numB xs (show k < xs.length by omega)
      have hml : ((xs.take k).map numB).length = k := by rw [List.length_map, List.length_take, Nat.min_eq_left hk]
      repeat' (first | refine fork_intro (fun hb => ?_) (fun hb => ?_) | refine partB_intro (fun hb => ?_) (fun hb => ?_) | refine And.intro ?_ ?_)
      all_goals first | exact True.intro | omega | with_reducible rfl | exact congrArg (AV.int _) (by omega) | (refine LoopEnd.intro (k + 1) (by first | omega) (by first | omega | (dsimp only; omega)) (by omega) ?_; simp only [go_sem]; (repeat' (first | refine fork_intro (fun hb => ?_) (fun hb => ?_) | refine partB_intro (fun hb => ?_) (fun hb => ?_) | refine And.intro ?_ ?_)); all_goals first | exact True.intro | omega | with_reducible rfl | exact congrArg (AV.int _) (by omega) | (first | rw [e] | rfl)) | (first | rw [e] | rfl)
    · have hw := words_le hp.2
      rw [List.take_of_length_le (by omega)]
      have e : joinB (xs.map numB) ⟨#[32]⟩ = wordsB xs := rfl
      have hml : (xs.map numB).length = xs.length := List.length_map _
      rw [e]
      repeat' (first | refine fork_intro (fun hb => ?_) (fun hb => ?_) | refine partB_intro (fun hb => ?_) (fun hb => ?_) | refine And.intro ?_ ?_)
      all_goals first | exact True.intro | omega | with_reducible rfl | exact congrArg (AV.int _) (by omega) | (first | rfl)
def t_wordsI : Table := [(47, pureC g_wordsI)]
theorem t_wordsI_ok : TabOK Tryz.prog t_wordsI := .cons Tryz.func47 (by kernel_rfl) (.pure (by intro args hp; unfold g_wordsI at hp ⊢; split at hp <;> first | exact hp.elim | exact wordsI_ok _ hp)) (.nil _)
attribute [go_sem] g_wordsI_eq t_wordsI
def g_textS : List AV -> Prop × AV
  | [.agg [.ints o, .rows d]] => (FieldOK o d, .str (textB o d d.length))
  | _ => (False, .undef)
theorem g_textS_eq (o : List Int) (d : List (List Int)) : g_textS [.agg [.ints o, .rows d]] = (FieldOK o d, .str (textB o d d.length)) := (rfl)
theorem textS_ok (o : List Int) (d : List (List Int)) (hp : FieldOK o d) : SpecOK Tryz.prog 49 [.agg [.ints o, .rows d]] (.str (textB o d d.length)) [] := by
  refine fun_ok (C := t_wordsS) (hint := hintX [] [] 0 [] [] [] []) (t_wordsS_ok) mixed Tryz.func49 rfl (by kernel_rfl) rfl ?_
  show codeA _ _ _ _ _ _ _ _
  simp only [go_sem, Tryz.results49]
  have h7 := hp.n7
  have hm := hp.m7
  have ho := hp.o99
  refine ⟨⟨h7, ho⟩, ?_⟩
  refine loop_intro (fun i : Nat => [(4, .int .i64 i), (3, .str (textB o d i)), (1, .iptr [.ints o, .rows d])]) (fun _ => []) 0 (fun i => i <= d.length) (fun i => d.length - i) 0 (by omega) (by omega) ?_ ?_
  · simp only [go_sem]
    have e0 := textB_zero o d
    repeat' (first | refine fork_intro (fun hb => ?_) (fun hb => ?_) | refine partB_intro (fun hb => ?_) (fun hb => ?_) | refine And.intro ?_ ?_)
    all_goals first | exact True.intro | omega | with_reducible rfl | exact congrArg (AV.int _) (by omega) | (first | rfl | rw [e0])
  · intro i hi
    have hb := textB_le hp hi
    have hz : (#[32, 47, 32] : Array UInt8).size = 3 := rfl
    simp only [go_sem]
    refine fork_intro (fun hc => ?_) (fun hc => ?_)
    · have hil : i < d.length := by omega
      have hr := field_row hp hil
      have hl := field_row_len hp hil
      have e := textB_succ o d hil
      have hw := words_le hr
      simp only [hz]
      repeat' (first | refine fork_intro (fun hb => ?_) (fun hb => ?_) | refine partB_intro (fun hb => ?_) (fun hb => ?_) | refine And.intro ?_ ?_)
      all_goals first | exact True.intro | omega | with_reducible rfl | exact congrArg (AV.int _) (by omega) | (refine LoopEnd.intro (i + 1) (by first | omega) (by first | omega | (dsimp only; omega)) (by omega) ?_; simp only [go_sem]; (repeat' (first | refine fork_intro (fun hb => ?_) (fun hb => ?_) | refine partB_intro (fun hb => ?_) (fun hb => ?_) | refine And.intro ?_ ?_)); all_goals first | exact True.intro | omega | with_reducible rfl | exact congrArg (AV.int _) (by omega) | (first | exact ⟨hl, hr⟩ | exact hr | rw [e] | rfl)) | (first | exact ⟨hl, hr⟩ | exact hr | rw [e] | rfl)
    · rw [show i = d.length by omega]
def t_textS : Table := [(49, pureC g_textS)]
theorem t_textS_ok : TabOK Tryz.prog t_textS := .cons Tryz.func49 (by kernel_rfl) (.pure (by intro args hp; unfold g_textS at hp ⊢; split at hp <;> first | exact hp.elim | exact textS_ok _ _ hp)) (.nil _)
attribute [go_sem] g_textS_eq t_textS
def g_ftextS : List AV -> Prop × AV
  | [.agg [.ints o, .rows d]] => (o.length <= 1048576000 /\ d.length <= 1048576000 /\ ∀ x ∈ d, x.length <= 1048576000, .tup [.str (bif good o d then textB o d d.length else ⟨#[]⟩), .bool (good o d)])
  | _ => (False, .undef)
theorem g_ftextS_eq (o : List Int) (d : List (List Int)) : g_ftextS [.agg [.ints o, .rows d]] = (o.length <= 1048576000 /\ d.length <= 1048576000 /\ ∀ x ∈ d, x.length <= 1048576000, .tup [.str (bif good o d then textB o d d.length else ⟨#[]⟩), .bool (good o d)]) := (rfl)
theorem ftextS_ok (o : List Int) (d : List (List Int)) (hp : o.length <= 1048576000 /\ d.length <= 1048576000 /\ ∀ x ∈ d, x.length <= 1048576000) : SpecOK Tryz.prog 20 [.agg [.ints o, .rows d]] (.tup [.str (bif good o d then textB o d d.length else ⟨#[]⟩), .bool (good o d)]) [] := by
  refine fun_ok (C := t_l2Good ++ t_textS) (hint := hintX [] [] 0 [] [] [] []) ((t_l2Good_ok).append t_textS_ok) mixed Tryz.func20 rfl (by kernel_rfl) rfl ?_
  show codeA _ _ _ _ _ _ _ _
  simp only [go_sem, Tryz.results20]
  refine ⟨hp, partB_intro (fun hg => ?_) (fun hg => ?_)⟩
  · rw [hg]
    exact ⟨good_iff.1 hg, rfl, rfl⟩
  · rw [hg]; exact ⟨rfl, rfl⟩
def t_ftextS : Table := [(20, pureC g_ftextS)]
theorem t_ftextS_ok : TabOK Tryz.prog t_ftextS := .cons Tryz.func20 (by kernel_rfl) (.pure (by intro args hp; unfold g_ftextS at hp ⊢; split at hp <;> first | exact hp.elim | exact ftextS_ok _ _ hp)) (.nil _)
attribute [go_sem] g_ftextS_eq t_ftextS
def g_ftextI : List AV -> Prop × AV
  | [.agg [.ints o, .rows d]] => (o.length <= 1048576000 /\ d.length <= 1048576000 /\ ∀ x ∈ d, x.length <= 1048576000, .tup [.str (bif good o d then textB o d d.length else ⟨#[]⟩), .bool (good o d)])
  | _ => (False, .undef)
theorem g_ftextI_eq (o : List Int) (d : List (List Int)) : g_ftextI [.agg [.ints o, .rows d]] = (o.length <= 1048576000 /\ d.length <= 1048576000 /\ ∀ x ∈ d, x.length <= 1048576000, .tup [.str (bif good o d then textB o d d.length else ⟨#[]⟩), .bool (good o d)]) := (rfl)
theorem ftextI_ok (o : List Int) (d : List (List Int)) (hp : o.length <= 1048576000 /\ d.length <= 1048576000 /\ ∀ x ∈ d, x.length <= 1048576000) : SpecOK Tryz.prog 19 [.agg [.ints o, .rows d]] (.tup [.str (bif good o d then textB o d d.length else ⟨#[]⟩), .bool (good o d)]) [] := by
  refine fun_ok (C := t_isF ++ t_wordsI ++ t_joinC) (hint := hintX [4, 13, 25] [] 0 [] [] [] []) (((t_isF_ok).append t_wordsI_ok).append t_joinC_ok) mixed Tryz.func19 rfl (by kernel_rfl) rfl ?_
  show codeA _ _ _ _ _ _ _ _
  simp only [go_sem, Tryz.results19]
  refine ⟨hp, partB_intro (fun hg => ?_) (fun hg => ?_)⟩
  · have hf := good_iff.1 hg
    have h7 := hf.n7
    have hm := hf.m7
    rw [hg]
    refine ⟨⟨h7, hf.o99⟩, ?_⟩
    refine loop_intro (fun i : Nat => [(17, .int .i64 i), (4, .sl 0), (15, .rows d), (16, .int .i64 d.length), (1, .iptr [.ints o, .rows d])]) (fun i => [(0, .arr (.strs (textL o d i)))]) 1 (fun i => i <= d.length) (fun i => d.length - i) 0 (by omega) (by omega) ?_ ?_
    · simp only [go_sem]
      repeat' (first | refine fork_intro (fun hb => ?_) (fun hb => ?_) | refine partB_intro (fun hb => ?_) (fun hb => ?_) | refine And.intro ?_ ?_)
      all_goals first | exact True.intro | omega | with_reducible rfl | exact congrArg (AV.int _) (by omega) | (first | rfl)
    · intro i hi
      have hll := textL_len o d hi
      simp only [go_sem]
      refine fork_intro (fun hc => ?_) (fun hc => ?_)
      · have hil : i < d.length := by omega
        have hr := field_row hf hil
        have hl := field_row_len hf hil
        have e := textL_succ o d hil
        repeat' (first | refine fork_intro (fun hb => ?_) (fun hb => ?_) | refine partB_intro (fun hb => ?_) (fun hb => ?_) | refine And.intro ?_ ?_)
        all_goals first | exact True.intro | omega | with_reducible rfl | exact congrArg (AV.int _) (by omega) | (refine LoopEnd.intro (i + 1) (by first | omega) (by first | omega | (dsimp only; omega)) (by omega) ?_; simp only [go_sem]; (repeat' (first | refine fork_intro (fun hb => ?_) (fun hb => ?_) | refine partB_intro (fun hb => ?_) (fun hb => ?_) | refine And.intro ?_ ?_)); all_goals first | exact True.intro | omega | with_reducible rfl | exact congrArg (AV.int _) (by omega) | (first | exact ⟨hl, hr⟩ | exact hr | rw [e] | rfl)) | (first | exact ⟨hl, hr⟩ | exact hr | rw [e] | rfl)
      · have hi' : i = d.length := by omega
        subst hi'
        have hb := textB_le hf (Nat.le_refl d.length)
        have e : joinB (textL o d d.length) ⟨#[32, 47, 32]⟩ = textB o d d.length := rfl
        rw [e]
        repeat' (first | refine fork_intro (fun hb => ?_) (fun hb => ?_) | refine partB_intro (fun hb => ?_) (fun hb => ?_) | refine And.intro ?_ ?_)
        all_goals first | exact True.intro | omega | with_reducible rfl | exact congrArg (AV.int _) (by omega) | (first | rfl)
  · rw [hg]; exact ⟨rfl, rfl⟩
def t_ftextI : Table := [(19, pureC g_ftextI)]
theorem t_ftextI_ok : TabOK Tryz.prog t_ftextI := .cons Tryz.func19 (by kernel_rfl) (.pure (by intro args hp; unfold g_ftextI at hp ⊢; split at hp <;> first | exact hp.elim | exact ftextI_ok _ _ hp)) (.nil _)
attribute [go_sem] g_ftextI_eq t_ftextI
end Go.Proofs.YteefjdbdknkcjaaGreatDoor
namespace Go.Proofs.YteefjdbdknkcjaaGreatDoor
open Go.Vc
set_option maxRecDepth 100000
set_option maxHeartbeats 1600000
set_option linter.unusedSimpArgs false
set_option linter.unusedVariables false
def g_drawParse : List AV -> Heap -> Prop × (Z -> Prop × AV × Heap)
  | [.bytes code], [] => (code.length <= 1000000000, fun z => (z.b.size <= 10000, .str z.b, []))
  | _, _ => (False, fun _ => (False, .undef, []))
theorem g_drawParse_eq (code : List UInt8) : g_drawParse [.bytes code] [] = (code.length <= 1000000000, fun z => (z.b.size <= 10000, .str z.b, [])) := (rfl)
theorem drawParse_ok (code : List UInt8) (hp : code.length <= 1000000000) : SpecZ Tryz.prog 22 [.bytes code] [] 0 (fun z => (z.b.size <= 10000, .str z.b, [])) := by
  refine fun_okZ (C := t_fieldD ++ t_l2Good ++ t_textS ++ t_oneD ++ t_spoiltT) (hint := hintX [5, 8] [(3, [.post, .fz [10], .frb 5])] 0 [33, 1000033, 42, 1000042, 52, 1000052] [] [] []) (((((t_fieldD_ok).append t_l2Good_ok).append t_textS_ok).append t_oneD_ok).append t_spoiltT_ok) mixed Tryz.func22 rfl (by kernel_rfl) rfl (Nat.le_refl _) (by decide) (upTo_look (k := 0) rfl) ?_
  show codeA _ _ _ _ _ _ _ _
  simp only [go_sem, Tryz.results22]
  have hw : 1 <= (#[48, 49, 50, 51, 32, 47, 45] : Array UInt8).size /\ (#[48, 49, 50, 51, 32, 47, 45] : Array UInt8).size <= 100 := by decide
  refine ⟨⟨hp, by omega⟩, fun z hz => ?_⟩
  obtain ⟨⟨b1, b2, b3⟩, ha⟩ := hz
  refine ⟨⟨by omega, by omega, fun x hx => by have := b3 x hx; omega⟩, partB_intro (fun hg => ?_) (fun hg => ?_)⟩
  · have hf := good_iff.1 hg
    have ht := textB_le hf (Nat.le_refl z.xss.length)
    have h7 := hf.m7
    have ht2 : (textB z.xs z.xss z.xss.length).size <= 1256 := by omega
    refine ⟨hf, ⟨hp, by omega, by omega⟩, fun z1 h1 => fork_intro (fun _ => ⟨⟨hp, by omega, by omega, hw⟩, fun z2 h2 => ⟨{ b := z2.b }, by dsimp only; omega, rfl⟩⟩) (fun _ => ⟨{ b := textB z.xs z.xss z.xss.length }, by dsimp only; omega, rfl⟩)⟩
  · have hs : (#[49, 32, 50, 32, 47, 32, 51, 32, 52] : Array UInt8).size <= 10 := by decide
    refine ⟨⟨hp, by omega, by omega⟩, fun z1 h1 => fork_intro (fun _ => ⟨⟨hp, by omega, by omega, hw⟩, fun z2 h2 => ⟨{ b := z2.b }, by dsimp only; omega, rfl⟩⟩) (fun _ => ⟨{ b := ⟨#[49, 32, 50, 32, 47, 32, 51, 32, 52]⟩ }, by decide, rfl⟩)⟩
def t_drawParse : Table := [(22, zC 0 0 g_drawParse)]
theorem t_drawParse_ok : TabOK Tryz.prog t_drawParse := .cons Tryz.func22 (by kernel_rfl) (.z (by decide) (by intro args pre _ hp; unfold g_drawParse at hp ⊢; split at hp <;> first | exact hp.elim | exact ⟨fun z hz => ⟨rfl, fun r hr => absurd hr (Nat.not_lt_zero _)⟩, drawParse_ok _ hp⟩)) (.nil _)
attribute [go_sem] g_drawParse_eq t_drawParse
end Go.Proofs.YteefjdbdknkcjaaGreatDoor
namespace Go.Proofs.YteefjdbdknkcjaaGreatDoor
open Go.Vc
set_option maxRecDepth 100000
set_option maxHeartbeats 1600000
set_option linter.unusedSimpArgs false
set_option linter.unusedVariables false

def g_rBig : List AV -> Prop × AV
  | [.bytes code] => (code.length <= 9223372036854775807, .bool (decide (65536 < code.length)))
  | _ => (False, .undef)
theorem g_rBig_eq (code : List UInt8) : g_rBig [.bytes code] = (code.length <= 9223372036854775807, .bool (decide (65536 < code.length))) := (rfl)
theorem rBig_ok (code : List UInt8) (hp : code.length <= 9223372036854775807) : SpecOK Tryz.prog 4 [.bytes code] (.bool (decide (65536 < code.length))) [] := by
  refine fun_ok (C := []) (hint := hintX [] [] 0 [] [] [] []) (TabOK.nil _) mixed Tryz.func4 rfl (by kernel_rfl) rfl ?_
  show codeA _ _ _ _ _ _ _ _
  simp only [go_sem, Tryz.results4]
  rw [show decide ((65536 : Int) < code.length) = decide (65536 < code.length) from decide_eq_decide.2 (by omega)]
def t_rBig : Table := [(4, pureC g_rBig)]
theorem t_rBig_ok : TabOK Tryz.prog t_rBig := .cons Tryz.func4 (by kernel_rfl) (.pure (by intro args hp; unfold g_rBig at hp ⊢; split at hp <;> first | exact hp.elim | exact rBig_ok _ hp)) (.nil _)
attribute [go_sem] g_rBig_eq t_rBig
def g_rInts : List AV -> Prop × AV
  | [.ints xs, .ints ys] => (xs.length <= 1048576000 /\ ys.length <= 1048576000, .bool (decide (xs = ys)))
  | _ => (False, .undef)
theorem g_rInts_eq (xs ys : List Int) : g_rInts [.ints xs, .ints ys] = (xs.length <= 1048576000 /\ ys.length <= 1048576000, .bool (decide (xs = ys))) := (rfl)
theorem rInts_ok (xs ys : List Int) (hp : xs.length <= 1048576000 /\ ys.length <= 1048576000) : SpecOK Tryz.prog 30 [.ints xs, .ints ys] (.bool (decide (xs = ys))) [] := by
  refine fun_ok (C := []) (hint := hintX [] [] 0 [] [] [] []) (TabOK.nil _) mixed Tryz.func30 rfl (by kernel_rfl) rfl ?_
  show codeA _ _ _ _ _ _ _ _
  simp only [go_sem, Tryz.results30]
  refine fork_intro (fun hb => ?_) (fun hb => ?_)
  · have hlen : xs.length = ys.length := by omega
    refine loop_intro (fun k : Nat => [(5, .int .i64 k), (0, .ints xs), (1, .ints ys)]) (fun _ => []) 0 (fun k => k <= xs.length /\ xs.take k = ys.take k) (fun k => xs.length - k) 0 ⟨Nat.zero_le _, rfl⟩ (Nat.zero_le _) ?_ ?_
    · simp only [go_sem]
      repeat' (first | refine fork_intro (fun hb => ?_) (fun hb => ?_) | refine partB_intro (fun hb => ?_) (fun hb => ?_) | refine And.intro ?_ ?_)
      all_goals first | exact True.intro | omega | with_reducible rfl | exact congrArg (AV.int _) (by omega)
    · rintro k ⟨hk, ht⟩
      simp only [go_sem]
      refine fork_intro (fun hb => ?_) (fun hb => ?_)
      · have e := take_eq ht (ix_some xs (by omega)) (ix_some ys (show k < ys.length by omega))
        refine ⟨by omega, by omega, fork_intro (fun hc => ?_) (fun hc => ?_)⟩
        · have h2 := e.2 hc
          repeat' (first | refine fork_intro (fun hb => ?_) (fun hb => ?_) | refine partB_intro (fun hb => ?_) (fun hb => ?_) | refine And.intro ?_ ?_)
          all_goals first | exact True.intro | omega | with_reducible rfl | exact congrArg (AV.int _) (by omega) | (refine LoopEnd.intro (k + 1) (by first | omega | (first | exact ⟨by omega, h2⟩)) (by first | omega | (dsimp only; omega)) (by omega) ?_; simp only [go_sem]; (repeat' (first | refine fork_intro (fun hb => ?_) (fun hb => ?_) | refine partB_intro (fun hb => ?_) (fun hb => ?_) | refine And.intro ?_ ?_)); all_goals first | exact True.intro | omega | with_reducible rfl | exact congrArg (AV.int _) (by omega))
        · rw [decide_eq_false (show ¬ xs = ys from fun h => hc (e.1 (by rw [h])))]
      · rw [show k = xs.length by omega, List.take_length, hlen, List.take_length] at ht
        rw [decide_eq_true ht]
  · rw [decide_eq_false (show ¬ xs = ys from fun h => hb (by rw [h]))]
def t_rInts : Table := [(30, pureC g_rInts)]
theorem t_rInts_ok : TabOK Tryz.prog t_rInts := .cons Tryz.func30 (by kernel_rfl) (.pure (by intro args hp; unfold g_rInts at hp ⊢; split at hp <;> first | exact hp.elim | exact rInts_ok _ _ hp)) (.nil _)
attribute [go_sem] g_rInts_eq t_rInts
def g_rTable : List AV -> Prop × AV
  | [.rows xs, .rows ys] => ((xs.length <= 1048576000 /\ ys.length <= 1048576000) /\ (∀ x ∈ xs, x.length <= 1048576000) /\ ∀ x ∈ ys, x.length <= 1048576000, .bool (decide (xs = ys)))
  | _ => (False, .undef)
theorem g_rTable_eq (xs ys : List (List Int)) : g_rTable [.rows xs, .rows ys] = ((xs.length <= 1048576000 /\ ys.length <= 1048576000) /\ (∀ x ∈ xs, x.length <= 1048576000) /\ ∀ x ∈ ys, x.length <= 1048576000, .bool (decide (xs = ys))) := (rfl)
theorem rTable_ok (xs ys : List (List Int)) (hp : (xs.length <= 1048576000 /\ ys.length <= 1048576000) /\ (∀ x ∈ xs, x.length <= 1048576000) /\ ∀ x ∈ ys, x.length <= 1048576000) : SpecOK Tryz.prog 31 [.rows xs, .rows ys] (.bool (decide (xs = ys))) [] := by
  refine fun_ok (C := t_rInts) (hint := hintX [] [] 0 [] [] [] []) (t_rInts_ok) mixed Tryz.func31 rfl (by kernel_rfl) rfl ?_
  show codeA _ _ _ _ _ _ _ _
  simp only [go_sem, Tryz.results31]
  obtain ⟨hp, hx, hy⟩ := hp
  refine fork_intro (fun hb => ?_) (fun hb => ?_)
  · have hlen : xs.length = ys.length := by omega
    refine loop_intro (fun k : Nat => [(5, .int .i64 k), (0, .rows xs), (1, .rows ys)]) (fun _ => []) 0 (fun k => k <= xs.length /\ xs.take k = ys.take k) (fun k => xs.length - k) 0 ⟨Nat.zero_le _, rfl⟩ (Nat.zero_le _) ?_ ?_
    · simp only [go_sem]
      repeat' (first | refine fork_intro (fun hb => ?_) (fun hb => ?_) | refine partB_intro (fun hb => ?_) (fun hb => ?_) | refine And.intro ?_ ?_)
      all_goals first | exact True.intro | omega | with_reducible rfl | exact congrArg (AV.int _) (by omega)
    · rintro k ⟨hk, ht⟩
      simp only [go_sem]
      refine fork_intro (fun hb => ?_) (fun hb => ?_)
      · have e := take_eq ht (ix_some xs (by omega)) (ix_some ys (show k < ys.length by omega))
        refine ⟨by omega, by omega, ⟨hx _ (ix_mem xs (by omega)), hy _ (ix_mem ys (by omega))⟩, fork_intro (fun hc => ?_) (fun hc => ?_)⟩
        · have h2 := e.2 hc
          repeat' (first | refine fork_intro (fun hb => ?_) (fun hb => ?_) | refine partB_intro (fun hb => ?_) (fun hb => ?_) | refine And.intro ?_ ?_)
          all_goals first | exact True.intro | omega | with_reducible rfl | exact congrArg (AV.int _) (by omega) | (refine LoopEnd.intro (k + 1) (by first | omega | (first | exact ⟨by omega, h2⟩)) (by first | omega | (dsimp only; omega)) (by omega) ?_; simp only [go_sem]; (repeat' (first | refine fork_intro (fun hb => ?_) (fun hb => ?_) | refine partB_intro (fun hb => ?_) (fun hb => ?_) | refine And.intro ?_ ?_)); all_goals first | exact True.intro | omega | with_reducible rfl | exact congrArg (AV.int _) (by omega))
        · rw [decide_eq_false (show ¬ xs = ys from fun h => hc (e.1 (by rw [h])))]
      · rw [show k = xs.length by omega, List.take_length, hlen, List.take_length] at ht
        rw [decide_eq_true ht]
  · rw [decide_eq_false (show ¬ xs = ys from fun h => hb (by rw [h]))]
def t_rTable : Table := [(31, pureC g_rTable)]
theorem t_rTable_ok : TabOK Tryz.prog t_rTable := .cons Tryz.func31 (by kernel_rfl) (.pure (by intro args hp; unfold g_rTable at hp ⊢; split at hp <;> first | exact hp.elim | exact rTable_ok _ _ hp)) (.nil _)
attribute [go_sem] g_rTable_eq t_rTable
def srtd (xs : List Int) (k : Nat) : List Int := ((List.range k).map fun q : Nat => (q : Int) - 1).filter fun x => decide (x ∈ xs)
end Go.Proofs.YteefjdbdknkcjaaGreatDoor
namespace Go.Proofs.YteefjdbdknkcjaaGreatDoor
open Go.Vc
set_option maxRecDepth 100000
set_option maxHeartbeats 1600000
set_option linter.unusedSimpArgs false
set_option linter.unusedVariables false
def g_rField : List AV -> Prop × AV
  | [.agg [.ints o, .rows d], .agg [.ints o', .rows d']] => ((o.length <= 1048576000 /\ d.length <= 1048576000 /\ ∀ x ∈ d, x.length <= 1048576000) /\ o'.length <= 1048576000 /\ d'.length <= 1048576000 /\ ∀ x ∈ d', x.length <= 1048576000, .bool (decide (o = o' /\ d = d')))
  | _ => (False, .undef)
theorem g_rField_eq (o o' : List Int) (d d' : List (List Int)) : g_rField [.agg [.ints o, .rows d], .agg [.ints o', .rows d']] = ((o.length <= 1048576000 /\ d.length <= 1048576000 /\ ∀ x ∈ d, x.length <= 1048576000) /\ o'.length <= 1048576000 /\ d'.length <= 1048576000 /\ ∀ x ∈ d', x.length <= 1048576000, .bool (decide (o = o' /\ d = d'))) := (rfl)
theorem rField_ok (o o' : List Int) (d d' : List (List Int)) (hp : (o.length <= 1048576000 /\ d.length <= 1048576000 /\ ∀ x ∈ d, x.length <= 1048576000) /\ o'.length <= 1048576000 /\ d'.length <= 1048576000 /\ ∀ x ∈ d', x.length <= 1048576000) : SpecOK Tryz.prog 8 [.agg [.ints o, .rows d], .agg [.ints o', .rows d']] (.bool (decide (o = o' /\ d = d'))) [] := by
  refine fun_ok (C := t_rInts ++ t_rTable) (hint := hintX [] [] 0 [] [] [] []) ((t_rInts_ok).append t_rTable_ok) mixed Tryz.func8 rfl (by kernel_rfl) rfl ?_
  show codeA _ _ _ _ _ _ _ _
  simp only [go_sem, Tryz.results8]
  obtain ⟨⟨p1, p2, p3⟩, q1, q2, q3⟩ := hp
  refine ⟨⟨p1, q1⟩, fork_intro (fun h => ⟨⟨⟨p2, q2⟩, p3, q3⟩, ?_⟩) (fun h => ?_)⟩
  · have e : (o = o' /\ d = d') ↔ d = d' := ⟨fun h => h.2, fun h2 => ⟨h, h2⟩⟩
    rw [decide_eq_decide.2 e]
  · rw [decide_eq_false (fun h2 => h h2.1)]
def t_rField : Table := [(8, pureC g_rField)]
theorem t_rField_ok : TabOK Tryz.prog t_rField := .cons Tryz.func8 (by kernel_rfl) (.pure (by intro args hp; unfold g_rField at hp ⊢; split at hp <;> first | exact hp.elim | exact rField_ok _ _ _ _ hp)) (.nil _)
attribute [go_sem] g_rField_eq t_rField
end Go.Proofs.YteefjdbdknkcjaaGreatDoor
namespace Go.Proofs.YteefjdbdknkcjaaGreatDoor
open Go.Vc
set_option maxRecDepth 100000
set_option maxHeartbeats 1600000
set_option linter.unusedSimpArgs false
set_option linter.unusedVariables false
def scl (by_ : Int) (xs : List Int) : List Int := xs.map fun x => x * by_
theorem scl_len (b : Int) (xs : List Int) : (scl b xs).length = xs.length := by simp [scl]
theorem scl_ix (b : Int) {xs : List Int} {k : Nat} (h : k < xs.length) : ix (scl b xs) (k : Int) = ix xs (k : Int) * b := by
  have e := ix_some (scl b xs) (k := k) (by rw [scl_len]; exact h)
  unfold scl at e
  rw [List.getElem?_map, ix_some xs h] at e
  exact (Option.some.inj e).symm
theorem scl_bnd {b x : Int} (hb : 1 <= b /\ b <= 100) (hx : 0 <= x /\ x <= 99) : 0 <= x * b /\ x * b <= 9900 := by
  obtain ⟨h1, h2⟩ := hx
  refine ⟨Int.mul_nonneg h1 (by omega), ?_⟩
  have := Int.mul_le_mul h2 hb.2 (by omega) (by omega)
  omega
def sclR (b : Int) (a : Nat) (d : List (List Int)) : List (List Int) := d.map fun x => over (scl b x) x a
theorem sclR_len (b : Int) (a : Nat) (d : List (List Int)) : (sclR b a d).length = d.length := by simp [sclR]
theorem sclR_zero (b : Int) (d : List (List Int)) : sclR b 0 d = d := by simp [sclR, over_zero]
theorem sclR_end (b : Int) {m : Nat} {d : List (List Int)} (h : ∀ x ∈ d, x.length = m) : sclR b m d = d.map (scl b) := by
  unfold sclR
  refine List.map_congr_left (fun x hx => ?_)
  rw [<- h x hx]
  exact over_end _ _ (scl_len b x).symm
theorem sclR_ix (b : Int) (a : Nat) {d : List (List Int)} {i : Nat} (h : i < d.length) : ix (sclR b a d) (i : Int) = over (scl b (ix d (i : Int))) (ix d (i : Int)) a := by
  unfold sclR; rw [ix_map _ _ h]
theorem row_step (b : Int) {x : List Int} {a : Nat} (h : a < x.length) : (over (scl b x) x a).set a (ix x (a : Int) * b) = over (scl b x) x (a + 1) := by
  have := over_set (scl b x) x (scl_len b x).symm h
  rw [scl_ix b h] at this
  exact this
theorem mat_step (b : Int) {m : Nat} {d : List (List Int)} (hd : ∀ x ∈ d, x.length = m) {a i : Nat} (ha : a < m) (hi : i < d.length) :
    (over (sclR b (a + 1) d) (sclR b a d) i).set i ((over (scl b (ix d (i : Int))) (ix d (i : Int)) a).set a (ix (ix d (i : Int)) (a : Int) * b)) = over (sclR b (a + 1) d) (sclR b a d) (i + 1) := by
  have := over_set (sclR b (a + 1) d) (sclR b a d) (k := i) (by rw [sclR_len, sclR_len]) (by rw [sclR_len]; exact hi)
  rw [sclR_ix b _ hi] at this
  rw [row_step b (by rw [hd _ (ix_mem d hi)]; exact ha)]
  exact this
def sclB (o : List Int) (d : List (List Int)) (n : Int) : Bool := good o d && (decide (1 <= n) && good (scl (min n 100) o) (d.map (scl (min n 100))))
def g_scaleS : List AV -> Prop × AV
  | [.agg [.ints o, .rows d], .int .i64 n] => ((o.length <= 1048576000 /\ d.length <= 1048576000 /\ ∀ x ∈ d, x.length <= 1048576000) /\ RK .i64 n, .tup [.agg [.ints (bif sclB o d n then scl (min n 100) o else []), .rows (bif sclB o d n then d.map (scl (min n 100)) else [])], .bool (sclB o d n)])
  | _ => (False, .undef)
theorem g_scaleS_eq (o : List Int) (d : List (List Int)) (n : Int) : g_scaleS [.agg [.ints o, .rows d], .int .i64 n] = ((o.length <= 1048576000 /\ d.length <= 1048576000 /\ ∀ x ∈ d, x.length <= 1048576000) /\ RK .i64 n, .tup [.agg [.ints (bif sclB o d n then scl (min n 100) o else []), .rows (bif sclB o d n then d.map (scl (min n 100)) else [])], .bool (sclB o d n)]) := (rfl)
theorem scaleS_ok (o : List Int) (d : List (List Int)) (n : Int) (hp : (o.length <= 1048576000 /\ d.length <= 1048576000 /\ ∀ x ∈ d, x.length <= 1048576000) /\ RK .i64 n) : SpecOK Tryz.prog 13 [.agg [.ints o, .rows d], .int .i64 n] (.tup [.agg [.ints (bif sclB o d n then scl (min n 100) o else []), .rows (bif sclB o d n then d.map (scl (min n 100)) else [])], .bool (sclB o d n)]) [] := by
  refine fun_ok (C := t_l2Good ++ t_l2Own ++ t_least2) (hint := hintX [4, 6, 19] [] 0 [] [] [] []) (((t_l2Good_ok).append t_l2Own_ok).append t_least2_ok) mixed Tryz.func13 rfl (by kernel_rfl) rfl ?_
  show codeA _ _ _ _ _ _ _ _
  simp only [go_sem, Tryz.results13]
  obtain ⟨hpre, hn⟩ := hp
  refine ⟨hpre, partB_intro (fun hg => fork_intro (fun h1 => ?_) (fun h1 => ?_)) (fun hg => ?_)⟩
  · have hB : sclB o d n = false := by unfold sclB; rw [decide_eq_false (by omega), Bool.false_and, Bool.and_false]
    rw [hB]
    exact ⟨⟨rfl, rfl⟩, rfl⟩
  · have hF := good_iff.1 hg
    have hn7 := hF.n7
    have hm7 := hF.m7
    have hB : sclB o d n = good (scl (min n 100) o) (d.map (scl (min n 100))) := by unfold sclB; rw [hg, decide_eq_true (by omega), Bool.true_and, Bool.true_and]
    rw [hB]
    generalize hb : min n 100 = b at *
    have hb1 : 1 <= b /\ b <= 100 := by omega
    refine ⟨hpre, ?_⟩
    refine loop_intro (fun a : Nat => [(8, .int .i64 a), (7, .int .i64 b), (6, .bx 5 0), (4, .bx 0 0), (5, .bool false)]) (fun a => [(0, .box [.nils, .nils]), (2, .arr (.ints (over (scl b o) o a))), (4, .mat (sclR b a d)), (5, .box [.sl 2, .mt 4])]) 6 (fun a => a <= o.length) (fun a => o.length - a) 0 (Nat.zero_le _) (by omega) ?_ ?_
    · simp only [go_sem, over_zero, sclR_zero]
      repeat' (first | refine fork_intro (fun hb => ?_) (fun hb => ?_) | refine partB_intro (fun hb => ?_) (fun hb => ?_) | refine And.intro ?_ ?_)
      all_goals first | exact True.intro | omega | with_reducible rfl | exact congrArg (AV.int _) (by omega)
    · intro a ha
      have hol := over_len (scl b o) o (scl_len b o).symm ha
      have hml := sclR_len b a d
      simp only [go_sem]
      refine fork_intro (fun hc => ?_) (fun hc => ?_)
      · have hal : a < o.length := by omega
        have hx := over_ix (scl b o) o (scl_len b o).symm hal
        have hxb := scl_bnd hb1 (hF.o99 _ (ix_mem o hal))
        have hst := row_step b hal
        rw [hx]
        refine ⟨by omega, by omega, by omega, ?_⟩
        rw [hst]
        refine loop_intro (fun i : Nat => [(9, .int .i64 i), (8, .int .i64 a), (7, .int .i64 b), (6, .bx 5 0), (4, .bx 0 0), (5, .bool false)]) (fun i => [(0, .box [.nils, .nils]), (2, .arr (.ints (over (scl b o) o (a + 1)))), (4, .mat (over (sclR b (a + 1) d) (sclR b a d) i)), (5, .box [.sl 2, .mt 4])]) 6 (fun i => i <= d.length) (fun i => d.length - i) 0 (Nat.zero_le _) (by omega) ?_ ?_
        · simp only [go_sem, over_zero]
          repeat' (first | refine fork_intro (fun hb => ?_) (fun hb => ?_) | refine partB_intro (fun hb => ?_) (fun hb => ?_) | refine And.intro ?_ ?_)
          all_goals first | exact True.intro | omega | with_reducible rfl | exact congrArg (AV.int _) (by omega)
        · intro i hi
          have hll := over_len (sclR b (a + 1) d) (sclR b a d) (k := i) (by rw [sclR_len, sclR_len]) (by rw [sclR_len]; exact hi)
          rw [sclR_len] at hll
          simp only [go_sem]
          refine fork_intro (fun hc2 => ?_) (fun hc2 => ?_)
          · have hil : i < d.length := by omega
            have hy := over_ix (sclR b (a + 1) d) (sclR b a d) (k := i) (by rw [sclR_len, sclR_len]) (by rw [sclR_len]; exact hil)
            rw [sclR_ix b _ hil] at hy
            have hxl := hF.len _ (ix_mem d hil)
            have hx2 := over_ix (scl b (ix d (i : Int))) (ix d (i : Int)) (scl_len b _).symm (k := a) (by omega)
            have hol2 := over_len (scl b (ix d (i : Int))) (ix d (i : Int)) (scl_len b _).symm (k := a) (by omega)
            have hxb2 := scl_bnd hb1 (hF.d99 _ (ix_mem d hil) _ (ix_mem _ (k := a) (by omega)))
            have hms := mat_step b hF.len hal hil
            rw [hy, hx2]
            refine ⟨by omega, by omega, by omega, by omega, by omega, by omega, ?_⟩
            rw [hms]
            refine LoopEnd.intro (i + 1) ?_ ?_ (Nat.zero_le _) ?_ <;> (try omega)
            simp only [go_sem]
            repeat' (first | refine fork_intro (fun hb => ?_) (fun hb => ?_) | refine partB_intro (fun hb => ?_) (fun hb => ?_) | refine And.intro ?_ ?_)
            all_goals first | exact True.intro | omega | with_reducible rfl | exact congrArg (AV.int _) (by omega)
          · refine ⟨by omega, ?_⟩
            have hie : i = (sclR b a d).length := by rw [sclR_len]; omega
            have hoe := over_end (sclR b (a + 1) d) (sclR b a d) (by rw [sclR_len, sclR_len])
            rw [hie, hoe]
            refine LoopEnd.intro (a + 1) ?_ ?_ (Nat.zero_le _) ?_ <;> (try omega)
            simp only [go_sem]
            repeat' (first | refine fork_intro (fun hb => ?_) (fun hb => ?_) | refine partB_intro (fun hb => ?_) (fun hb => ?_) | refine And.intro ?_ ?_)
            all_goals first | exact True.intro | omega | with_reducible rfl | exact congrArg (AV.int _) (by omega)
      · have hae : a = o.length := by omega
        have hoe := over_end (scl b o) o (scl_len b o).symm
        rw [hae, hoe, sclR_end b hF.len]
        refine ⟨⟨by rw [scl_len]; omega, by rw [List.length_map]; omega, fun x hx => ?_⟩, partB_intro (fun h => ?_) (fun h => ?_)⟩
        · obtain ⟨y, hy, rfl⟩ := List.mem_map.1 hx
          rw [scl_len, hF.len y hy]; omega
        · rw [h]; exact ⟨⟨rfl, rfl⟩, rfl⟩
        · rw [h]; exact ⟨⟨rfl, rfl⟩, rfl⟩
  · have hB : sclB o d n = false := by unfold sclB; rw [hg, Bool.false_and]
    rw [hB]
    exact ⟨⟨rfl, rfl⟩, rfl⟩
def t_scaleS : Table := [(13, pureC g_scaleS)]
theorem t_scaleS_ok : TabOK Tryz.prog t_scaleS := .cons Tryz.func13 (by kernel_rfl) (.pure (by intro args hp; unfold g_scaleS at hp ⊢; split at hp <;> first | exact hp.elim | exact scaleS_ok _ _ _ hp)) (.nil _)
attribute [go_sem] g_scaleS_eq t_scaleS
end Go.Proofs.YteefjdbdknkcjaaGreatDoor
namespace Go.Proofs.YteefjdbdknkcjaaGreatDoor
open Go.Vc Go.RowKit
set_option maxRecDepth 100000
set_option linter.unusedSimpArgs false
set_option linter.unusedVariables false
theorem eval_put {a : Act} {t : Nat} {v : Value} (ht : t < a.tmps.size) : (a.put (some t) v).eval (.tmp t) = v := by
  show (a.tmps.setIfInBounds t v).getD t Go.undef = v
  rw [Array.getD_eq_getD_getElem?, Array.getElem?_setIfInBounds]
  simp [ht]
theorem eval_ne {a : Act} {t s : Nat} {v : Value} (h : t ≠ s) : (a.put (some t) v).eval (.tmp s) = a.eval (.tmp s) := by
  show (a.tmps.setIfInBounds t v).getD s Go.undef = a.tmps.getD s Go.undef
  rw [Array.getD_eq_getD_getElem?, Array.getElem?_setIfInBounds, Array.getD_eq_getD_getElem?, if_neg h]
theorem step_val {P : Program} {ops : Array Oper} {Q : Exit -> Act -> World -> Prop} {o : Oper} {rest : List Oper} {a : Act} {w w' : World} {cv : Value} (hg : o.guard = none) (hr : (execOp a.eval o).run P w = .ok (.value cv) w') (h : wpList P ops Q rest (a.put o.dst cv) w') : wpList P ops Q (o :: rest) a w := by
  unfold wpList
  rw [if_pos (by simp [Region.wanted, hg])]
  refine .inl ?_
  unfold Oper.wp
  rw [hr]
  exact h
theorem EnvRel.set {S : Store} {ρ : Rho} {H : HF} {e : Env} {a : Act} (h : EnvRel S ρ H e a) {t : Nat} {v : AV} {cv : Value} {k : Nat} (hv : V S ρ H v cv) (hk : a.tmps.size = k) (ht : t < k) : EnvRel S ρ H ((t, v) :: e) (a.put (some t) cv) :=
  h.put (d := some t) hv (fun t' e => by cases e; rw [hk]; exact ht)
end Go.Proofs.YteefjdbdknkcjaaGreatDoor
