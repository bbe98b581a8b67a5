/- Numbers read from texts: plain facts. -/
import Derived.Test.YtjnongegddnobaaDoorPlG
import Derived.Lib.AtoiTie
namespace Go.Proofs.YtjnongegddnobaaDoor
open Go.Vc
set_option maxRecDepth 100000
set_option linter.unusedSimpArgs false
set_option linter.unusedVariables false

theorem digitVal_of (k : Nat) (h : k < 10) : Lib.digitVal (UInt8.ofNat (48 + k)) = some k := by
  rcases k with _ | _ | _ | _ | _ | _ | _ | _ | _ | _ | k <;> first | rfl | omega
theorem decFrom_snoc (b : UInt8) : ∀ (l : List UInt8) (acc : Nat), Lib.decFrom acc (l ++ [b]) = (Lib.decFrom acc l).bind fun m => (Lib.digitVal b).map (m * 10 + ·)
  | [], acc => by
    simp only [List.nil_append, Lib.decFrom, Option.bind_some]
    cases Lib.digitVal b <;> rfl
  | a :: l, acc => by
    simp only [List.cons_append, Lib.decFrom]
    cases Lib.digitVal a with
    | none => rfl
    | some d => exact decFrom_snoc b l _
theorem dec_split {u : Nat} (h : ¬ u < 10) : Lib.decDigits u = Lib.decDigits (u / 10) ++ [UInt8.ofNat (48 + u % 10)] := by
  rw [Lib.decDigits, dif_neg h]
theorem dec_fold (u : Nat) : Lib.decFrom 0 (Lib.decDigits u) = some u := by
  induction u using Nat.strongRecOn with
  | ind u ih =>
    by_cases h : u < 10
    · rw [Lib.decDigits_one h]
      simp only [Lib.decFrom, digitVal_of u h]; simp
    · rw [dec_split h, decFrom_snoc, ih (u / 10) (by omega), Option.bind_some, digitVal_of _ (by omega)]
      simp only [Option.map_some]
      congr 1; omega
theorem dec_len : ∀ (k u : Nat), u < 10 ^ (k + 1) -> (Lib.decDigits u).length <= k + 1
  | 0, u, h => by rw [Lib.decDigits_one (by omega)]; simp
  | k + 1, u, h => by
    by_cases g : u < 10
    · rw [Lib.decDigits_one g]; simp
    · rw [dec_split g, List.length_append]
      have := dec_len k (u / 10) (by rw [Nat.pow_succ] at h; omega)
      simp; omega
theorem dec_pos (u : Nat) : 1 <= (Lib.decDigits u).length := by
  by_cases g : u < 10
  · rw [Lib.decDigits_one g]; simp
  · rw [dec_split g, List.length_append]; simp
theorem digit_of_from : ∀ (l : List UInt8) (acc m : Nat), Lib.decFrom acc l = some m -> ∀ b ∈ l, 48 <= b.toNat /\ b.toNat <= 57
  | [], _, _, _, b, hb => by cases hb
  | a :: l, acc, m, h, b, hb => by
    unfold Lib.decFrom at h
    cases e : Lib.digitVal a with
    | none => rw [e] at h; cases h
    | some d =>
      rw [e] at h
      rcases List.mem_cons.1 hb with rfl | hb
      · unfold Lib.digitVal at e
        split at e
        · assumption
        · cases e
      · exact digit_of_from l _ m h b hb
theorem dec_digit (u : Nat) : ∀ b ∈ Lib.decDigits u, 48 <= b.toNat /\ b.toNat <= 57 := digit_of_from _ 0 u (dec_fold u)
theorem atoi_itoa (n : Int) : Lib.atoi (Lib.itoa n) = some n := by
  unfold Lib.itoa
  have key : ∀ u : Nat, Lib.decNat (Lib.decDigits u) = some u := fun u => by
    unfold Lib.decNat
    have := dec_pos u
    rw [if_neg (by intro h; rw [List.isEmpty_iff] at h; rw [h] at this; simp at this), dec_fold]
  split
  · rename_i h
    unfold Lib.atoi
    simp only [beq_self_eq_true, if_true, key, Option.map_some]
    congr 1; omega
  · rename_i h
    obtain ⟨b, r, e⟩ : ∃ b r, Lib.decDigits n.toNat = b :: r := by
      have := dec_pos n.toNat
      cases e : Lib.decDigits n.toNat with
      | nil => rw [e] at this; simp at this
      | cons b r => exact ⟨b, r, rfl⟩
    have hb := dec_digit n.toNat b (by rw [e]; simp)
    have k := key n.toNat
    rw [e] at k ⊢
    unfold Lib.atoi
    have h45 : (b == 45) = false := by
      rw [beq_eq_false_iff_ne]; intro e; rw [e] at hb; simp at hb
    have h43 : (b == 43) = false := by
      rw [beq_eq_false_iff_ne]; intro e; rw [e] at hb; simp at hb
    simp only [h45, h43, Bool.false_eq_true, if_false, k, Option.map_some]
    congr 1; omega
theorem atoiAll_itoa {n : Int} (h0 : -999999 <= n) (h1 : n <= 999999) : Lib.atoiAll (Lib.itoa n) = .ok n := by
  rw [Lib.atoiAll_short, atoi_itoa]; rfl
  unfold Lib.itoa
  have a := dec_len 5 n.natAbs (by omega)
  have b := dec_len 5 n.toNat (by omega)
  split
  · simp; omega
  · omega

/-- Whether a text is the numeral of a small number, and of which. -/
def okN (s : ByteArray) : Bool := match Lib.atoiAll s.data.toList with
  | .ok n => decide (-999999 <= n /\ n <= 999999) && decide (numB n = s)
  | _ => false
def valN (s : ByteArray) : Int := match Lib.atoiAll s.data.toList with
  | .ok n => n
  | _ => 0
theorem okN_of {n : Int} {s : ByteArray} (h0 : -999999 <= n) (h1 : n <= 999999) (e : numB n = s) : okN s = true /\ valN s = n := by
  subst e
  have h : Lib.atoiAll (numB n).data.toList = .ok n := atoiAll_itoa h0 h1
  unfold okN valN
  rw [h]
  exact ⟨by simp [h0, h1], rfl⟩
theorem okN_inv {s : ByteArray} (h : okN s = true) : ∃ n, -999999 <= n /\ n <= 999999 /\ numB n = s /\ valN s = n := by
  unfold okN at h
  split at h
  · rename_i n e
    simp only [Bool.and_eq_true, decide_eq_true_eq] at h
    exact ⟨n, h.1.1, h.1.2, h.2, by unfold valN; rw [e]⟩
  · cases h

/-- The text without its sign; the number that digits spell. -/
def absB (s : ByteArray) : ByteArray := if 1 < s.size /\ byteAt s 0 = 45 then s.extract 1 s.size else s
def foldD (t : ByteArray) : Nat -> Int
  | 0 => 0
  | k + 1 => 10 * foldD t k + ((byteAt t (k : Int)).toNat - 48)
theorem foldD_bd {t : ByteArray} : ∀ k, (∀ j : Nat, j < k -> 48 <= (byteAt t (j : Int)).toNat /\ (byteAt t (j : Int)).toNat <= 57) -> 0 <= foldD t k /\ foldD t k < 10 ^ k
  | 0, _ => by simp [foldD]
  | k + 1, h => by
    have a := foldD_bd k (fun j hj => h j (by omega))
    have b := h k (by omega)
    unfold foldD
    rw [Int.pow_succ]
    omega
theorem foldD_from {t : ByteArray} : ∀ k, k <= t.size -> (∀ j : Nat, j < k -> 48 <= (byteAt t (j : Int)).toNat /\ (byteAt t (j : Int)).toNat <= 57) -> ∃ m : Nat, Lib.decFrom 0 (t.data.toList.take k) = some m /\ foldD t k = m
  | 0, _, _ => ⟨0, rfl, rfl⟩
  | k + 1, hk, h => by
    obtain ⟨m, h1, h2⟩ := foldD_from k (by omega) (fun j hj => h j (by omega))
    have b := h k (by omega)
    have e := byteAt_some t (show k < t.size by omega)
    refine ⟨m * 10 + ((byteAt t (k : Int)).toNat - 48), ?_, ?_⟩
    · rw [List.take_add_one, e, Option.toList_some, decFrom_snoc, h1]
      unfold Lib.digitVal
      rw [if_pos b]; rfl
    · unfold foldD; rw [h2]; omega
theorem num_abs {n : Int} {s : ByteArray} (h0 : -999999 <= n) (h1 : n <= 999999) (e : numB n = s) :
    1 <= (absB s).size /\ (absB s).size <= 6 /\ (∀ j : Nat, j < (absB s).size -> 48 <= (byteAt (absB s) (j : Int)).toNat /\ (byteAt (absB s) (j : Int)).toNat <= 57) /\ foldD (absB s) (absB s).size = n.natAbs /\ ((absB s).size < s.size ↔ n < 0) := by
  subst e
  have key : ∀ t : ByteArray, t.data.toList = Lib.decDigits n.natAbs -> 1 <= t.size /\ t.size <= 6 /\ (∀ j : Nat, j < t.size -> 48 <= (byteAt t (j : Int)).toNat /\ (byteAt t (j : Int)).toNat <= 57) /\ foldD t t.size = n.natAbs := fun t ht => by
    have hsz : t.size = (Lib.decDigits n.natAbs).length := by rw [<- ht]; simp
    have hd : ∀ j : Nat, j < t.size -> 48 <= (byteAt t (j : Int)).toNat /\ (byteAt t (j : Int)).toNat <= 57 := fun j hj => by
      have e := byteAt_some t hj
      rw [ht] at e
      exact dec_digit _ _ (List.mem_of_getElem? e)
    obtain ⟨m, g1, g2⟩ := foldD_from t.size (Nat.le_refl _) hd
    rw [ht, hsz, List.take_length, dec_fold] at g1
    refine ⟨by rw [hsz]; exact dec_pos _, by rw [hsz]; exact dec_len 5 _ (by omega), hd, ?_⟩
    rw [g2, <- Option.some.inj g1]
  by_cases hn : n < 0
  · have hd : (numB n).data.toList = 45 :: Lib.decDigits n.natAbs := by
      show (Lib.itoa n).toArray.toList = _
      unfold Lib.itoa; rw [if_pos hn]
    have hs : (numB n).size = (Lib.decDigits n.natAbs).length + 1 := by
      have : (numB n).size = (numB n).data.toList.length := by simp
      rw [this, hd]; rfl
    have h45 : byteAt (numB n) 0 = 45 := by unfold byteAt; rw [hd]; rfl
    have hp := dec_pos n.natAbs
    have ea : absB (numB n) = (numB n).extract 1 (numB n).size := by unfold absB; rw [if_pos ⟨by omega, h45⟩]
    have ht : (absB (numB n)).data.toList = Lib.decDigits n.natAbs := by
      rw [ea, Lib.extract_to_end, hd]; rfl
    obtain ⟨k1, k2, k3, k4⟩ := key _ ht
    refine ⟨k1, k2, k3, k4, ⟨fun _ => hn, fun _ => ?_⟩⟩
    have : (absB (numB n)).size = (absB (numB n)).data.toList.length := by simp
    rw [this, ht, hs]; omega
  · have hd : (numB n).data.toList = Lib.decDigits n.natAbs := by
      show (Lib.itoa n).toArray.toList = _
      unfold Lib.itoa; rw [if_neg hn, show n.toNat = n.natAbs by omega]
    have ea : absB (numB n) = numB n := by
      unfold absB
      rw [if_neg]
      rintro ⟨h2, h3⟩
      have e := byteAt_some (numB n) (k := 0) (by omega)
      rw [hd] at e
      have := dec_digit _ _ (List.mem_of_getElem? e)
      rw [show ((0 : Nat) : Int) = 0 from rfl, h3] at this
      simp at this
    obtain ⟨k1, k2, k3, k4⟩ := key (absB (numB n)) (by rw [ea]; exact hd)
    refine ⟨k1, k2, k3, k4, ⟨fun h => by rw [ea] at h; omega, fun h => (hn h).elim⟩⟩
end Go.Proofs.YtjnongegddnobaaDoor
