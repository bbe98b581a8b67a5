/- Checksums: what they tell. -/
import Derived.Test.YtjnongegddnobaaDoorPlH
namespace Go.Proofs.YtjnongegddnobaaDoor
open Go.Vc
set_option maxRecDepth 100000
set_option linter.unusedSimpArgs false
set_option linter.unusedVariables false

def sumB (s : ByteArray) : Nat -> Int
  | 0 => 7
  | k + 1 => (41 * sumB s k + (byteAt s k).toNat + 1) % 999979
theorem sumB_bd (s : ByteArray) (k : Nat) : 0 <= sumB s k /\ sumB s k < 999979 := by
  induction k with
  | zero => simp [sumB]
  | succ k ih => unfold sumB; omega
def sealB (s : ByteArray) : ByteArray := s ++ (⟨#[35]⟩ : ByteArray) ++ numB (sumB s s.size)
theorem sealB_size (s : ByteArray) : (sealB s).size <= s.size + 22 /\ s.size < (sealB s).size := by
  have h := sumB_bd s s.size
  have := numB_size (sumB s s.size) (by omega) (by omega)
  unfold sealB
  rw [ByteArray.size_append, ByteArray.size_append]
  have e : (⟨#[35]⟩ : ByteArray).size = 1 := rfl
  omega
def okC (s : ByteArray) : Bool := decide (s.size <= 4000) && (!hasB s 35 && decide ((sealB s).size <= 4000))
def okV (s : ByteArray) : Bool := decide (s.size <= 4000) && decide (sealB (frontB s 35) = s)

theorem num_same {n : Int} (h0 : 0 <= n) (h1 : n <= 999999) : absB (numB n) = numB n := by
  obtain ⟨_, _, _, _, h⟩ := num_abs (n := n) (by omega) h1 rfl
  have h2 : ¬ (absB (numB n)).size < (numB n).size := fun h3 => by have := h.1 h3; omega
  have h3 : absB (numB n) = if 1 < (numB n).size /\ byteAt (numB n) 0 = 45 then (numB n).extract 1 (numB n).size else numB n := rfl
  rw [h3]
  split
  · rename_i h4
    exfalso
    rw [h3, if_pos h4, ByteArray.size_extract] at h2
    omega
  · rfl
theorem num_no35 {n : Int} (h0 : 0 <= n) (h1 : n <= 999999) : (35 : UInt8) ∉ (numB n).data.toList := fun hm => by
  obtain ⟨_, _, h, _, _⟩ := num_abs (n := n) (by omega) h1 rfl
  rw [num_same h0 h1] at h
  obtain ⟨j, hj⟩ := List.mem_iff_getElem?.1 hm
  have hl : j < (numB n).size := by simpa using (List.getElem?_eq_some_iff.1 hj).1
  have e := byteAt_some (numB n) hl
  rw [hj] at e
  have := (h j hl).1
  rw [<- Option.some.inj e] at this
  simp at this
theorem num_inj {n m : Int} (h0 : 0 <= n) (h1 : n <= 999999) (k0 : 0 <= m) (k1 : m <= 999999) (h : numB n = numB m) : n = m := by
  obtain ⟨_, _, _, h2, _⟩ := num_abs (n := n) (by omega) h1 rfl
  obtain ⟨_, _, _, k2, _⟩ := num_abs (n := m) (by omega) k1 rfl
  rw [h, k2] at h2
  omega
theorem has_mem {s : ByteArray} {c : UInt8} (h : hasB s c = false) : c ∉ s.data.toList := fun hm => by
  obtain ⟨j, hj⟩ := List.mem_iff_getElem?.1 hm
  have hl : j < s.size := by simpa using (List.getElem?_eq_some_iff.1 hj).1
  have e := byteAt_some s hl
  rw [hj] at e
  rw [hasB_yes hl (Option.some.inj e).symm] at h
  cases h
theorem seal_data (s : ByteArray) : (sealB s).data.toList = s.data.toList ++ 35 :: (numB (sumB s s.size)).data.toList := by
  unfold sealB
  rw [ByteArray.data_append, ByteArray.data_append]
  simp
theorem byteAt_get (s : ByteArray) (k : Nat) : byteAt s (k : Int) = (s.data.toList[k]?).getD default := by
  unfold byteAt ix
  simp
theorem sum_ne {s t : ByteArray} {k : Nat} (he : ∀ j : Nat, j ≠ k -> byteAt s (j : Int) = byteAt t (j : Int)) (hk : byteAt s (k : Int) ≠ byteAt t (k : Int)) : ∀ m, (m <= k -> sumB s m = sumB t m) /\ (k < m -> sumB s m ≠ sumB t m)
  | 0 => ⟨fun _ => rfl, fun h => by omega⟩
  | m + 1 => by
    obtain ⟨h1, h2⟩ := sum_ne he hk m
    have a1 := (byteAt s (m : Int)).toNat_lt
    have a2 := (byteAt t (m : Int)).toNat_lt
    have b1 := sumB_bd s m
    have b2 := sumB_bd t m
    refine ⟨fun h => ?_, fun h => ?_⟩
    · show (41 * sumB s m + (byteAt s (m : Int)).toNat + 1) % 999979 = (41 * sumB t m + (byteAt t (m : Int)).toNat + 1) % 999979
      rw [h1 (by omega), he m (by omega)]
    · show (41 * sumB s m + (byteAt s (m : Int)).toNat + 1) % 999979 ≠ (41 * sumB t m + (byteAt t (m : Int)).toNat + 1) % 999979
      by_cases e : m = k
      · subst e
        rw [h1 (Nat.le_refl _)]
        have hne : (byteAt s (m : Int)).toNat ≠ (byteAt t (m : Int)).toNat := fun e => hk (UInt8.toNat_inj.1 e)
        omega
      · rw [he m e]
        have := h2 (by omega)
        omega
theorem front_seal {s : ByteArray} (h : hasB s 35 = false) : frontB (sealB s) 35 = s := by
  have hz := sealB_size s
  have hd := seal_data s
  have hs : s.data.toList.length = s.size := by simp
  have e1 : byteAt (sealB s) (s.size : Int) = 35 := by
    rw [byteAt_get, hd, List.getElem?_append_right (by omega), hs, Nat.sub_self]; rfl
  have e2 : ∀ j : Nat, j < s.size -> byteAt (sealB s) (j : Int) ≠ 35 := fun j hj e => by
    rw [byteAt_get, hd, List.getElem?_append_left (by omega)] at e
    have h2 := byteAt_some s hj
    rw [h2] at e
    have h3 := hasB_yes hj e
    rw [h3] at h; cases h
  rw [frontB_at hz.2 e1 e2, extract_upto, hd, <- hs, List.take_left]
theorem one_place {T M : List UInt8} (h1 : (35 : UInt8) ∉ T) (h2 : (35 : UInt8) ∉ M) {i : Nat} (h : (T ++ 35 :: M)[i]? = some 35) : i = T.length := by
  rcases Nat.lt_trichotomy i T.length with g | g | g
  · rw [List.getElem?_append_left g] at h
    exact (h1 (List.mem_of_getElem? h)).elim
  · exact g
  · rw [List.getElem?_append_right (by omega)] at h
    obtain ⟨q, hq⟩ : ∃ q, i - T.length = q + 1 := ⟨i - T.length - 1, by omega⟩
    rw [hq, List.getElem?_cons_succ] at h
    exact (h2 (List.mem_of_getElem? h)).elim
/-- A sealed text with one byte changed is not sealed. -/
theorem seal_set {x y : ByteArray} {k : Nat} {v : UInt8} (hx : hasB x 35 = false) (hk : k < (sealB x).size) (hv : v ≠ byteAt (sealB x) (k : Int)) (hy : y.data.toList = (sealB x).data.toList.set k v) : sealB (frontB y 35) ≠ y := fun hs => by
  have hft := frontB_has y 35
  generalize frontB y 35 = t at *
  have b1 := sumB_bd x x.size
  have b2 := sumB_bd t t.size
  have n1 := num_no35 (n := sumB x x.size) (by omega) (by omega)
  have n2 := num_no35 (n := sumB t t.size) (by omega) (by omega)
  have m1 := has_mem hx
  have m2 := has_mem hft
  have hxd := seal_data x
  have htd := seal_data t
  rw [hs, hy] at htd
  have hxs : x.data.toList.length = x.size := by simp
  have hts : t.data.toList.length = t.size := by simp
  have hkl : k < (sealB x).data.toList.length := by simpa using hk
  have hyk : (sealB x).data.toList[k]? = some (byteAt (sealB x) (k : Int)) := byteAt_some _ hk
  have get : ∀ i, ((sealB x).data.toList.set k v)[i]? = if i = k then some v else (sealB x).data.toList[i]? := fun i => by
    rw [List.getElem?_set]
    by_cases e : k = i
    · subst e; rw [if_pos rfl, if_pos rfl, if_pos hkl]
    · rw [if_neg e, if_neg (fun h => e h.symm)]
  have at1 : (sealB x).data.toList[x.size]? = some 35 := by rw [hxd, List.getElem?_append_right (by omega), hxs, Nat.sub_self]; rfl
  have at2 : ((sealB x).data.toList.set k v)[t.size]? = some 35 := by rw [htd, List.getElem?_append_right (by omega), hts, Nat.sub_self]; rfl
  by_cases ek : k = x.size
  · -- the mark itself
    rw [get] at at2
    by_cases e : t.size = k
    · rw [if_pos e] at at2
      rw [ek, at1] at hyk
      exact hv (by rw [ek, <- Option.some.inj hyk, Option.some.inj at2])
    · rw [if_neg e, hxd] at at2
      have := one_place m1 n1 at2
      omega
  · have at3 : ((sealB x).data.toList.set k v)[x.size]? = some 35 := by rw [get, if_neg (fun h => ek h.symm)]; exact at1
    rw [htd] at at3
    have ets : x.size = t.size := by have := one_place m2 n2 at3; omega
    have key : ∀ i, (t.data.toList ++ 35 :: (numB (sumB t t.size)).data.toList)[i]? = if i = k then some v else (x.data.toList ++ 35 :: (numB (sumB x x.size)).data.toList)[i]? := fun i => by rw [<- htd, get, hxd]
    have bt : ∀ j : Nat, j ≠ k -> byteAt t (j : Int) = byteAt x (j : Int) := fun j hj => by
      rw [byteAt_get, byteAt_get]
      by_cases hjx : j < x.size
      · have := key j
        rw [if_neg hj, List.getElem?_append_left (by omega), List.getElem?_append_left (by omega)] at this
        rw [this]
      · rw [List.getElem?_eq_none (by omega), List.getElem?_eq_none (by omega)]
    by_cases hkx : k < x.size
    · -- in the text
      have bk : byteAt t (k : Int) ≠ byteAt x (k : Int) := fun e => by
        have h1 := key k
        rw [if_pos rfl, List.getElem?_append_left (by omega)] at h1
        have h2 := byteAt_some t (k := k) (by omega)
        rw [h1] at h2
        have h3 : (sealB x).data.toList[k]? = some (byteAt x (k : Int)) := by rw [hxd, List.getElem?_append_left (by omega)]; exact byteAt_some x hkx
        rw [hyk] at h3
        exact hv (by rw [Option.some.inj h2, e, <- Option.some.inj h3])
      have hne := (sum_ne bt bk x.size).2 hkx
      have en : (numB (sumB t t.size)) = numB (sumB x x.size) := by
        apply ByteArray.ext
        apply Array.ext'
        apply List.ext_getElem?
        intro i
        have := key (x.size + 1 + i)
        rw [if_neg (by omega), List.getElem?_append_right (by omega), List.getElem?_append_right (by omega), hts, hxs, show x.size + 1 + i - t.size = i + 1 by omega, show x.size + 1 + i - x.size = i + 1 by omega, List.getElem?_cons_succ, List.getElem?_cons_succ] at this
        exact this
      have := num_inj b2.1 (by omega) b1.1 (by omega) en
      rw [<- ets] at this
      exact hne this
    · -- in the numeral
      have et : t = x := by
        apply ByteArray.ext
        apply Array.ext'
        apply List.ext_getElem?
        intro i
        by_cases hi : i < x.size
        · have := key i
          rw [if_neg (by omega), List.getElem?_append_left (by omega), List.getElem?_append_left (by omega)] at this
          exact this
        · rw [List.getElem?_eq_none (by omega), List.getElem?_eq_none (by omega)]
      have h1 := key k
      rw [if_pos rfl, et, <- hxd, hyk] at h1
      exact hv (Option.some.inj h1).symm
end Go.Proofs.YtjnongegddnobaaDoor
