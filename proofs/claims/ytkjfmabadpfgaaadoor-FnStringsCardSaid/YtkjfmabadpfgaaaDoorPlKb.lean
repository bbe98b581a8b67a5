/- What is read of a list of bytes is seen. -/
import Derived.Test.YtkjfmabadpfgaaaDoorVc
import Derived.ChangeSlices
namespace Go.Vc
open Go.RowKit Go.ChangeShapes Go.WideShapes Go.Deep Go.Joins
set_option linter.unusedSimpArgs false
set_option linter.unusedVariables false
section
variable {H : Type} {enc : TypeId × Value -> H} {P : Program} {w : World} {base : Nat} {held : Bool}
def toByte (n : Int) : UInt8 := UInt8.ofNat n.toNat
theorem wf_byte {n : Int} (h : (Lit.int .u8 n).wf = true) : ((toByte n).toNat : Int) = n := by
  have h1 : 0 <= n /\ n <= 255 := by
    have h2 : IntKind.u8.min <= n /\ n <= IntKind.u8.max := by simpa [Lit.wf] using h
    exact h2
  unfold toByte
  rw [UInt8.toNat_ofNat']
  have : n.toNat % 2 ^ 8 = n.toNat := Nat.mod_eq_of_lt (by omega)
  omega
theorem bytes_seen {a : Option Addr} {len cap : Nat} (zs : List Int) (hl : len <= cap) (hz : len <= zs.length) (hw : ∀ n ∈ zs, (Lit.int .u8 n).wf = true) (hc : ∀ x, a = some x -> ∀ c, c < len -> w.cell? (x.add c) = some (.int .u8 (zs.getD c 0))) (hn : a = none -> len = 0) : Sees (allS w) (.bytes ((zs.take len).map toByte)) (.slice a len cap) := by
  have e0 : len = (((zs.take len).map toByte).map AV.byte).length := by simp; omega
  by_cases h0 : len = 0
  · subst h0
    have := Sees.lst (S := allS w) (.bytes []) [] 1 a cap rfl (Nat.zero_le _) 0 0 #[] (fun _ _ => Go.undef) (fun h => (h rfl).elim) (fun x hx => by cases hx) (fun i x j y hx => by simp at hx) (fun i x j y hx => by simp at hx)
    simpa using this
  · cases a with
    | none => exact (h0 (hn rfl)).elim
    | some x =>
      obtain ⟨b, o, c, rfl, hS, _⟩ := cell_here (hc x rfl 0 (by omega))
      have hcell : ∀ i, i < len -> c[o + i]? = some (.int .u8 (zs.getD i 0)) := fun i hi => by
        obtain ⟨c', hS', hc'⟩ := cell_at (hc _ rfl i hi)
        rw [hS] at hS'; cases hS'
        exact hc'
      have key : ∀ i x, (((zs.take len).map toByte).map AV.byte)[i]? = some x -> i < len /\ x = .byte (toByte (zs.getD i 0)) /\ ((toByte (zs.getD i 0)).toNat : Int) = zs.getD i 0 := fun i x hx => by
        have hi := (List.getElem?_eq_some_iff.1 hx).1
        simp at hi
        have hiz : i < zs.length := by omega
        have h2 : zs[i]? = some zs[i] := by simp
        have h3 : zs.getD i 0 = zs[i] := by rw [List.getD_eq_getElem?_getD, h2]; rfl
        refine ⟨by omega, ?_, ?_⟩
        · rw [List.getElem?_map, List.getElem?_map, List.getElem?_take, if_pos (by omega), h2] at hx
          simp at hx
          rw [<- hx, h3]
        · rw [h3]; exact wf_byte (hw _ (List.getElem_mem hiz))
      have := Sees.lst (S := allS w) (.bytes ((zs.take len).map toByte)) (((zs.take len).map toByte).map .byte) 1 (some ⟨b, o, none⟩) cap rfl (by simp; omega) b o c (fun i _ => .int .u8 (zs.getD i 0)) (fun _ => ⟨rfl, hS⟩) (fun x hx => by obtain ⟨n, _, rfl⟩ := List.mem_map.1 hx; rfl)
        (fun i x j y hx hy => by
          obtain ⟨hi, rfl, _⟩ := key i x hx
          cases j with
          | zero => rw [Nat.mul_one, Nat.add_zero]; exact hcell i hi
          | succ j => simp [AV.cells] at hy)
        (fun i x j y hx hy => by
          obtain ⟨hi, rfl, e⟩ := key i x hx
          cases j with
          | zero => simp [AV.cells] at hy; subst hy; rw [<- e]; exact .int _ _
          | succ j => simp [AV.cells] at hy)
      rw [<- e0] at this
      exact this
theorem sees_Bytes {t e : TypeId} {v : Value} {d : DataW H} {p : List MemPlace} (ht : P.underlying t = some (.slice e)) (he : P.underlying e = some (.int .u8)) (hc : P.cellsOf e = 1) (hv : ∃ a n c, v = .slice a n c)
    (h : DataW.Trod enc P w base (fun _ => true) held t v d p) : ∃ xs : List UInt8, xs.length <= 9223372036854775807 /\ Sees (allS w) (.bytes xs) v := by
  obtain ⟨a, n, c, rfl⟩ := hv
  obtain ⟨fuel, hf⟩ := h
  have hmx : maxLen = 9223372036854775807 := by decide
  rcases open_ints ht he hc (show DataW.trod enc P w base (fun _ => true) held fuel t [.slice a n c] = some (d, p) by simpa [Value.cells] using hf) with ⟨hcs, _⟩ | ⟨a', len, cap, zs, hcs, _, hl, hm, hz, _, hcell, hwz⟩
  · simp at hcs; obtain ⟨rfl, rfl, rfl⟩ := hcs
    exact ⟨[], by simp, sees_nil rfl _⟩
  · simp at hcs; obtain ⟨rfl, rfl, rfl⟩ := hcs
    simp only [if_true] at hz
    refine ⟨(zs.take n).map toByte, by simp; omega, bytes_seen zs hl (by omega) hwz (fun x hx c hc' => ?_) (fun h => by cases h)⟩
    cases hx
    exact hcell c (by omega)
end
end Go.Vc
