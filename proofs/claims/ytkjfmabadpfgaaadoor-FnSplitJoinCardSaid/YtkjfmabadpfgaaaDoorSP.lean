/- Marks of texts. -/
import Derived.Test.YtkjfmabadpfgaaaDoorPlJ
import Derived.Test.YtkjfmabadpfgaaaDoorTy
namespace Go.Proofs.YtkjfmabadpfgaaaDoor
open Go.Vc
set_option maxRecDepth 100000
set_option maxHeartbeats 1600000
set_option linter.unusedSimpArgs false
set_option linter.unusedVariables false
def mkB (n : Int) : ByteArray := ⟨#[UInt8.ofNat n.toNat]⟩
def markD : Nat -> Nat -> ByteArray -> ByteArray
  | 0, _, out => out
  | f + 1, k, out => if k = 0 then out else markD f (k / 10) (mkB (48 + (k : Int) % 10) ++ out)
def markT (k : Int) : ByteArray := if k <= 0 then ⟨#[109, 48]⟩ else ⟨#[109]⟩ ++ markD k.toNat k.toNat ⟨#[]⟩
theorem markD_zero (f : Nat) (out : ByteArray) : markD f 0 out = out := by cases f <;> simp [markD]
theorem markD_fuel : ∀ (f g k : Nat) (out : ByteArray), k <= f -> k <= g -> markD f k out = markD g k out
  | 0, g, k, out, h, _ => by
    have : k = 0 := by omega
    subst this
    rw [markD_zero, markD_zero]
  | f + 1, 0, k, out, _, h => by
    have : k = 0 := by omega
    subst this
    rw [markD_zero, markD_zero]
  | f + 1, g + 1, k, out, h1, h2 => by
    unfold markD
    by_cases h : k = 0
    · rw [if_pos h, if_pos h]
    · rw [if_neg h, if_neg h]
      exact markD_fuel f g (k / 10) _ (by omega) (by omega)
theorem markD_step {m : Nat} {out : ByteArray} (h : 0 < m) : markD (m / 10) (m / 10) (mkB (48 + (m : Int) % 10) ++ out) = markD m m out := by
  obtain ⟨q, rfl⟩ : ∃ q, m = q + 1 := ⟨m - 1, by omega⟩
  show _ = (if q + 1 = 0 then out else markD q ((q + 1) / 10) (mkB (48 + ((q + 1 : Nat) : Int) % 10) ++ out))
  rw [if_neg (by omega)]
  exact markD_fuel _ _ _ _ (Nat.le_refl _) (by omega)
theorem bytes_eq {x y : ByteArray} : (x.toList == y.toList) = true ↔ x = y := by
  rw [beqL, decide_eq_true_eq]
def heldT (xs : List ByteArray) (k : Int) : Int := if (List.range xs.length).all (fun i : Nat => decide (ix xs (i : Int) = markT (k + i))) = true then k + xs.length else -1
end Go.Proofs.YtkjfmabadpfgaaaDoor
