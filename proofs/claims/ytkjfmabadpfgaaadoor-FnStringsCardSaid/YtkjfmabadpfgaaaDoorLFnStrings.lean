/- Numerals and checksums: what the law asks. -/
import Derived.Test.YtkjfmabadpfgaaaDoorSE
import Derived.Test.YtkjfmabadpfgaaaDoorX2
import Derived.Test.YtkjfmabadpfgaaaDoorX3
import Derived.Test.YtkjfmabadpfgaaaDoorX4
import Derived.Test.YtkjfmabadpfgaaaDoorPlX
namespace Go.Proofs.YtkjfmabadpfgaaaDoor
open Go.Vc
set_option maxRecDepth 100000
set_option maxHeartbeats 1600000
set_option linter.unusedSimpArgs false
set_option linter.unusedVariables false
theorem fmt_read (n : Int) : (bif decide (-999999 <= n /\ n <= 999999) then (okN (numB n) && decide (valN (numB n) = n)) else true) = true := by
  by_cases h : -999999 <= n /\ n <= 999999
  · obtain ⟨h1, h2⟩ := okN_of h.1 h.2 rfl
    rw [decide_eq_true h, h1, h2]; simp
  · rw [decide_eq_false h]; rfl
theorem xor_ne {a b : Nat} (ha : a < 256) (hb : b < 256) (h0 : b ≠ 0) : bitN .xor a b < 256 /\ (UInt8.ofNat (bitN .xor a b)).toNat ≠ a := by
  have h1 : bitN .xor a b = a ^^^ b := rfl
  have h2 : a ^^^ b < 256 := Nat.xor_lt_two_pow (n := 8) ha hb
  rw [h1]
  refine ⟨h2, fun h => h0 ?_⟩
  rw [UInt8.toNat_ofNat', Nat.mod_eq_of_lt (by omega)] at h
  have h3 : a ^^^ (a ^^^ b) = a ^^^ a := by rw [h]
  rwa [<- Nat.xor_assoc, Nat.xor_self, Nat.zero_xor] at h3
/-- A sealed text is open, and with a byte changed it is not. -/
theorem seal_end (x : ByteArray) (code : List UInt8) (hx : okC x = true) (hc : ¬ 65536 < code.length) (hT : sbT Tryd.prog 9 22) :
    (sealB x).size <= 1048576 /\ sbT Tryd.prog 9 22 /\ (code.length <= 1000000000 /\ (0 : Int) <= 9 /\ (9 : Int) <= 1000) /\
      (0 <= vatF code 9 /\ (0 : Int) < ((sealB x).data.toList.length : Int)) /\
      (0 <= vatF code 9 % ((sealB x).data.toList.length : Int) /\ vatF code 9 % ((sealB x).data.toList.length : Int) < ((sealB x).data.toList.length : Int)) /\
      (code.length <= 1000000000 /\ (0 : Int) <= 10 /\ (10 : Int) <= 1000) /\ (0 <= vatF code 10 /\ (0 : Int) < 255) /\
      (-9223372036854775808 <= 1 + vatF code 10 % 255 /\ 1 + vatF code 10 % 255 <= 9223372036854775807) /\
      (0 <= 1 + vatF code 10 % 255 /\ 1 + vatF code 10 % 255 <= 255) /\
      ((0 <= ((ix (sealB x).data.toList (vatF code 9 % ((sealB x).data.toList.length : Int))).toNat : Int) /\ 0 <= ((ix (sealB x).data.toList (vatF code 9 % ((sealB x).data.toList.length : Int))).toNat : Int) /\ ((ix (sealB x).data.toList (vatF code 9 % ((sealB x).data.toList.length : Int))).toNat : Int) <= 255) /\
        0 <= 1 + vatF code 10 % 255 /\ 0 <= 1 + vatF code 10 % 255 /\ 1 + vatF code 10 % 255 <= 255) /\
      (0 <= vatF code 9 % ((sealB x).data.toList.length : Int) /\ vatF code 9 % ((sealB x).data.toList.length : Int) < ((sealB x).data.toList.length : Int)) /\
      (0 <= ((bitN .xor (ix (sealB x).data.toList (vatF code 9 % ((sealB x).data.toList.length : Int))).toNat (1 + vatF code 10 % 255).toNat : Nat) : Int) /\ ((bitN .xor (ix (sealB x).data.toList (vatF code 9 % ((sealB x).data.toList.length : Int))).toNat (1 + vatF code 10 % 255).toNat : Nat) : Int) <= 255) /\
      ((sealB x).data.toList.set (vatF code 9 % ((sealB x).data.toList.length : Int)).toNat (UInt8.ofNat (bitN .xor (ix (sealB x).data.toList (vatF code 9 % ((sealB x).data.toList.length : Int))).toNat (1 + vatF code 10 % 255).toNat))).toArray.size <= 1048576 /\
      partB (okV (sealB x)) (partB ((bif okV (sealB x) then frontB (sealB x) 35 else (⟨#[]⟩ : ByteArray)).toList == x.toList)
        (AV.bool (!okV ⟨((sealB x).data.toList.set (vatF code 9 % ((sealB x).data.toList.length : Int)).toNat (UInt8.ofNat (bitN .xor (ix (sealB x).data.toList (vatF code 9 % ((sealB x).data.toList.length : Int))).toNat (1 + vatF code 10 % 255).toNat))).toArray⟩) = AV.bool true) (AV.bool false = AV.bool true)) (AV.bool false = AV.bool true) := by
  have hx' := hx
  simp only [okC, Bool.and_eq_true, decide_eq_true_eq, Bool.not_eq_true'] at hx'
  obtain ⟨hx1, hx2, hx3⟩ := hx'
  have hz := sealB_size x
  have hlen : (sealB x).data.toList.length = (sealB x).size := by simp
  have hv9 := vatF_bd code 9
  have hv10 := vatF_bd code 10
  have hV : okV (sealB x) = true := okV_t hx3 (by rw [front_seal hx2])
  have hm0 := Int.emod_nonneg (vatF code 9) (show ((sealB x).data.toList.length : Int) ≠ 0 by omega)
  have hm1 := Int.emod_lt_of_pos (vatF code 9) (show (0 : Int) < ((sealB x).data.toList.length : Int) by omega)
  obtain ⟨k, hk⟩ : ∃ k : Nat, vatF code 9 % ((sealB x).data.toList.length : Int) = k := ⟨(vatF code 9 % ((sealB x).data.toList.length : Int)).toNat, by omega⟩
  rw [hk] at hm0 hm1 ⊢
  have hkl : k < (sealB x).size := by omega
  have eb : ix (sealB x).data.toList (k : Int) = byteAt (sealB x) (k : Int) := rfl
  rw [eb]
  have ha := (byteAt (sealB x) (k : Int)).toNat_lt
  obtain ⟨g1, g2⟩ := xor_ne (a := (byteAt (sealB x) (k : Int)).toNat) (b := (1 + vatF code 10 % 255).toNat) (by omega) (by omega) (by omega)
  have hne : UInt8.ofNat (bitN .xor (byteAt (sealB x) (k : Int)).toNat (1 + vatF code 10 % 255).toNat) ≠ byteAt (sealB x) (k : Int) := fun e => g2 (by rw [e])
  have hbad := seal_set (y := ⟨((sealB x).data.toList.set k (UInt8.ofNat (bitN .xor (byteAt (sealB x) (k : Int)).toNat (1 + vatF code 10 % 255).toNat))).toArray⟩) hx2 hkl hne (by simp)
  refine ⟨by omega, hT, ⟨by omega, by omega, by omega⟩, by omega, by omega, ⟨by omega, by omega, by omega⟩, by omega, by omega, by omega, by omega, by omega, by omega, ?_, ?_⟩
  · rw [Int.toNat_natCast, List.size_toArray, List.length_set]; omega
  · rw [hV, cond_true, front_seal hx2, beq_self_eq_true, partB_true, partB_true, Int.toNat_natCast, okV_f2 hbad]
    rfl
def g_lawFnStrings : List AV -> Prop × AV
  | [.bytes code] => (code.length <= 9223372036854775807, .bool true)
  | _ => (False, .undef)
theorem g_lawFnStrings_eq (code : List UInt8) : g_lawFnStrings [.bytes code] = (code.length <= 9223372036854775807, .bool true) := (rfl)
theorem lawFnStrings_ok (code : List UInt8) (hp : code.length <= 9223372036854775807) : SpecOK Tryd.prog 4 [.bytes code] (.bool true) [] := by
  refine fun_ok (C := t_vBig ++ t_vAt ++ t_dFmtD ++ t_fmtI ++ t_fmtS ++ t_dPrsD ++ t_parseI ++ t_parseS ++ t_dAppD ++ t_appI ++ t_appS ++ t_verI) (hint := hintX [117] [(12, [.cut [0, 3, 4, 5, 6, 7, 9, 10, 11, 12, 13, 14, 15, 16, 17]]), (14, [.cut [0, 3, 4, 5, 13, 14, 15]]), (19, [.cut [0, 13, 14]]), (23, [.fz [22]])] 0 [14, 1000014, 17, 1000017, 20, 1000020] [] [] []) ((((((((((((t_vBig_ok).append t_vAt_ok).append t_dFmtD_ok).append t_fmtI_ok).append t_fmtS_ok).append t_dPrsD_ok).append t_parseI_ok).append t_parseS_ok).append t_dAppD_ok).append t_appI_ok).append t_appS_ok).append t_verI_ok) mixed Tryd.func4 rfl (by kernel_rfl) rfl ?_
  show codeA _ _ _ _ _ _ _ _
  simp only [go_sem, Tryd.results4]
  refine ⟨hp, fork_intro (fun _ => trivial) (fun hc => ⟨by omega, fun z hz => ?_⟩)⟩
  refine ⟨by omega, fun z1 h1 => ⟨by omega, by omega, by omega, fun z2 h2 => ⟨by omega, by omega, ?_⟩⟩⟩
  refine stop_intro ?_
  simp only [go_sem, ↓partB_true, ↓partB_false, decide_true, Bool.not_true, Bool.not_false, beq_self_eq_true, eq_self]
  have hs1 : (bif decide (-999999 <= z.n /\ z.n <= 999999) then numB z.n else (⟨#[]⟩ : ByteArray)).size <= 1048576 := by
    cases decide (-999999 <= z.n /\ z.n <= 999999)
    · exact Nat.zero_le _
    · have := numB_size z.n (by omega) (by omega)
      rw [cond_true]; omega
  by_cases hr : -999999 <= z.n /\ z.n <= 999999
  · obtain ⟨e1, e2⟩ := okN_of hr.1 hr.2 (rfl : numB z.n = numB z.n)
    rw [decide_eq_true hr, cond_true] at hs1 ⊢
    refine stop_intro ?_
    simp only [go_sem, e1, e2, cond_true, ↓partB_true, ↓partB_false, decide_true, Bool.not_true, Bool.not_false, beq_self_eq_true, eq_self]
    refine ⟨(by first | exact hs1 | exact Nat.zero_le _), partB_intro (fun hx => ?_) (fun hx => ?_)⟩
    · rw [hx, cond_true]
      refine stop_intro ?_
      simp only [go_sem, ↓partB_true, ↓partB_false, decide_true, Bool.not_true, Bool.not_false, beq_self_eq_true, eq_self]
      exact seal_end z2.b code hx hc (by first | exact ⟨_, _, Tryd.underlying9, Tryd.underlying22, Tryd.underlying5⟩)

    · rw [hx, cond_false, beq_self_eq_true]
  · rw [decide_eq_false hr, cond_false] at hs1 ⊢
    refine stop_intro ?_
    simp only [go_sem, ↓partB_true, ↓partB_false, decide_true, Bool.not_true, Bool.not_false, beq_self_eq_true, eq_self]
    refine ⟨(by first | exact hs1 | exact Nat.zero_le _), partB_intro (fun hx => ?_) (fun hx => ?_)⟩
    · rw [hx, cond_true]
      refine stop_intro ?_
      simp only [go_sem, ↓partB_true, ↓partB_false, decide_true, Bool.not_true, Bool.not_false, beq_self_eq_true, eq_self]
      exact seal_end z2.b code hx hc (by first | exact ⟨_, _, Tryd.underlying9, Tryd.underlying22, Tryd.underlying5⟩)
    · rw [hx, cond_false, beq_self_eq_true]
def t_lawFnStrings : Table := [(4, pureC g_lawFnStrings)]
theorem t_lawFnStrings_ok : TabOK Tryd.prog t_lawFnStrings := .cons Tryd.func4 (by kernel_rfl) (.pure (by intro args hp; unfold g_lawFnStrings at hp ⊢; split at hp <;> first | exact hp.elim | exact lawFnStrings_ok _ hp)) (.nil _)
attribute [go_sem] g_lawFnStrings_eq t_lawFnStrings
end Go.Proofs.YtkjfmabadpfgaaaDoor
