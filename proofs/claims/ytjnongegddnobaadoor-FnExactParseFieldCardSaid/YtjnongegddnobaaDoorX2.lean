/- Numerals, sums, parts and seals of texts: both packages say the same. -/
import Derived.Test.YtjnongegddnobaaDoorA3
import Derived.Test.YtjnongegddnobaaDoorX1
import Derived.Test.YtjnongegddnobaaDoorX2S
import Derived.Test.YtjnongegddnobaaDoorPlX
namespace Go.Proofs.YtjnongegddnobaaDoor
open Go.Vc
set_option maxRecDepth 100000
set_option linter.unusedSimpArgs false
set_option linter.unusedVariables false

def g_sumS : List AV -> Prop × AV
  | [.str s] => (s.size <= 1048576, .int .i64 (sumB s s.size))
  | _ => (False, .undef)
theorem g_sumS_eq (s : ByteArray) : g_sumS [.str s] = (s.size <= 1048576, .int .i64 (sumB s s.size)) := (rfl)
theorem sumS_ok (s : ByteArray) (hp : s.size <= 1048576) : SpecOK Tryd.prog 65 [.str s] (.int .i64 (sumB s s.size)) [] := by
  refine fun_ok (C := []) (hint := hintX [] [] 0 [] [] [] []) (TabOK.nil _) mixed Tryd.func65 rfl (by kernel_rfl) rfl ?_
  show codeA _ _ _ _ _ _ _ _
  simp only [go_sem, Tryd.results65]
  refine loop_intro (fun k : Nat => [(3, .int .i64 (sumB s k)), (4, .int .i64 k), (0, .str s)]) (fun _ => []) 0 (fun k => k <= s.size) (fun k => s.size - k) 0 (Nat.zero_le _) (Nat.zero_le _) ?_ ?_
  · simp only [go_sem]
    repeat' (first | refine fork_intro (fun hb => ?_) (fun hb => ?_) | refine partB_intro (fun hb => ?_) (fun hb => ?_) | refine And.intro ?_ ?_)
    all_goals first | exact True.intro | omega | with_reducible rfl | exact congrArg (AV.int _) (by omega) | (first | rfl)
  · intro k hk
    have hs := sumB_bd s k
    have hbt := (byteAt s k).toNat_lt
    simp only [go_sem]
    repeat' (first | refine fork_intro (fun hb => ?_) (fun hb => ?_) | refine partB_intro (fun hb => ?_) (fun hb => ?_) | refine And.intro ?_ ?_)
    all_goals try omega
    · refine LoopEnd.intro (k + 1) ?_ ?_ (Nat.zero_le _) ?_ <;> (try omega)
      simp only [go_sem]
      repeat' (first | refine fork_intro (fun hb => ?_) (fun hb => ?_) | refine partB_intro (fun hb => ?_) (fun hb => ?_) | refine And.intro ?_ ?_)
      all_goals first | rfl | omega
    · rw [show k = s.size by omega]
def t_sumS : Table := [(65, pureC g_sumS)]
theorem t_sumS_ok : TabOK Tryd.prog t_sumS := .cons Tryd.func65 (by kernel_rfl) (.pure (by intro args hp; unfold g_sumS at hp ⊢; split at hp <;> first | exact hp.elim | exact sumS_ok _ hp)) (.nil _)
attribute [go_sem] g_sumS_eq t_sumS
def g_sumI : List AV -> Prop × AV
  | [.str s] => (s.size <= 1048576, .int .i64 (sumB s s.size))
  | _ => (False, .undef)
theorem g_sumI_eq (s : ByteArray) : g_sumI [.str s] = (s.size <= 1048576, .int .i64 (sumB s s.size)) := (rfl)
theorem sumI_ok (s : ByteArray) (hp : s.size <= 1048576) : SpecOK Tryd.prog 40 [.str s] (.int .i64 (sumB s s.size)) [] := by
  refine fun_ok (C := []) (hint := hintX [] [] 0 [] [] [] []) (TabOK.nil _) mixed Tryd.func40 rfl (by kernel_rfl) rfl ?_
  show codeA _ _ _ _ _ _ _ _
  simp only [go_sem, Tryd.results40]
  refine loop_intro (fun k : Nat => [(3, .int .i64 (sumB s k)), (7, .int .i64 k), (6, .int .i64 s.size), (0, .str s)]) (fun _ => []) 0 (fun k => k <= s.size) (fun k => s.size - k) 0 (Nat.zero_le _) (Nat.zero_le _) ?_ ?_
  · simp only [go_sem]
    repeat' (first | refine fork_intro (fun hb => ?_) (fun hb => ?_) | refine partB_intro (fun hb => ?_) (fun hb => ?_) | refine And.intro ?_ ?_)
    all_goals first | exact True.intro | omega | with_reducible rfl | exact congrArg (AV.int _) (by omega) | (first | rfl)
  · intro k hk
    have hs := sumB_bd s k
    have hbt := (byteAt s k).toNat_lt
    simp only [go_sem]
    repeat' (first | refine fork_intro (fun hb => ?_) (fun hb => ?_) | refine partB_intro (fun hb => ?_) (fun hb => ?_) | refine And.intro ?_ ?_)
    all_goals try omega
    · refine LoopEnd.intro (k + 1) ?_ ?_ (Nat.zero_le _) ?_ <;> (try omega)
      simp only [go_sem]
      repeat' (first | refine fork_intro (fun hb => ?_) (fun hb => ?_) | refine partB_intro (fun hb => ?_) (fun hb => ?_) | refine And.intro ?_ ?_)
      all_goals first | rfl | omega
    · rw [show k = s.size by omega]
def t_sumI : Table := [(40, pureC g_sumI)]
theorem t_sumI_ok : TabOK Tryd.prog t_sumI := .cons Tryd.func40 (by kernel_rfl) (.pure (by intro args hp; unfold g_sumI at hp ⊢; split at hp <;> first | exact hp.elim | exact sumI_ok _ hp)) (.nil _)
attribute [go_sem] g_sumI_eq t_sumI

def g_numK (k : Nat) : List AV -> Prop × AV
  | [.int .i64 n] => (numIn k n, .str (numB n))
  | _ => (False, .undef)
theorem g_numK_eq (k : Nat) (n : Int) : g_numK k [.int .i64 n] = (numIn k n, .str (numB n)) := (rfl)
def t_numK (k : Nat) : Table := [(33, pureC (g_numK k))]
theorem numK_low (n : Int) (h0 : 0 <= n) (h9 : n < 10) : SpecOK Tryd.prog 33 [.int .i64 n] (.str (numB n)) [] := by
  refine fun_ok (C := []) (hint := hintX [] [] 0 [] [] [] []) (TabOK.nil _) mixed Tryd.func33 rfl (by kernel_rfl) rfl ?_
  show codeA _ _ _ _ _ _ _ _
  simp only [go_sem, Tryd.results33]
  refine fork_intro (fun hb => absurd hb (by omega)) (fun _ => ?_)
  refine fork_intro (fun _ => ?_) (fun hb => absurd h9 hb)
  have hd := numB_low h0 h9
  unfold digB at hd
  have hz : (#[48, 49, 50, 51, 52, 53, 54, 55, 56, 57] : Array UInt8).size = 10 := rfl
  rw [hz]
  repeat' (first | with_reducible refine And.intro ?_ ?_)
  all_goals first | with_reducible exact True.intro | omega | exact congrArg AV.str hd
theorem numK_ok : ∀ (k : Nat) (n : Int), numIn k n -> SpecOK Tryd.prog 33 [.int .i64 n] (.str (numB n)) []
  | 0, n, hp => numK_low n (by have := numIn_zero hp; omega) (by have := numIn_zero hp; omega)
  | k + 1, n, hp => by
    have hbd := numIn_bd hp
    have hT : TabOK Tryd.prog (t_numK k) := .cons Tryd.func33 (by kernel_rfl) (.pure (by intro args hp; unfold g_numK at hp ⊢; split at hp <;> first | exact hp.elim | exact numK_ok k _ hp)) (.nil _)
    by_cases hlow : 0 <= n /\ n < 10
    · exact numK_low n hlow.1 hlow.2
    refine fun_ok (C := t_numK k) (hint := hintX [] [] 0 [] [] [] []) hT mixed Tryd.func33 rfl (by kernel_rfl) rfl ?_
    show codeA _ _ _ _ _ _ _ _
    simp only [go_sem, Tryd.results33, t_numK, g_numK_eq]
    refine fork_intro (fun hb => ?_) (fun hb => ?_)
    · have h1 := numIn_neg hp hb
      have h2 := numB_neg hb
      have h3 := numB_size (-n) (by omega) (by omega)
      have hz : (#[45] : Array UInt8).size = 1 := rfl
      simp only [Int.zero_sub, hz]
      repeat' (first | with_reducible refine And.intro ?_ ?_)
      all_goals first | with_reducible exact True.intro | with_reducible exact h1 | omega | exact congrArg AV.str h2
    · refine fork_intro (fun hc => absurd ⟨by omega, hc⟩ hlow) (fun hc => ?_)
      have h1 := numIn_div hp (by omega)
      have h2 := numB_high (n := n) (by omega)
      unfold digB at h2
      have h3 := numB_size (n / 10) (by omega) (by omega)
      have h4 := digB_size (n % 10).toNat (n % 10 + 1).toNat
      unfold digB at h4
      have hz : (#[48, 49, 50, 51, 52, 53, 54, 55, 56, 57] : Array UInt8).size = 10 := rfl
      simp only [hz]
      repeat' (first | with_reducible refine And.intro ?_ ?_)
      all_goals first | with_reducible exact True.intro | with_reducible exact h1 | omega | exact congrArg AV.str h2

def g_numS : List AV -> Prop × AV
  | [.int .i64 n] => (-10000000 < n /\ n < 10000000, .str (numB n))
  | _ => (False, .undef)
theorem g_numS_eq (n : Int) : g_numS [.int .i64 n] = (-10000000 < n /\ n < 10000000, .str (numB n)) := (rfl)
theorem numS_ok (n : Int) (hp : -10000000 < n /\ n < 10000000) : SpecOK Tryd.prog 33 [.int .i64 n] (.str (numB n)) [] := by
  exact numK_ok 8 n (numIn_of hp.1 hp.2)
def t_numS : Table := [(33, pureC g_numS)]
theorem t_numS_ok : TabOK Tryd.prog t_numS := .cons Tryd.func33 (by kernel_rfl) (.pure (by intro args hp; unfold g_numS at hp ⊢; split at hp <;> first | exact hp.elim | exact numS_ok _ hp)) (.nil _)
attribute [go_sem] g_numS_eq t_numS
def g_hasS : List AV -> Prop × AV
  | [.str s, .int .u8 b] => (s.size <= 1048576 /\ 0 <= b /\ b < 256, .bool (hasB s (UInt8.ofNat b.toNat)))
  | _ => (False, .undef)
theorem g_hasS_eq (s : ByteArray) (b : Int) : g_hasS [.str s, .int .u8 b] = (s.size <= 1048576 /\ 0 <= b /\ b < 256, .bool (hasB s (UInt8.ofNat b.toNat))) := (rfl)
theorem hasS_ok (s : ByteArray) (b : Int) (hp : s.size <= 1048576 /\ 0 <= b /\ b < 256) : SpecOK Tryd.prog 37 [.str s, .int .u8 b] (.bool (hasB s (UInt8.ofNat b.toNat))) [] := by
  refine fun_ok (C := []) (hint := hintX [] [] 0 [] [] [] []) (TabOK.nil _) mixed Tryd.func37 rfl (by kernel_rfl) rfl ?_
  show codeA _ _ _ _ _ _ _ _
  simp only [go_sem, Tryd.results37]
  obtain ⟨m, rfl⟩ : ∃ m : Nat, b = m := ⟨b.toNat, by omega⟩
  have hm : (UInt8.ofNat m).toNat = m := by simp; omega
  refine loop_intro (fun k : Nat => [(5, .int .i64 k), (0, .str s), (1, .int .u8 m)]) (fun _ => []) 0 (fun k => k <= s.size /\ ∀ j : Nat, j < k -> byteAt s (j : Int) ≠ UInt8.ofNat m) (fun k => s.size - k) 0 ⟨Nat.zero_le _, fun j hj => absurd hj (Nat.not_lt_zero _)⟩ (Nat.zero_le _) ?_ ?_
  · simp only [go_sem]
    repeat' (first | refine fork_intro (fun hb => ?_) (fun hb => ?_) | refine partB_intro (fun hb => ?_) (fun hb => ?_) | refine And.intro ?_ ?_)
    all_goals first | exact True.intro | omega | with_reducible rfl | exact congrArg (AV.int _) (by omega) | (first | rfl)
  · rintro k ⟨hk, hno⟩
    simp only [go_sem]
    refine fork_intro (fun hc => ?_) (fun hc => ?_)
    · refine ⟨⟨by omega, by omega⟩, ?_⟩
      refine fork_intro (fun hd => ?_) (fun hd => ?_)
      · have e : byteAt s (k : Int) = UInt8.ofNat m := UInt8.toNat_inj.1 (by rw [hm]; omega)
        rw [hasB_yes (by omega) e]
      · have e : byteAt s (k : Int) ≠ UInt8.ofNat m := fun h => hd (by rw [h, hm])
        have hno' : ∀ j : Nat, j < k + 1 -> byteAt s (j : Int) ≠ UInt8.ofNat m := fun j hj => by
          by_cases ej : j = k
          · rw [ej]; exact e
          · exact hno j (by omega)
        repeat' (first | refine fork_intro (fun hb => ?_) (fun hb => ?_) | refine partB_intro (fun hb => ?_) (fun hb => ?_) | refine And.intro ?_ ?_)
        all_goals first | exact True.intro | omega | with_reducible rfl | exact congrArg (AV.int _) (by omega) | (refine LoopEnd.intro (k + 1) (by first | omega | (first | exact ⟨by omega, hno'⟩)) (by first | omega | (dsimp only; omega)) (by omega) ?_; simp only [go_sem]; (repeat' (first | refine fork_intro (fun hb => ?_) (fun hb => ?_) | refine partB_intro (fun hb => ?_) (fun hb => ?_) | refine And.intro ?_ ?_)); all_goals first | exact True.intro | omega | with_reducible rfl | exact congrArg (AV.int _) (by omega) | (first | rfl)) | (first | rfl)
    · rw [hasB_no (fun j hj => hno j (by omega))]
def t_hasS : Table := [(37, pureC g_hasS)]
theorem t_hasS_ok : TabOK Tryd.prog t_hasS := .cons Tryd.func37 (by kernel_rfl) (.pure (by intro args hp; unfold g_hasS at hp ⊢; split at hp <;> first | exact hp.elim | exact hasS_ok _ _ hp)) (.nil _)
attribute [go_sem] g_hasS_eq t_hasS
def g_sealS : List AV -> Prop × AV
  | [.str s] => (s.size <= 1048576, .str (sealB s))
  | _ => (False, .undef)
theorem g_sealS_eq (s : ByteArray) : g_sealS [.str s] = (s.size <= 1048576, .str (sealB s)) := (rfl)
theorem sealS_ok (s : ByteArray) (hp : s.size <= 1048576) : SpecOK Tryd.prog 38 [.str s] (.str (sealB s)) [] := by
  refine fun_ok (C := t_sumS ++ t_numS) (hint := hintX [] [] 0 [] [] [] []) ((t_sumS_ok).append t_numS_ok) mixed Tryd.func38 rfl (by kernel_rfl) rfl ?_
  show codeA _ _ _ _ _ _ _ _
  simp only [go_sem, Tryd.results38]
  have hb := sumB_bd s s.size
  have h3 := numB_size (sumB s s.size) (by omega) (by omega)
  have hz : (s ++ (⟨#[35]⟩ : ByteArray)).size = s.size + 1 := by rw [ByteArray.size_append]; rfl
  have hz2 : (#[35] : Array UInt8).size = 1 := rfl
  simp only [hz, hz2]
  repeat' (first | refine fork_intro (fun hb => ?_) (fun hb => ?_) | refine partB_intro (fun hb => ?_) (fun hb => ?_) | refine And.intro ?_ ?_)
  all_goals first | exact True.intro | omega | with_reducible rfl | exact congrArg (AV.int _) (by omega) | (first | rfl)
def t_sealS : Table := [(38, pureC g_sealS)]
theorem t_sealS_ok : TabOK Tryd.prog t_sealS := .cons Tryd.func38 (by kernel_rfl) (.pure (by intro args hp; unfold g_sealS at hp ⊢; split at hp <;> first | exact hp.elim | exact sealS_ok _ hp)) (.nil _)
attribute [go_sem] g_sealS_eq t_sealS
def g_fmtS : List AV -> Prop × AV
  | [.int .i64 n] => (True, .tup [.str (bif decide (-999999 <= n /\ n <= 999999) then numB n else ⟨#[]⟩), .bool (decide (-999999 <= n /\ n <= 999999))])
  | _ => (False, .undef)
theorem g_fmtS_eq (n : Int) : g_fmtS [.int .i64 n] = (True, .tup [.str (bif decide (-999999 <= n /\ n <= 999999) then numB n else ⟨#[]⟩), .bool (decide (-999999 <= n /\ n <= 999999))]) := (rfl)
theorem fmtS_ok (n : Int) (hp : True) : SpecOK Tryd.prog 10 [.int .i64 n] (.tup [.str (bif decide (-999999 <= n /\ n <= 999999) then numB n else ⟨#[]⟩), .bool (decide (-999999 <= n /\ n <= 999999))]) [] := by
  refine fun_ok (C := t_l1In ++ t_numS) (hint := hintX [] [] 0 [] [] [] []) ((t_l1In_ok).append t_numS_ok) mixed Tryd.func10 rfl (by kernel_rfl) rfl ?_
  show codeA _ _ _ _ _ _ _ _
  simp only [go_sem, Tryd.results10]
  by_cases h : -999999 <= n /\ n <= 999999
  · simp only [h, decide_true, cond_true, and_self]
    repeat' (first | refine fork_intro (fun hb => ?_) (fun hb => ?_) | refine partB_intro (fun hb => ?_) (fun hb => ?_) | refine And.intro ?_ ?_)
    all_goals first | exact True.intro | omega | with_reducible rfl | exact congrArg (AV.int _) (by omega) | (first | rfl | exact (hb trivial).elim | exact hb.elim)
  · simp only [h, decide_false, cond_false]
    repeat' (first | refine fork_intro (fun hb => ?_) (fun hb => ?_) | refine partB_intro (fun hb => ?_) (fun hb => ?_) | refine And.intro ?_ ?_)
    all_goals first | exact True.intro | omega | with_reducible rfl | exact congrArg (AV.int _) (by omega) | (first | rfl | exact (hb trivial).elim | exact hb.elim)
def t_fmtS : Table := [(10, pureC g_fmtS)]
theorem t_fmtS_ok : TabOK Tryd.prog t_fmtS := .cons Tryd.func10 (by kernel_rfl) (.pure (by intro args hp; unfold g_fmtS at hp ⊢; split at hp <;> first | exact hp.elim | exact fmtS_ok _ hp)) (.nil _)
attribute [go_sem] g_fmtS_eq t_fmtS
def g_fmtI : List AV -> Prop × AV
  | [.int .i64 n] => (True, .tup [.str (bif decide (-999999 <= n /\ n <= 999999) then numB n else ⟨#[]⟩), .bool (decide (-999999 <= n /\ n <= 999999))])
  | _ => (False, .undef)
theorem g_fmtI_eq (n : Int) : g_fmtI [.int .i64 n] = (True, .tup [.str (bif decide (-999999 <= n /\ n <= 999999) then numB n else ⟨#[]⟩), .bool (decide (-999999 <= n /\ n <= 999999))]) := (rfl)
theorem fmtI_ok (n : Int) (hp : True) : SpecOK Tryd.prog 11 [.int .i64 n] (.tup [.str (bif decide (-999999 <= n /\ n <= 999999) then numB n else ⟨#[]⟩), .bool (decide (-999999 <= n /\ n <= 999999))]) [] := by
  refine fun_ok (C := t_itoa) (hint := hintX [] [] 0 [] [] [] []) (t_itoa_ok) mixed Tryd.func11 rfl (by kernel_rfl) rfl ?_
  show codeA _ _ _ _ _ _ _ _
  simp only [go_sem, Tryd.results11]
  by_cases h : -999999 <= n /\ n <= 999999
  · simp only [h, decide_true, cond_true, and_self]
    repeat' (first | refine fork_intro (fun hb => ?_) (fun hb => ?_) | refine partB_intro (fun hb => ?_) (fun hb => ?_) | refine And.intro ?_ ?_)
    all_goals first | exact True.intro | omega | with_reducible rfl | exact congrArg (AV.int _) (by omega) | (first | rfl | exact (hb trivial).elim | exact hb.elim)
  · simp only [h, decide_false, cond_false]
    repeat' (first | refine fork_intro (fun hb => ?_) (fun hb => ?_) | refine partB_intro (fun hb => ?_) (fun hb => ?_) | refine And.intro ?_ ?_)
    all_goals first | exact True.intro | omega | with_reducible rfl | exact congrArg (AV.int _) (by omega) | (first | rfl | exact (hb trivial).elim | exact hb.elim)
def t_fmtI : Table := [(11, pureC g_fmtI)]
theorem t_fmtI_ok : TabOK Tryd.prog t_fmtI := .cons Tryd.func11 (by kernel_rfl) (.pure (by intro args hp; unfold g_fmtI at hp ⊢; split at hp <;> first | exact hp.elim | exact fmtI_ok _ hp)) (.nil _)
attribute [go_sem] g_fmtI_eq t_fmtI
end Go.Proofs.YtjnongegddnobaaDoor
