/- Marks of texts. -/
import Derived.Test.YtjnongegddnobaaDoorPlJ
import Derived.Test.YtjnongegddnobaaDoorTy
namespace Go.Proofs.YtjnongegddnobaaDoor
open Go.Vc
set_option maxRecDepth 100000
set_option maxHeartbeats 1600000
set_option linter.unusedSimpArgs false
set_option linter.unusedVariables false
def mkB (n : Int) : ByteArray := ⟨#[UInt8.ofNat n.toNat]⟩
def markD : Nat -> Nat -> ByteArray -> ByteArray
  | 0, _, out => out
  | f + 1, k, out => if k = 0 then out else markD f (k / 10) (mkB (48 + (k : Int) % 10) ++ out)
def markT (k : Int) : ByteArray := if k <= 0 then ⟨#[109, 48]⟩ else ⟨#[109]⟩ ++ markD k.toNat k.toNat ⟨#[]⟩
theorem markD_zero (f : Nat) (out : ByteArray) : markD f 0 out = out := by cases f <;> simp [markD]
theorem markD_fuel : ∀ (f g k : Nat) (out : ByteArray), k <= f -> k <= g -> markD f k out = markD g k out
  | 0, g, k, out, h, _ => by
    have : k = 0 := by omega
    subst this
    rw [markD_zero, markD_zero]
  | f + 1, 0, k, out, _, h => by
    have : k = 0 := by omega
    subst this
    rw [markD_zero, markD_zero]
  | f + 1, g + 1, k, out, h1, h2 => by
    unfold markD
    by_cases h : k = 0
    · rw [if_pos h, if_pos h]
    · rw [if_neg h, if_neg h]
      exact markD_fuel f g (k / 10) _ (by omega) (by omega)
theorem markD_step {m : Nat} {out : ByteArray} (h : 0 < m) : markD (m / 10) (m / 10) (mkB (48 + (m : Int) % 10) ++ out) = markD m m out := by
  obtain ⟨q, rfl⟩ : ∃ q, m = q + 1 := ⟨m - 1, by omega⟩
  show _ = (if q + 1 = 0 then out else markD q ((q + 1) / 10) (mkB (48 + ((q + 1 : Nat) : Int) % 10) ++ out))
  rw [if_neg (by omega)]
  exact markD_fuel _ _ _ _ (Nat.le_refl _) (by omega)
def g_markText : List AV -> Prop × AV
  | [.int .i64 k] => (k <= 1000000000000, .str (markT k))
  | _ => (False, .undef)
theorem g_markText_eq (k : Int) : g_markText [.int .i64 k] = (k <= 1000000000000, .str (markT k)) := (rfl)
theorem markText_ok (k : Int) (hp : k <= 1000000000000) : SpecOK Tryd.prog 44 [.int .i64 k] (.str (markT k)) [] := by
  refine fun_ok (C := []) (hint := hintX [] [] 0 [] [] [] []) (TabOK.nil _) mixed Tryd.func44 rfl (by kernel_rfl) rfl ?_
  show codeA _ _ _ _ _ _ _ _
  simp only [go_sem, Tryd.results44]
  refine fork_intro (fun h => by unfold markT; rw [if_pos h]) (fun h => ?_)
  obtain ⟨n, rfl⟩ : ∃ n : Nat, k = n := ⟨k.toNat, by omega⟩
  refine loop_intro (fun g : Nat × ByteArray => [(3, .str g.2), (0, .int .i64 g.1)]) (fun _ => []) 0 (fun g => markD g.1 g.1 g.2 = markD n n ⟨#[]⟩ /\ g.2.size + g.1 <= n) (fun g => g.1) (n, ⟨#[]⟩) ⟨rfl, by show 0 + n <= n; omega⟩ (by omega) ?_ ?_
  · simp only [go_sem]
    repeat' (first | refine fork_intro (fun hb => ?_) (fun hb => ?_) | refine partB_intro (fun hb => ?_) (fun hb => ?_) | refine And.intro ?_ ?_)
    all_goals first | exact True.intro | omega | with_reducible rfl | exact congrArg (AV.int _) (by omega) | (first | rfl)
  · rintro ⟨m, out⟩ ⟨h1, h2⟩
    simp only at h1 h2
    simp only [go_sem]
    refine fork_intro (fun hc => ?_) (fun hc => ?_)
    · have e : consV (AV.int IntKind.u8 (48 + (m : Int) % 10)) (some (.bytes [])) = some (.bytes [UInt8.ofNat (48 + (m : Int) % 10).toNat]) := by
        show (if _ then _ else _) = _
        rw [if_pos ⟨by omega, by omega⟩]
      have e2 := markD_step (out := out) (show 0 < m by omega)
      have hsz : (mkB (48 + (m : Int) % 10) ++ out).size = 1 + out.size := by rw [ByteArray.size_append]; rfl
      rw [e]
      simp only [go_sem]
      refine ⟨by omega, by omega, by omega, (by show 1 + out.size <= _; omega), by omega, ?_⟩
      repeat' (first | refine fork_intro (fun hb => ?_) (fun hb => ?_) | refine partB_intro (fun hb => ?_) (fun hb => ?_) | refine And.intro ?_ ?_)
      all_goals first | exact True.intro | omega | with_reducible rfl | exact congrArg (AV.int _) (by omega) | (refine LoopEnd.intro ((m / 10, mkB (48 + (m : Int) % 10) ++ out)) (by first | omega | (first | exact ⟨e2.trans h1, (by dsimp only; rw [hsz]; omega)⟩)) (by first | omega | (dsimp only; omega)) (by omega) ?_; simp only [go_sem]; (repeat' (first | refine fork_intro (fun hb => ?_) (fun hb => ?_) | refine partB_intro (fun hb => ?_) (fun hb => ?_) | refine And.intro ?_ ?_)); all_goals first | exact True.intro | omega | with_reducible rfl | exact congrArg (AV.int _) (by omega) | (first | rfl)) | (first | rfl)
    · have hm0 : m = 0 := by omega
      subst hm0
      have e3 : markT (n : Int) = ⟨#[109]⟩ ++ out := by
        unfold markT
        rw [if_neg h, Int.toNat_natCast, <- h1, markD_zero]
      rw [e3]
      refine ⟨?_, rfl⟩
      show 1 + out.size <= _
      omega
def t_markText : Table := [(44, pureC g_markText)]
theorem t_markText_ok : TabOK Tryd.prog t_markText := .cons Tryd.func44 (by kernel_rfl) (.pure (by intro args hp; unfold g_markText at hp ⊢; split at hp <;> first | exact hp.elim | exact markText_ok _ hp)) (.nil _)
attribute [go_sem] g_markText_eq t_markText
theorem bytes_eq {x y : ByteArray} : (x.toList == y.toList) = true ↔ x = y := by
  rw [beqL, decide_eq_true_eq]
def g_eqStrs : List AV -> Prop × AV
  | [.strs xs, .strs ys] => (xs.length <= 1048576000 /\ ys.length <= 1048576000, .bool (decide (xs = ys)))
  | _ => (False, .undef)
theorem g_eqStrs_eq (xs ys : List ByteArray) : g_eqStrs [.strs xs, .strs ys] = (xs.length <= 1048576000 /\ ys.length <= 1048576000, .bool (decide (xs = ys))) := (rfl)
theorem eqStrs_ok (xs ys : List ByteArray) (hp : xs.length <= 1048576000 /\ ys.length <= 1048576000) : SpecOK Tryd.prog 20 [.strs xs, .strs ys] (.bool (decide (xs = ys))) [] := by
  refine fun_ok (C := []) (hint := hintX [] [] 0 [] [] [] []) (TabOK.nil _) mixed Tryd.func20 rfl (by kernel_rfl) rfl ?_
  show codeA _ _ _ _ _ _ _ _
  simp only [go_sem, Tryd.results20]
  refine fork_intro (fun hb => ?_) (fun hb => ?_)
  · have hlen : xs.length = ys.length := by omega
    refine loop_intro (fun k : Nat => [(5, .int .i64 k), (0, .strs xs), (1, .strs ys)]) (fun _ => []) 0 (fun k => k <= xs.length /\ xs.take k = ys.take k) (fun k => xs.length - k) 0 ⟨Nat.zero_le _, rfl⟩ (Nat.zero_le _) ?_ ?_
    · simp only [go_sem]
      repeat' (first | refine fork_intro (fun hb => ?_) (fun hb => ?_) | refine partB_intro (fun hb => ?_) (fun hb => ?_) | refine And.intro ?_ ?_)
      all_goals first | exact True.intro | omega | with_reducible rfl | exact congrArg (AV.int _) (by omega)
    · rintro k ⟨hk, ht⟩
      simp only [go_sem]
      refine fork_intro (fun hb => ?_) (fun hb => ?_)
      · have e := take_eq ht (ix_some xs (by omega)) (ix_some ys (show k < ys.length by omega))
        refine ⟨by omega, by omega, partB_intro (fun hx => ?_) (fun hx => ?_)⟩
        · have h2 := e.2 (bytes_eq.1 hx)
          repeat' (first | refine fork_intro (fun hb => ?_) (fun hb => ?_) | refine partB_intro (fun hb => ?_) (fun hb => ?_) | refine And.intro ?_ ?_)
          all_goals first | exact True.intro | omega | with_reducible rfl | exact congrArg (AV.int _) (by omega) | (refine LoopEnd.intro (k + 1) (by first | omega | (first | exact ⟨by omega, h2⟩)) (by first | omega | (dsimp only; omega)) (by omega) ?_; simp only [go_sem]; (repeat' (first | refine fork_intro (fun hb => ?_) (fun hb => ?_) | refine partB_intro (fun hb => ?_) (fun hb => ?_) | refine And.intro ?_ ?_)); all_goals first | exact True.intro | omega | with_reducible rfl | exact congrArg (AV.int _) (by omega) | (first | rfl)) | (first | rfl)
        · rw [decide_eq_false (show ¬ xs = ys from fun h => by
            have h9 := bytes_eq.2 (e.1 (by rw [h]))
            rw [h9] at hx; cases hx)]
      · rw [show k = xs.length by omega, List.take_length, hlen, List.take_length] at ht
        rw [decide_eq_true ht]
  · rw [decide_eq_false (show ¬ xs = ys from fun h => hb (by rw [h]))]
def t_eqStrs : Table := [(20, pureC g_eqStrs)]
theorem t_eqStrs_ok : TabOK Tryd.prog t_eqStrs := .cons Tryd.func20 (by kernel_rfl) (.pure (by intro args hp; unfold g_eqStrs at hp ⊢; split at hp <;> first | exact hp.elim | exact eqStrs_ok _ _ hp)) (.nil _)
attribute [go_sem] g_eqStrs_eq t_eqStrs
def heldT (xs : List ByteArray) (k : Int) : Int := if (List.range xs.length).all (fun i : Nat => decide (ix xs (i : Int) = markT (k + i))) = true then k + xs.length else -1
def g_heldStrs : List AV -> Prop × AV
  | [.strs xs, .int .i64 k] => (xs.length <= 1048576000 /\ 0 <= k /\ k <= 1000000000, .int .i64 (heldT xs k))
  | _ => (False, .undef)
theorem g_heldStrs_eq (xs : List ByteArray) (k : Int) : g_heldStrs [.strs xs, .int .i64 k] = (xs.length <= 1048576000 /\ 0 <= k /\ k <= 1000000000, .int .i64 (heldT xs k)) := (rfl)
theorem heldStrs_ok (xs : List ByteArray) (k : Int) (hp : xs.length <= 1048576000 /\ 0 <= k /\ k <= 1000000000) : SpecOK Tryd.prog 22 [.strs xs, .int .i64 k] (.int .i64 (heldT xs k)) [] := by
  refine fun_ok (C := t_markText) (hint := hintX [] [] 0 [] [] [] []) (t_markText_ok) mixed Tryd.func22 rfl (by kernel_rfl) rfl ?_
  show codeA _ _ _ _ _ _ _ _
  simp only [go_sem, Tryd.results22]
  refine loop_intro (fun i : Nat => [(5, .int .i64 i), (0, .strs xs), (1, .int .i64 (k + i))]) (fun _ => []) 0 (fun i => i <= xs.length /\ ∀ j : Nat, j < i -> ix xs (j : Int) = markT (k + j)) (fun i => xs.length - i) 0 ⟨Nat.zero_le _, fun j h => absurd h (Nat.not_lt_zero _)⟩ (by omega) ?_ ?_
  · simp only [go_sem]
    repeat' (first | refine fork_intro (fun hb => ?_) (fun hb => ?_) | refine partB_intro (fun hb => ?_) (fun hb => ?_) | refine And.intro ?_ ?_)
    all_goals first | exact True.intro | omega | with_reducible rfl | exact congrArg (AV.int _) (by omega) | (first | rfl)
  · rintro i ⟨hi, ht⟩
    simp only [go_sem]
    refine fork_intro (fun hc => ?_) (fun hc => ?_)
    · refine ⟨by omega, by omega, partB_intro (fun hx => ?_) (fun hx => ?_)⟩
      · have hx := bytes_eq.1 hx
        have h2 : ∀ j : Nat, j < i + 1 -> ix xs (j : Int) = markT (k + j) := fun j hj => by
          rcases Nat.lt_succ_iff_lt_or_eq.1 hj with h | rfl
          · exact ht j h
          · exact hx
        repeat' (first | refine fork_intro (fun hb => ?_) (fun hb => ?_) | refine partB_intro (fun hb => ?_) (fun hb => ?_) | refine And.intro ?_ ?_)
        all_goals first | exact True.intro | omega | with_reducible rfl | exact congrArg (AV.int _) (by omega) | (refine LoopEnd.intro (i + 1) (by first | omega | (first | exact ⟨by omega, h2⟩)) (by first | omega | (dsimp only; omega)) (by omega) ?_; simp only [go_sem]; (repeat' (first | refine fork_intro (fun hb => ?_) (fun hb => ?_) | refine partB_intro (fun hb => ?_) (fun hb => ?_) | refine And.intro ?_ ?_)); all_goals first | exact True.intro | omega | with_reducible rfl | exact congrArg (AV.int _) (by omega) | (first | rfl)) | (first | rfl)
      · have h3 : heldT xs k = -1 := by
          unfold heldT
          rw [if_neg]
          intro h
          have := of_decide_eq_true (List.all_eq_true.1 h i (List.mem_range.2 (by omega)))
          rw [bytes_eq.2 this] at hx; cases hx
        rw [h3]
    · have h3 : heldT xs k = k + i := by
        unfold heldT
        rw [if_pos (List.all_eq_true.2 (fun j hj => decide_eq_true (ht j (by have := List.mem_range.1 hj; omega))))]
        omega
      rw [h3]
def t_heldStrs : Table := [(22, pureC g_heldStrs)]
theorem t_heldStrs_ok : TabOK Tryd.prog t_heldStrs := .cons Tryd.func22 (by kernel_rfl) (.pure (by intro args hp; unfold g_heldStrs at hp ⊢; split at hp <;> first | exact hp.elim | exact heldStrs_ok _ _ hp)) (.nil _)
attribute [go_sem] g_heldStrs_eq t_heldStrs
end Go.Proofs.YtjnongegddnobaaDoor
