/- Joined texts: both packages say the same. -/
import Derived.Test.YtkjfmabadpfgaaaDoorX0
namespace Go.Proofs.YtkjfmabadpfgaaaDoor
open Go.Vc
set_option maxRecDepth 100000
set_option linter.unusedSimpArgs false
set_option linter.unusedVariables false

def szTF : List ByteArray -> Int -> Int
  | [], l => l
  | x :: r, l => if l - x.size < 0 then -1 else szTF r (l - x.size)
def szT (xs : List ByteArray) (l : Int) : Int := if l - xs.length < 0 then -1 else szTF xs (l - xs.length)
theorem szTF_le : ∀ (xs : List ByteArray) (l : Int), ¬ szTF xs l < 0 -> ∀ x ∈ xs, (x.size : Int) <= l
  | [], _, _, x, hx => by cases hx
  | y :: r, l, h, x, hx => by
    unfold szTF at h
    split at h
    · omega
    · rcases List.mem_cons.1 hx with rfl | hx
      · omega
      · have := szTF_le r _ h x hx; omega
theorem szT_le {xs : List ByteArray} (h : ¬ szT xs 1048576 < 0) : xs.length <= 1048576 /\ ∀ x ∈ xs, x.size <= 1048576 := by
  unfold szT at h
  split at h
  · omega
  · exact ⟨by omega, fun x hx => by have := szTF_le xs _ h x hx; omega⟩
def okJ (xs : List ByteArray) (s : ByteArray) : Bool := decide (0 < xs.length) && (decide (s.size = 1) && ((!xs.any fun x => hasB x (byteAt s 0)) && decide ((joinB xs s).size <= 4000)))
theorem okJ_t {xs : List ByteArray} {s : ByteArray} (h1 : 0 < xs.length) (h2 : s.size = 1) (h3 : (xs.any fun x => hasB x (byteAt s 0)) = false) (h4 : (joinB xs s).size <= 4000) : okJ xs s = true := by unfold okJ; simp only [h1, h2, h3, h4, decide_true, Bool.not_false, Bool.and_self]
theorem okJ_f1 {xs : List ByteArray} {s : ByteArray} (h : ¬ 0 < xs.length) : okJ xs s = false := by unfold okJ; simp only [h, decide_false, Bool.false_and]
theorem okJ_f2 {xs : List ByteArray} {s : ByteArray} (h : ¬ s.size = 1) : okJ xs s = false := by unfold okJ; simp only [h, decide_false, Bool.false_and, Bool.and_false]
theorem okJ_f3 {xs : List ByteArray} {s : ByteArray} (h : (xs.any fun x => hasB x (byteAt s 0)) = true) : okJ xs s = false := by unfold okJ; simp only [h, Bool.not_true, Bool.false_and, Bool.and_false]
theorem okJ_f4 {xs : List ByteArray} {s : ByteArray} (h : ¬ (joinB xs s).size <= 4000) : okJ xs s = false := by unfold okJ; simp only [h, decide_false, Bool.and_false]

theorem any_no {xs : List ByteArray} {p : ByteArray -> Bool} (h : ∀ j : Nat, j < xs.length -> p (ix xs (j : Int)) = false) : xs.any p = false := by
  rw [List.any_eq_false]
  intro x hx
  obtain ⟨j, hj, e⟩ := List.getElem_of_mem hx
  have e1 := ix_some xs hj
  rw [List.getElem?_eq_getElem hj, e] at e1
  rw [Option.some.inj e1, h j hj]; simp
theorem any_yes {xs : List ByteArray} {p : ByteArray -> Bool} {j : Nat} (hj : j < xs.length) (h : p (ix xs (j : Int)) = true) : xs.any p = true :=
  List.any_eq_true.2 ⟨_, ix_mem xs hj, h⟩
theorem join_take_le {xs : List ByteArray} {s : ByteArray} (hs : s.size = 1) {k : Nat} (h : k < xs.length) : (joinB (xs.take (k + 1)) s).size <= (joinB xs s).size /\ (joinB (xs.take (k + 1)) s).size = sumZ (xs.take (k + 1)) + k := by
  have hne : xs ≠ [] := by intro e; rw [e] at h; cases h
  have a := joinB_size hs xs hne
  have b := joinB_size hs (xs.take (k + 1)) (by rw [take_ix xs h]; simp)
  have c := sumZ_take_le xs (k + 1)
  rw [List.length_take, Nat.min_eq_left (by omega)] at b
  omega
theorem join_take_succ {xs : List ByteArray} {s : ByteArray} {k : Nat} (h : k < xs.length) (hk : 0 < k) : joinB (xs.take (k + 1)) s = joinB (xs.take k) s ++ s ++ ix xs (k : Int) := by
  rw [take_ix xs h, joinB_snoc]
  exact take_ne h hk
theorem join_take_one {xs : List ByteArray} {s : ByteArray} (h : 0 < xs.length) : joinB (xs.take (0 + 1)) s = ix xs ((0 : Nat) : Int) := by
  rw [take_ix xs h, List.take_zero, List.nil_append, joinB_one]

def g_hasS : List AV -> Prop × AV
  | [.str s, .int .u8 b] => (s.size <= 1048576 /\ 0 <= b /\ b < 256, .bool (hasB s (UInt8.ofNat b.toNat)))
  | _ => (False, .undef)
theorem g_hasS_eq (s : ByteArray) (b : Int) : g_hasS [.str s, .int .u8 b] = (s.size <= 1048576 /\ 0 <= b /\ b < 256, .bool (hasB s (UInt8.ofNat b.toNat))) := (rfl)
theorem hasS_ok (s : ByteArray) (b : Int) (hp : s.size <= 1048576 /\ 0 <= b /\ b < 256) : SpecOK Tryd.prog 34 [.str s, .int .u8 b] (.bool (hasB s (UInt8.ofNat b.toNat))) [] := by
  refine fun_ok (C := []) (hint := hintX [] [] 0 [] [] [] []) (TabOK.nil _) mixed Tryd.func34 rfl (by kernel_rfl) rfl ?_
  show codeA _ _ _ _ _ _ _ _
  simp only [go_sem, Tryd.results34]
  obtain ⟨m, rfl⟩ : ∃ m : Nat, b = m := ⟨b.toNat, by omega⟩
  have hm : (UInt8.ofNat m).toNat = m := by simp; omega
  refine loop_intro (fun k : Nat => [(5, .int .i64 k), (0, .str s), (1, .int .u8 m)]) (fun _ => []) 0 (fun k => k <= s.size /\ ∀ j : Nat, j < k -> byteAt s (j : Int) ≠ UInt8.ofNat m) (fun k => s.size - k) 0 ⟨Nat.zero_le _, fun j hj => absurd hj (Nat.not_lt_zero _)⟩ (Nat.zero_le _) ?_ ?_
  · simp only [go_sem]
    repeat' (first | refine fork_intro (fun hb => ?_) (fun hb => ?_) | refine partB_intro (fun hb => ?_) (fun hb => ?_) | refine And.intro ?_ ?_)
    all_goals first | exact True.intro | omega | with_reducible rfl | exact congrArg (AV.int _) (by omega) | (first | rfl)
  · rintro k ⟨hk, hno⟩
    simp only [go_sem]
    refine fork_intro (fun hc => ?_) (fun hc => ?_)
    · refine ⟨⟨by omega, by omega⟩, ?_⟩
      refine fork_intro (fun hd => ?_) (fun hd => ?_)
      · have e : byteAt s (k : Int) = UInt8.ofNat m := UInt8.toNat_inj.1 (by rw [hm]; omega)
        rw [hasB_yes (by omega) e]
      · have e : byteAt s (k : Int) ≠ UInt8.ofNat m := fun h => hd (by rw [h, hm])
        have hno' : ∀ j : Nat, j < k + 1 -> byteAt s (j : Int) ≠ UInt8.ofNat m := fun j hj => by
          by_cases ej : j = k
          · rw [ej]; exact e
          · exact hno j (by omega)
        repeat' (first | refine fork_intro (fun hb => ?_) (fun hb => ?_) | refine partB_intro (fun hb => ?_) (fun hb => ?_) | refine And.intro ?_ ?_)
        all_goals first | exact True.intro | omega | with_reducible rfl | exact congrArg (AV.int _) (by omega) | (refine LoopEnd.intro (k + 1) (by first | omega | (first | exact ⟨by omega, hno'⟩)) (by first | omega | (dsimp only; omega)) (by omega) ?_; simp only [go_sem]; (repeat' (first | refine fork_intro (fun hb => ?_) (fun hb => ?_) | refine partB_intro (fun hb => ?_) (fun hb => ?_) | refine And.intro ?_ ?_)); all_goals first | exact True.intro | omega | with_reducible rfl | exact congrArg (AV.int _) (by omega) | (first | rfl)) | (first | rfl)
    · rw [hasB_no (fun j hj => hno j (by omega))]
def t_hasS : Table := [(34, pureC g_hasS)]
theorem t_hasS_ok : TabOK Tryd.prog t_hasS := .cons Tryd.func34 (by kernel_rfl) (.pure (by intro args hp; unfold g_hasS at hp ⊢; split at hp <;> first | exact hp.elim | exact hasS_ok _ _ hp)) (.nil _)
attribute [go_sem] g_hasS_eq t_hasS
def g_joinS : List AV -> Prop × AV
  | [.strs xs, .str s] => (xs.length <= 1048576 /\ ∀ x ∈ xs, x.size <= 1048576, .tup [.str (bif okJ xs s then joinB xs s else ⟨#[]⟩), .bool (okJ xs s)])
  | _ => (False, .undef)
theorem g_joinS_eq (xs : List ByteArray) (s : ByteArray) : g_joinS [.strs xs, .str s] = (xs.length <= 1048576 /\ ∀ x ∈ xs, x.size <= 1048576, .tup [.str (bif okJ xs s then joinB xs s else ⟨#[]⟩), .bool (okJ xs s)]) := (rfl)
theorem joinS_ok (xs : List ByteArray) (s : ByteArray) (hp : xs.length <= 1048576 /\ ∀ x ∈ xs, x.size <= 1048576) : SpecOK Tryd.prog 10 [.strs xs, .str s] (.tup [.str (bif okJ xs s then joinB xs s else ⟨#[]⟩), .bool (okJ xs s)]) [] := by
  refine fun_ok (C := t_hasS) (hint := hintX [] [] 0 [] [] [] []) (t_hasS_ok) mixed Tryd.func10 rfl (by kernel_rfl) rfl ?_
  show codeA _ _ _ _ _ _ _ _
  simp only [go_sem, Tryd.results10]
  refine fork_intro (fun h1 => ?_) (fun h1 => ?_)
  · have h1' : s.size = 1 := by omega
    refine fork_intro (fun h2 => ?_) (fun h2 => ?_)
    · rw [okJ_f1 (by omega)]; exact ⟨rfl, rfl⟩
    · refine loop_intro (fun k : Nat => [(6, .str (joinB (xs.take k) s)), (7, .int .i64 k), (0, .strs xs), (1, .str s)]) (fun _ => []) 0 (fun k => k <= xs.length /\ (joinB (xs.take k) s).size <= 4000 /\ ∀ j : Nat, j < k -> hasB (ix xs (j : Int)) (byteAt s 0) = false) (fun k => xs.length - k) 0 ⟨Nat.zero_le _, Nat.zero_le _, fun j hj => absurd hj (Nat.not_lt_zero _)⟩ (Nat.zero_le _) ?_ ?_
      · simp only [go_sem]
        repeat' (first | refine fork_intro (fun hb => ?_) (fun hb => ?_) | refine partB_intro (fun hb => ?_) (fun hb => ?_) | refine And.intro ?_ ?_)
        all_goals first | exact True.intro | omega | with_reducible rfl | exact congrArg (AV.int _) (by omega) | (first | rfl)
      · rintro k ⟨hk, hz, hno⟩
        simp only [go_sem, UInt8.ofNat_toNat]
        refine fork_intro (fun hc => ?_) (fun hc => ?_)
        · have hkl : k < xs.length := by omega
          have hxz := hp.2 _ (ix_mem xs hkl)
          have hbt := (byteAt s 0).toNat_lt
          obtain ⟨j1, j2⟩ := join_take_le h1' hkl
          refine ⟨by omega, by omega, ⟨by omega, by omega, by omega⟩, ?_⟩
          refine partB_intro (fun hd => ?_) (fun hd => ?_)
          · rw [okJ_f3 (any_yes hkl hd)]; exact ⟨rfl, rfl⟩
          · have hno' : ∀ j : Nat, j < k + 1 -> hasB (ix xs (j : Int)) (byteAt s 0) = false := fun j hj => by
              by_cases ej : j = k
              · rw [ej]; exact hd
              · exact hno j (by omega)
            refine fork_intro (fun hf => ?_) (fun hf => ?_)
            · have e := join_take_succ (s := s) hkl (by omega)
              have ez := congrArg ByteArray.size e
              rw [ByteArray.size_append, ByteArray.size_append] at ez
              refine ⟨by omega, by omega, by omega, fork_intro (fun h4 => ?_) (fun h4 => ?_)⟩
              · rw [okJ_f4 (by omega)]; exact ⟨rfl, rfl⟩
              · repeat' (first | refine fork_intro (fun hb => ?_) (fun hb => ?_) | refine partB_intro (fun hb => ?_) (fun hb => ?_) | refine And.intro ?_ ?_)
                all_goals first | exact True.intro | omega | with_reducible rfl | exact congrArg (AV.int _) (by omega) | (refine LoopEnd.intro (k + 1) (by first | omega | (first | exact ⟨by omega, by omega, hno'⟩)) (by first | omega | (dsimp only; omega)) (by omega) ?_; simp only [go_sem]; (repeat' (first | refine fork_intro (fun hb => ?_) (fun hb => ?_) | refine partB_intro (fun hb => ?_) (fun hb => ?_) | refine And.intro ?_ ?_)); all_goals first | exact True.intro | omega | with_reducible rfl | exact congrArg (AV.int _) (by omega) | (first | rfl | rw [e])) | (first | rfl | rw [e])
            · obtain rfl : k = 0 := by omega
              have e := join_take_one (s := s) hkl
              have ez := congrArg ByteArray.size e
              have e0 : joinB (xs.take 0) s ++ ix xs ((0 : Nat) : Int) = joinB (xs.take (0 + 1)) s := by rw [e]; exact empty_app _
              have z0 : (joinB (xs.take 0) s).size = 0 := rfl
              refine ⟨by omega, by omega, fork_intro (fun h4 => ?_) (fun h4 => ?_)⟩
              · rw [okJ_f4 (by omega)]; exact ⟨rfl, rfl⟩
              · repeat' (first | refine fork_intro (fun hb => ?_) (fun hb => ?_) | refine partB_intro (fun hb => ?_) (fun hb => ?_) | refine And.intro ?_ ?_)
                all_goals first | exact True.intro | omega | with_reducible rfl | exact congrArg (AV.int _) (by omega) | (refine LoopEnd.intro (0 + 1) (by first | omega | (first | exact ⟨by omega, by omega, hno'⟩)) (by first | omega | (dsimp only; omega)) (by omega) ?_; simp only [go_sem]; (repeat' (first | refine fork_intro (fun hb => ?_) (fun hb => ?_) | refine partB_intro (fun hb => ?_) (fun hb => ?_) | refine And.intro ?_ ?_)); all_goals first | exact True.intro | omega | with_reducible rfl | exact congrArg (AV.int _) (by omega) | (first | rfl | exact congrArg AV.str e0)) | (first | rfl | exact congrArg AV.str e0)
        · have hkl : k = xs.length := by omega
          subst hkl
          rw [List.take_length] at hz
          rw [List.take_length, okJ_t (by omega) h1' (any_no hno) hz]
          exact ⟨rfl, rfl⟩
  · rw [okJ_f2 (by omega)]; exact ⟨rfl, rfl⟩
def t_joinS : Table := [(10, pureC g_joinS)]
theorem t_joinS_ok : TabOK Tryd.prog t_joinS := .cons Tryd.func10 (by kernel_rfl) (.pure (by intro args hp; unfold g_joinS at hp ⊢; split at hp <;> first | exact hp.elim | exact joinS_ok _ _ hp)) (.nil _)
attribute [go_sem] g_joinS_eq t_joinS
def g_joinF : List AV -> Prop × AV
  | [.str x, .iptr [.str s]] => (s.size = 1, .bool (hasB x (byteAt s 0)))
  | _ => (False, .undef)
theorem g_joinF_eq (x s : ByteArray) : g_joinF [.str x, .iptr [.str s]] = (s.size = 1, .bool (hasB x (byteAt s 0))) := (rfl)
theorem joinF_ok (x s : ByteArray) (hp : s.size = 1) : SpecOK Tryd.prog 31 [.str x, .iptr [.str s]] (.bool (hasB x (byteAt s 0))) [] := by
  refine fun_ok (C := t_hasC) (hint := hintX [] [] 0 [] [] [] []) (t_hasC_ok) mixed Tryd.func31 rfl (by kernel_rfl) rfl ?_
  show codeA _ _ _ _ _ _ _ _
  simp only [go_sem, Tryd.results31]
  exact hp
def t_joinF : Table := [(31, pureC g_joinF)]
theorem t_joinF_ok : TabOK Tryd.prog t_joinF := .cons Tryd.func31 (by kernel_rfl) (.pure (by intro args hp; unfold g_joinF at hp ⊢; split at hp <;> first | exact hp.elim | exact joinF_ok _ _ hp)) (.nil _)
attribute [go_sem] g_joinF_eq t_joinF
def g_idxJ : List AV -> Prop × AV
  | [.strs xs, .fn 31 [.iptr [.str s]]] => (xs.length <= 1048576000 /\ s.size = 1, .int .i64 (idxG (fun x => hasB x (byteAt s 0)) xs 0))
  | _ => (False, .undef)
theorem g_idxJ_eq (xs : List ByteArray) (s : ByteArray) : g_idxJ [.strs xs, .fn 31 [.iptr [.str s]]] = (xs.length <= 1048576000 /\ s.size = 1, .int .i64 (idxG (fun x => hasB x (byteAt s 0)) xs 0)) := (rfl)
theorem idxJ_ok (xs : List ByteArray) (s : ByteArray) (hp : xs.length <= 1048576000 /\ s.size = 1) : SpecOK Tryd.prog 46 [.strs xs, .fn 31 [.iptr [.str s]]] (.int .i64 (idxG (fun x => hasB x (byteAt s 0)) xs 0)) [] := by
  refine fun_ok (C := t_joinF) (hint := hintX [] [] 0 [] [] [] []) (t_joinF_ok) mixed Tryd.func46 rfl (by kernel_rfl) rfl ?_
  show codeA _ _ _ _ _ _ _ _
  simp only [go_sem, Tryd.results46]
  refine loop_intro (fun k : Nat => [(8, .int .i64 k), (7, .int .i64 xs.length), (0, .strs xs), (1, .fn 31 [.iptr [.str s]])]) (fun _ => []) 0 (fun k => k <= xs.length /\ idxG (fun x => hasB x (byteAt s 0)) (xs.drop k) k = idxG (fun x => hasB x (byteAt s 0)) xs 0) (fun k => xs.length - k) 0 ⟨Nat.zero_le _, rfl⟩ (Nat.zero_le _) ?_ ?_
  · simp only [go_sem]
    repeat' (first | refine fork_intro (fun hb => ?_) (fun hb => ?_) | refine partB_intro (fun hb => ?_) (fun hb => ?_) | refine And.intro ?_ ?_)
    all_goals first | exact True.intro | omega | with_reducible rfl | exact congrArg (AV.int _) (by omega) | (first | rfl)
  · rintro k ⟨hk, ht⟩
    simp only [go_sem]
    refine fork_intro (fun hb => ?_) (fun hb => ?_)
    · rw [drop_ix xs (show k < xs.length by omega), idxG] at ht
      refine ⟨by omega, hp.2, partB_intro (fun hc => ?_) (fun hc => ?_)⟩
      · rw [if_pos hc] at ht
        rw [<- ht]
      · rw [if_neg (by rw [hc]; simp)] at ht
        repeat' (first | refine fork_intro (fun hb => ?_) (fun hb => ?_) | refine partB_intro (fun hb => ?_) (fun hb => ?_) | refine And.intro ?_ ?_)
        all_goals first | exact True.intro | omega | with_reducible rfl | exact congrArg (AV.int _) (by omega) | (refine LoopEnd.intro (k + 1) (by first | omega | (first | exact ⟨by omega, ht⟩)) (by first | omega | (dsimp only; omega)) (by omega) ?_; simp only [go_sem]; (repeat' (first | refine fork_intro (fun hb => ?_) (fun hb => ?_) | refine partB_intro (fun hb => ?_) (fun hb => ?_) | refine And.intro ?_ ?_)); all_goals first | exact True.intro | omega | with_reducible rfl | exact congrArg (AV.int _) (by omega) | (first | rfl)) | (first | rfl)
    · rw [show k = xs.length by omega, List.drop_length] at ht
      rw [<- ht]; rfl
def t_idxJ : Table := [(46, pureC g_idxJ)]
theorem t_idxJ_ok : TabOK Tryd.prog t_idxJ := .cons Tryd.func46 (by kernel_rfl) (.pure (by intro args hp; unfold g_idxJ at hp ⊢; split at hp <;> first | exact hp.elim | exact idxJ_ok _ _ hp)) (.nil _)
attribute [go_sem] g_idxJ_eq t_idxJ
def g_ctnJ : List AV -> Prop × AV
  | [.strs xs, .fn 31 [.iptr [.str s]]] => (xs.length <= 1048576000 /\ s.size = 1, .bool (xs.any fun x => hasB x (byteAt s 0)))
  | _ => (False, .undef)
theorem g_ctnJ_eq (xs : List ByteArray) (s : ByteArray) : g_ctnJ [.strs xs, .fn 31 [.iptr [.str s]]] = (xs.length <= 1048576000 /\ s.size = 1, .bool (xs.any fun x => hasB x (byteAt s 0))) := (rfl)
theorem ctnJ_ok (xs : List ByteArray) (s : ByteArray) (hp : xs.length <= 1048576000 /\ s.size = 1) : SpecOK Tryd.prog 30 [.strs xs, .fn 31 [.iptr [.str s]]] (.bool (xs.any fun x => hasB x (byteAt s 0))) [] := by
  refine fun_ok (C := t_idxJ) (hint := hintX [] [] 0 [] [] [] []) (t_idxJ_ok) mixed Tryd.func30 rfl (by kernel_rfl) rfl ?_
  show codeA _ _ _ _ _ _ _ _
  simp only [go_sem, Tryd.results30]
  refine ⟨hp, ?_⟩
  rw [<- idxG_any _ xs 0 (by omega)]
def t_ctnJ : Table := [(30, pureC g_ctnJ)]
theorem t_ctnJ_ok : TabOK Tryd.prog t_ctnJ := .cons Tryd.func30 (by kernel_rfl) (.pure (by intro args hp; unfold g_ctnJ at hp ⊢; split at hp <;> first | exact hp.elim | exact ctnJ_ok _ _ hp)) (.nil _)
attribute [go_sem] g_ctnJ_eq t_ctnJ
def g_joinI : List AV -> Prop × AV
  | [.strs xs, .str s] => (xs.length <= 1048576 /\ ∀ x ∈ xs, x.size <= 1048576, .tup [.str (bif okJ xs s then joinB xs s else ⟨#[]⟩), .bool (okJ xs s)])
  | _ => (False, .undef)
theorem g_joinI_eq (xs : List ByteArray) (s : ByteArray) : g_joinI [.strs xs, .str s] = (xs.length <= 1048576 /\ ∀ x ∈ xs, x.size <= 1048576, .tup [.str (bif okJ xs s then joinB xs s else ⟨#[]⟩), .bool (okJ xs s)]) := (rfl)
theorem joinI_ok (xs : List ByteArray) (s : ByteArray) (hp : xs.length <= 1048576 /\ ∀ x ∈ xs, x.size <= 1048576) : SpecOK Tryd.prog 9 [.strs xs, .str s] (.tup [.str (bif okJ xs s then joinB xs s else ⟨#[]⟩), .bool (okJ xs s)]) [] := by
  refine fun_ok (C := t_ctnJ ++ t_joinC) (hint := hintX [] [] 0 [] [] [] []) ((t_ctnJ_ok).append t_joinC_ok) mixed Tryd.func9 rfl (by kernel_rfl) rfl ?_
  show codeA _ _ _ _ _ _ _ _
  simp only [go_sem, Tryd.results9]
  refine fork_intro (fun h2 => ?_) (fun h2 => ?_)
  · rw [okJ_f1 (by omega)]; exact ⟨rfl, rfl⟩
  · refine fork_intro (fun h1 => ?_) (fun h1 => ?_)
    · have h1' : s.size = 1 := by omega
      have hne : xs ≠ [] := by rintro rfl; simp at h2
      have hJ := joinB_size h1' xs hne
      refine ⟨⟨by omega, h1'⟩, partB_intro (fun hd => ?_) (fun hd => ?_)⟩
      · rw [okJ_f3 hd]; exact ⟨rfl, rfl⟩
      · refine ⟨⟨by omega, by omega⟩, ?_⟩
        refine loop_intro (fun k : Nat => [(6, .int .i64 ((xs.length : Int) - 1 + (sumZ (xs.take k) : Nat))), (25, .strs xs), (26, .int .i64 xs.length), (27, .int .i64 k), (3, .iptr [.str s]), (0, .strs xs)]) (fun _ => []) 0 (fun k => k <= xs.length /\ (0 < k -> xs.length + sumZ (xs.take k) <= 4001)) (fun k => xs.length - k) 0 ⟨Nat.zero_le _, fun h => absurd h (Nat.lt_irrefl 0)⟩ (Nat.zero_le _) ?_ ?_
        · simp only [go_sem]
          repeat' (first | refine fork_intro (fun hb => ?_) (fun hb => ?_) | refine partB_intro (fun hb => ?_) (fun hb => ?_) | refine And.intro ?_ ?_)
          all_goals first | exact True.intro | omega | with_reducible rfl | exact congrArg (AV.int _) (by omega) | (first | exact congrArg (AV.int _) (by simp [sumZ]))
        · rintro k ⟨hk, hz⟩
          have hle := sumZ_take_le xs k
          have h0 : k = 0 -> sumZ (xs.take k) = 0 := fun e => by rw [e]; rfl
          simp only [go_sem]
          refine fork_intro (fun hc => ?_) (fun hc => ?_)
          · have hkl : k < xs.length := by omega
            have hxz := hp.2 _ (ix_mem xs hkl)
            have e := sumZ_take hkl
            have hle' := sumZ_take_le xs (k + 1)
            have hzb : sumZ (xs.take k) <= 4001 := by
              rcases Nat.eq_zero_or_pos k with h | h
              · rw [h0 h]; omega
              · have := hz h; omega
            have et : (xs.length : Int) - 1 + (sumZ (xs.take k) : Nat) + ((ix xs (k : Int)).size : Nat) = (xs.length : Int) - 1 + (sumZ (xs.take (k + 1)) : Nat) := by rw [e]; omega
            refine ⟨by omega, ⟨by omega, by omega⟩, fork_intro (fun h4 => ?_) (fun h4 => ?_)⟩
            · rw [okJ_f4 (by omega)]; exact ⟨rfl, rfl⟩
            · repeat' (first | refine fork_intro (fun hb => ?_) (fun hb => ?_) | refine partB_intro (fun hb => ?_) (fun hb => ?_) | refine And.intro ?_ ?_)
              all_goals first | exact True.intro | omega | with_reducible rfl | exact congrArg (AV.int _) (by omega) | (refine LoopEnd.intro (k + 1) (by first | omega | (first | exact ⟨by omega, fun _ => by omega⟩)) (by first | omega | (dsimp only; omega)) (by omega) ?_; simp only [go_sem]; (repeat' (first | refine fork_intro (fun hb => ?_) (fun hb => ?_) | refine partB_intro (fun hb => ?_) (fun hb => ?_) | refine And.intro ?_ ?_)); all_goals first | exact True.intro | omega | with_reducible rfl | exact congrArg (AV.int _) (by omega) | (first | rfl | rw [et] | exact congrArg (AV.int _) et)) | (first | rfl | rw [et] | exact congrArg (AV.int _) et)
          · have hkl : k = xs.length := by omega
            subst hkl
            have htl : xs.take xs.length = xs := List.take_length
            rw [htl] at hz h0 hle ⊢
            refine fork_intro (fun h4 => ?_) (fun h4 => ?_)
            · rw [okJ_f4 (by omega)]; exact ⟨rfl, rfl⟩
            · rw [okJ_t (by omega) h1' hd (by omega)]
              refine ⟨⟨by omega, by omega⟩, rfl, rfl⟩
    · rw [okJ_f2 (by omega)]; exact ⟨rfl, rfl⟩
def t_joinI : Table := [(9, pureC g_joinI)]
theorem t_joinI_ok : TabOK Tryd.prog t_joinI := .cons Tryd.func9 (by kernel_rfl) (.pure (by intro args hp; unfold g_joinI at hp ⊢; split at hp <;> first | exact hp.elim | exact joinI_ok _ _ hp)) (.nil _)
attribute [go_sem] g_joinI_eq t_joinI
end Go.Proofs.YtkjfmabadpfgaaaDoor
