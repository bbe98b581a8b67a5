/- Texts split at a separator: both packages say the same. -/
import Derived.Test.YtjnongegddnobaaDoorX0
import Derived.Test.YtjnongegddnobaaDoorX1M
import Derived.Test.YtjnongegddnobaaDoorX2S
import Derived.Test.YtjnongegddnobaaDoorSP
import Derived.Test.YtjnongegddnobaaDoorPlV
namespace Go.Proofs.YtjnongegddnobaaDoor
open Go.Vc Go.RowKit
set_option maxRecDepth 100000
set_option maxHeartbeats 1600000
set_option linter.unusedSimpArgs false
set_option linter.unusedVariables false
theorem new_strs {S : Store} {w : World} (hS : StoreIn S w) (ts : List ByteArray) (n : Nat) (hn : ts.length = n) (hn0 : 0 < n) (t : TypeId) :
    ∃ cv S' ρ', Ending.returned (.slice (some ⟨w.heap.size, 0, none⟩) n n) = .returned cv /\ Rel (w.heap.size <= ·) S' ρ' (Heap.look [(0, .arr (.strs ts))]) (w.alloc (.cells (ts.map Value.string).toArray t)) /\ S.le S' /\
      (∀ b, S b = none -> S' b ≠ none -> w.heap.size <= b) /\ Kept (w.heap.size <= ·) w (w.alloc (.cells (ts.map Value.string).toArray t)) /\ V S' ρ' (Heap.look [(0, .arr (.strs ts))]) (.sl 0) cv := by
  subst hn
  have h0 : Rel (w.heap.size <= ·) S ⟨fun _ _ => 0, fun _ => 0, fun _ _ => 0⟩ (fun _ => none) w := ⟨hS.2, hS.1, fun r k hr => (by cases hr), fun r j hf => hf.elim, fun r j r' j' hf => hf.elim⟩
  have hH : addH [(0, Blk.arr (.strs ts))] (fun _ => none) = Heap.look [(0, .arr (.strs ts))] := by
    funext r
    unfold addH
    cases Heap.look [(0, Blk.arr (.strs ts))] r <;> rfl
  have hget : ∀ (i : Nat) (x : AV) (j : Nat) (y : AV), (ts.map AV.str)[i]? = some x -> x.cells[j]? = some y -> ∃ cv, (ts.map Value.string).toArray[i * 1 + j]? = some cv /\ Sees S y cv := fun i x j y hx hy => by
    rw [List.getElem?_map] at hx
    cases ht : ts[i]? with
    | none => rw [ht] at hx; cases hx
    | some s =>
      rw [ht] at hx
      cases hx
      rcases j with _ | j
      · cases hy
        exact ⟨.string s, by rw [Nat.mul_one, Nat.add_zero, List.getElem?_toArray, List.getElem?_map, ht]; rfl, .str s⟩
      · cases hy
  have hg := grow_own h0 (fun b hb => hb) (r := 0) rfl (ts.map Value.string).toArray t (.arr (.strs ts)) ts.length
    ⟨ts.map AV.str, 1, _, rfl, fun _ => (by first | exact ⟨t, by simp [Rho.set]⟩ | exact .mk0 (el := t) (by simp [Rho.set])), by simp [Rho.set], by simp [Rho.set], fun x hx => by
      obtain ⟨s, _, rfl⟩ := List.mem_map.1 hx
      rfl, hget⟩
    (fun j hf => by unfold foot at hf; rw [addH_self] at hf; exact hf.1)
  rw [hH] at hg
  refine ⟨_, S, _, rfl, hg.rel, hg.store, hg.fresh, hg.kept, ?_⟩
  have := V.sl (S := S) (ρ := Rho.set ⟨fun _ _ => 0, fun _ => 0, fun _ _ => 0⟩ 0 w.heap.size ts.length) (H := Heap.look [(0, .arr (.strs ts))]) 0 (.strs ts) (ts.map AV.str) 1 (some ⟨w.heap.size, 0, none⟩) rfl rfl (fun _ => by simp [Rho.set])
  simpa [Rho.set] using this
def g_splitC : List AV -> Prop × AV × Heap
  | [.str s, .str t] => (t.size = 1 /\ s.size <= 1048576, .sl 0, [(0, .arr (.strs (splL s (byteAt t 0))))])
  | _ => (False, .undef, [])
theorem g_splitC_eq (s t : ByteArray) : g_splitC [.str s, .str t] = (t.size = 1 /\ s.size <= 1048576, .sl 0, [(0, .arr (.strs (splL s (byteAt t 0))))]) := (rfl)
theorem splitC_ok (s t : ByteArray) (hp : t.size = 1 /\ s.size <= 1048576) : SpecOK Tryd.prog 43 [.str s, .str t] (.sl 0) [(0, .arr (.strs (splL s (byteAt t 0))))] := by
  intro S w cargs hS hsz hargs
  obtain ⟨v, u, rfl, h1, h2⟩ := args2 hsz hargs
  obtain rfl := sees_strv h1
  obtain rfl := sees_strv h2
  obtain ⟨hp1, hp2⟩ := hp
  obtain ⟨c, rfl⟩ : ∃ c, t = ⟨#[c]⟩ := by
    obtain ⟨⟨l⟩⟩ := t
    match l, hp1 with
    | [c], _ => exact ⟨c, rfl⟩
  obtain ⟨m, hm⟩ := maxLen0 hS
  refine (Tryd.strings_Split s ⟨#[c]⟩ m w (by omega) hm (Nat.le_refl _)).mono ?_
  rintro e w' ⟨rfl, rfl⟩
  have hl := Lib.splitB_all ⟨#[c]⟩ (Nat.le_refl _) 0 _ s rfl
  have es : Lib.splitB ⟨#[c]⟩ 0 (Lib.countB s ⟨#[c]⟩) s = splL s (byteAt ⟨#[c]⟩ 0) := splB_splL s c
  rw [es] at hl ⊢
  exact new_strs hS _ _ hl (Nat.succ_pos _) _
def t_splitC : Table := [(43, ownC g_splitC)]
theorem t_splitC_ok : TabOK Tryd.prog t_splitC := .cons Tryd.func43 (by kernel_rfl) (.own (by intro args hp; unfold g_splitC at hp ⊢; split at hp <;> first | exact hp.elim | exact ⟨splitC_ok _ _ hp, rfl⟩)) (.nil _)
attribute [go_sem] g_splitC_eq t_splitC
def upT (k : Int) (n : Nat) : List ByteArray := (List.range n).map fun i : Nat => markT (k + i)
theorem upT_len (k : Int) (n : Nat) : (upT k n).length = n := by simp [upT]
theorem upT_ix (k : Int) (n j : Nat) (h : j < n) : ix (upT k n) (j : Int) = markT (k + j) := by
  have e := ix_some (upT k n) (k := j) (by rw [upT_len]; exact h)
  unfold upT at e
  rw [List.getElem?_map, List.getElem?_range h] at e
  exact (Option.some.inj e).symm
theorem heldT_up (k : Int) (n : Nat) : heldT (upT k n) k = k + n := by
  unfold heldT
  rw [upT_len, if_pos (List.all_eq_true.2 (fun j hj => decide_eq_true (upT_ix k n j (List.mem_range.1 hj))))]
attribute [go_sem] heldT_up
def g_markStrs : List AV -> Heap -> Prop × AV × Heap
  | [.sl 0, .int .i64 k], [(0, .arr (.strs xs))] => (xs.length <= 1048577 /\ 0 <= k /\ k <= 1000000, .int .i64 (k + xs.length), [(0, .arr (.strs (upT k xs.length)))])
  | _, _ => (False, .undef, [])
theorem g_markStrs_eq (xs : List ByteArray) (k : Int) : g_markStrs [.sl 0, .int .i64 k] [(0, .arr (.strs xs))] = (xs.length <= 1048577 /\ 0 <= k /\ k <= 1000000, .int .i64 (k + xs.length), [(0, .arr (.strs (upT k xs.length)))]) := (rfl)
theorem markStrs_ok (xs : List ByteArray) (k : Int) (hp : xs.length <= 1048577 /\ 0 <= k /\ k <= 1000000) : SpecM Tryd.prog 21 [.sl 0, .int .i64 k] [(0, .arr (.strs xs))] 1 (.int .i64 (k + xs.length)) [(0, .arr (.strs (upT k xs.length)))] := by
  refine fun_okM (C := t_markText) (hint := hintX [] [] 1 [] [] [] []) (t_markText_ok) mixed Tryd.func21 rfl (by kernel_rfl) rfl (Nat.le_refl _) (upTo_look rfl) (shapes ?_) ?_
  · exact ⟨fun k' h => by cases h; exact ss_strs (upT_len _ _).symm, trivial⟩
  show codeA _ _ _ _ _ _ _ _
  simp only [go_sem, Tryd.results21]
  obtain ⟨hx, hk⟩ := hp
  have hl := upT_len k xs.length
  refine loop_intro (fun j : Nat => [(1, .int .i64 (k + j)), (5, .int .i64 j), (0, .sl 0)]) (fun j => [(0, .arr (.strs (over (upT k xs.length) xs j)))]) 1 (fun j => j <= xs.length) (fun j => xs.length - j) 0 (Nat.zero_le _) (Nat.le_refl _) ?_ ?_
  · simp only [go_sem]
    repeat' (first | refine fork_intro (fun hb => ?_) (fun hb => ?_) | refine partB_intro (fun hb => ?_) (fun hb => ?_) | refine And.intro ?_ ?_)
    all_goals first | trivial | rfl | omega | simp [over_zero]
  · intro j hj
    have hol := over_len (upT k xs.length) xs hl.symm hj
    simp only [go_sem]
    refine fork_intro (fun hb => ?_) (fun hb => ?_)
    · have hfs := over_set (upT k xs.length) xs hl.symm (show j < xs.length by omega)
      rw [upT_ix k xs.length j (by omega)] at hfs
      refine ⟨by omega, by omega, by omega, by omega, ?_⟩
      refine LoopEnd.intro (j + 1) ?_ ?_ (Nat.le_refl _) ?_ <;> (try omega)
      simp only [go_sem, hfs]
      repeat' (first | refine fork_intro (fun hb => ?_) (fun hb => ?_) | refine partB_intro (fun hb => ?_) (fun hb => ?_) | refine And.intro ?_ ?_)
      all_goals first | trivial | rfl | omega | (congr 1; omega)
    · rw [show j = xs.length by omega, over_end _ _ hl.symm]
      repeat' (first | refine fork_intro (fun hb => ?_) (fun hb => ?_) | refine partB_intro (fun hb => ?_) (fun hb => ?_) | refine And.intro ?_ ?_)
      all_goals first | trivial | rfl
def t_markStrs : Table := [(21, mutC 1 g_markStrs)]
theorem t_markStrs_ok : TabOK Tryd.prog t_markStrs := .cons Tryd.func21 (by kernel_rfl) (.mut (by intro args pre _ hp; unfold g_markStrs at hp ⊢; split at hp <;> first | exact hp.elim | exact markStrs_ok _ _ hp)) (.nil _)
attribute [go_sem] g_markStrs_eq t_markStrs
def splOk (s t : ByteArray) : Bool := decide (t.size = 1 /\ s.size <= 4000)
def splR (s t : ByteArray) : List ByteArray := bif splOk s t then splL s (byteAt t 0) else []
theorem splOk_t {s t : ByteArray} (h : t.size = 1 /\ s.size <= 4000) : splOk s t = true /\ splR s t = splL s (byteAt t 0) := by
  have e : splOk s t = true := decide_eq_true h
  exact ⟨e, by unfold splR; rw [e]; rfl⟩
theorem splOk_f {s t : ByteArray} (h : ¬ (t.size = 1 /\ s.size <= 4000)) : splOk s t = false /\ splR s t = [] := by
  have e : splOk s t = false := decide_eq_false h
  exact ⟨e, by unfold splR; rw [e]; rfl⟩
def g_splitterS : List AV -> Prop × AV
  | [.str s, .str t] => (s.size <= 1048576 /\ t.size <= 1048576, .tup [.strs (splR s t), .bool (splOk s t)])
  | _ => (False, .undef)
theorem g_splitterS_eq (s t : ByteArray) : g_splitterS [.str s, .str t] = (s.size <= 1048576 /\ t.size <= 1048576, .tup [.strs (splR s t), .bool (splOk s t)]) := (rfl)
theorem splitterS_ok (s t : ByteArray) (hp : s.size <= 1048576 /\ t.size <= 1048576) : SpecOK Tryd.prog 18 [.str s, .str t] (.tup [.strs (splR s t), .bool (splOk s t)]) [] := by
  refine fun_ok (C := t_splitS) (hint := hintX [] [] 0 [] [] [] []) (t_splitS_ok) mixed Tryd.func18 rfl (by kernel_rfl) rfl ?_
  show codeA _ _ _ _ _ _ _ _
  simp only [go_sem, Tryd.results18]
  by_cases h : t.size = 1 /\ s.size <= 4000
  · obtain ⟨e1, e2⟩ := splOk_t h
    rw [e1, e2]
    have hb := (byteAt t 0).toNat_lt
    repeat' (first | refine fork_intro (fun hb => ?_) (fun hb => ?_) | refine partB_intro (fun hb => ?_) (fun hb => ?_) | refine And.intro ?_ ?_)
    all_goals first | trivial | rfl | omega | rw [UInt8.ofNat_toNat] | done
  · obtain ⟨e1, e2⟩ := splOk_f h
    rw [e1, e2]
    repeat' (first | refine fork_intro (fun hb => ?_) (fun hb => ?_) | refine partB_intro (fun hb => ?_) (fun hb => ?_) | refine And.intro ?_ ?_)
    all_goals first | trivial | rfl | omega | done
def t_splitterS : Table := [(18, pureC g_splitterS)]
theorem t_splitterS_ok : TabOK Tryd.prog t_splitterS := .cons Tryd.func18 (by kernel_rfl) (.pure (by intro args hp; unfold g_splitterS at hp ⊢; split at hp <;> first | exact hp.elim | exact splitterS_ok _ _ hp)) (.nil _)
attribute [go_sem] g_splitterS_eq t_splitterS
def g_splitterI : List AV -> Prop × AV × Heap
  | [.str s, .str t] => (s.size <= 1048576 /\ t.size <= 1048576, .tup [.sl 0, .bool (splOk s t)], [(0, .arr (.strs (splR s t)))])
  | _ => (False, .undef, [])
theorem g_splitterI_eq (s t : ByteArray) : g_splitterI [.str s, .str t] = (s.size <= 1048576 /\ t.size <= 1048576, .tup [.sl 0, .bool (splOk s t)], [(0, .arr (.strs (splR s t)))]) := (rfl)
theorem splitterI_ok (s t : ByteArray) (hp : s.size <= 1048576 /\ t.size <= 1048576) : SpecOK Tryd.prog 19 [.str s, .str t] (.tup [.sl 0, .bool (splOk s t)]) [(0, .arr (.strs (splR s t)))] := by
  refine fun_ok (C := t_splitC) (hint := hintX [16] [(2, [.post, .up 4 (.arr (.strs []))])] 0 [] [] [] []) (t_splitC_ok) mixed Tryd.func19 rfl (by kernel_rfl) rfl ?_
  show codeA _ _ _ _ _ _ _ _
  simp only [go_sem, Tryd.results19]
  by_cases h : t.size = 1 /\ s.size <= 4000
  · obtain ⟨e1, e2⟩ := splOk_t h
    rw [e1, e2]
    repeat' (first | refine fork_intro (fun hb => ?_) (fun hb => ?_) | refine partB_intro (fun hb => ?_) (fun hb => ?_) | refine And.intro ?_ ?_)
    all_goals first | trivial | rfl | omega | done
  · obtain ⟨e1, e2⟩ := splOk_f h
    rw [e1, e2]
    repeat' (first | refine fork_intro (fun hb => ?_) (fun hb => ?_) | refine partB_intro (fun hb => ?_) (fun hb => ?_) | refine And.intro ?_ ?_)
    all_goals first | trivial | rfl | omega | done
def t_splitterI : Table := [(19, ownC g_splitterI)]
theorem t_splitterI_ok : TabOK Tryd.prog t_splitterI := .cons Tryd.func19 (by kernel_rfl) (.own (by intro args hp; unfold g_splitterI at hp ⊢; split at hp <;> first | exact hp.elim | exact ⟨splitterI_ok _ _ hp, rfl⟩)) (.nil _)
attribute [go_sem] g_splitterI_eq t_splitterI
end Go.Proofs.YtjnongegddnobaaDoor
