/- The least total of all sets, and of sets of needed sites alone. -/
import Derived.Test.YteefjdbdknkcjaaGreatA24
import Derived.Test.YteefjdbdknkcjaaGreatA10
import Derived.Test.YteefjdbdknkcjaaGreatPlW
import Derived.Test.YteefjdbdknkcjaaGreatPlD
namespace Go.Proofs.YteefjdbdknkcjaaGreat
open Go.Vc
set_option maxRecDepth 100000
set_option linter.unusedSimpArgs false
set_option linter.unusedVariables false

theorem bestT_le (v : List Int -> Int) (xss : List (List Int)) : ∀ k : Nat, v (bestT v xss k) <= v (ix xss 0) /\ ∀ q : Nat, q < k -> v (bestT v xss k) <= v (ix xss (q : Int))
  | 0 => ⟨Int.le_refl _, fun q hq => by omega⟩
  | k + 1 => by
    obtain ⟨h1, h2⟩ := bestT_le v xss k
    unfold bestT
    by_cases e : v (ix xss (k : Int)) < v (bestT v xss k)
    · rw [if_pos e]
      refine ⟨by omega, fun q hq => ?_⟩
      rcases Nat.lt_succ_iff_lt_or_eq.1 hq with hl | rfl
      · have := h2 q hl; omega
      · exact Int.le_refl _
    · rw [if_neg e]
      refine ⟨h1, fun q hq => ?_⟩
      rcases Nat.lt_succ_iff_lt_or_eq.1 hq with hl | rfl
      · exact h2 q hl
      · omega
/-- A set: rising, of the first n numbers, not empty. -/
structure SetOK (n : Nat) (set : List Int) : Prop where
  up : Up set
  pos : 0 < set.length
  bd : ∀ x ∈ set, 0 <= x /\ x < n
theorem SetOK.len {n : Nat} (hn : n <= 7) {set : List Int} (h : SetOK n set) : set.length <= 64 := by
  have := bagL_bag h.up h.bd (by omega)
  rw [<- this]
  exact sel_len _ _
theorem SetOK.open {o : List Int} {d : List (List Int)} (hf : FieldOK o d) {set : List Int} (h : SetOK o.length set) : OpenOK o d set :=
  ⟨hf, h.pos, by have := h.len hf.n7; omega, fun k hk => h.bd _ (ix_mem set hk)⟩
theorem SetOK.opened {o : List Int} {d : List (List Int)} (hf : FieldOK o d) {set : List Int} (h : SetOK o.length set) : Go.Vc.opened o d set = true := by
  have := h.pos
  unfold Go.Vc.opened
  simp only [Bool.and_eq_true, decide_eq_true_eq]
  exact ⟨good_iff.2 hf, up_ris h.up (fun x hx => by have := h.bd x hx; omega), by omega⟩
theorem opened_set {o : List Int} {d : List (List Int)} {set : List Int} (h : Go.Vc.opened o d set = true) : FieldOK o d /\ SetOK o.length set := by
  simp only [Go.Vc.opened, Bool.and_eq_true, decide_eq_true_eq] at h
  refine ⟨good_iff.1 h.1, ris_up h.2.1, by omega, fun x hx => ?_⟩
  obtain ⟨k, hk, rfl⟩ := mem_ix hx
  have := ris_mem h.2.1 hk
  omega
theorem SetOK.bag {n : Nat} (hn : n <= 7) {set : List Int} (h : SetOK n set) : bagL (Go.Vc.bag set) = set /\ 0 < Go.Vc.bag set /\ Go.Vc.bag set < 2 ^ n := by
  have e := bagL_bag h.up h.bd (by omega)
  refine ⟨e, Nat.pos_of_ne_zero (fun h0 => ?_), bagF_lt set 0 (Nat.two_pow_pos n) h.bd⟩
  rw [h0] at e
  have h1 : bagL 0 = [] := by
    apply List.eq_nil_iff_forall_not_mem.2
    intro x hx
    obtain ⟨k, _, h2, _⟩ := mem_sel.1 hx
    simp at h2
  have := h.pos
  rw [<- e, h1] at this
  simp at this
theorem bagL_set {n b : Nat} (hn : n <= 7) (h0 : 0 < b) (h1 : b < 2 ^ n) : SetOK n (bagL b) := by
  have hp := pow_7 n hn
  refine ⟨up_sel _ _, bag_pos b (by omega) h0, fun x hx => ?_⟩
  obtain ⟨h2, h3⟩ := (mem_bagL (n := n) h1 (by omega)).1 hx
  have := bit_lt h1 h3
  omega
theorem setsL_all {n : Nat} (hn : n <= 7) {set : List Int} (h : SetOK n set) : set ∈ setsL n := by
  obtain ⟨e, h0, h1⟩ := h.bag hn
  refine (sortS_perm (allL n)).mem_iff.2 (mem_tab.2 ⟨Go.Vc.bag set - 1, by omega, ?_⟩)
  rw [show Go.Vc.bag set - 1 + 1 = Go.Vc.bag set by omega]; exact e
theorem setsL_set {n : Nat} (hn : n <= 7) {set : List Int} (hm : set ∈ setsL n) : SetOK n set := by
  have hp := pow_7 n hn
  obtain ⟨c, hc, rfl⟩ := mem_tab.1 ((sortS_perm (allL n)).mem_iff.1 hm)
  exact bagL_set hn (by omega) (by omega)
section
variable {o : List Int} {d : List (List Int)}
theorem bestL_set (hf : FieldOK o d) : SetOK o.length (bestL o d) := by
  have h1 := setsL_len o.length
  have h2 := pow_ge2 o.length hf.n1
  exact setsL_set hf.n7 (bestT_mem _ (by omega) _ (Nat.le_refl _))
theorem best_le (hf : FieldOK o d) {set : List Int} (h : SetOK o.length set) : total o d (bestL o d) <= total o d set := by
  obtain ⟨k, hk, e⟩ := List.mem_iff_getElem.1 (setsL_all hf.n7 h)
  have e2 := ix_some (setsL o.length) hk
  rw [List.getElem?_eq_getElem hk, e] at e2
  rw [Option.some.inj e2]
  exact (bestT_le (total o d) (setsL o.length) (setsL o.length).length).2 k hk

/-! sites that stand for others -/
def domB (o : List Int) (d : List (List Int)) (a b : Int) : Prop := ix o b <= ix o a /\ ∀ i : Nat, i < d.length -> ix (ix d (i : Int)) b <= ix (ix d (i : Int)) a
def costA (o : List Int) (d : List (List Int)) (a : Int) : Int := (ix o a + sumN (fun i => ix (ix d (i : Int)) a) d.length) * 8 + a
def needA (o : List Int) (d : List (List Int)) (a : Nat) : Bool := allN (needB o d a) o.length
theorem costA_nn (hf : FieldOK o d) {a : Int} (h0 : 0 <= a) (h1 : a < o.length) : 0 <= costA o d a := by
  have h2 := hf.o_ix h0 h1
  have h3 := sumN_nn (f := fun i => ix (ix d (i : Int)) a) (n := d.length) (fun i hi => (hf.d_ix (by omega) (by omega) h0 h1).1)
  unfold costA; omega
theorem repl_dom (hf : FieldOK o d) {a b : Int} (ha : 0 <= a /\ a < o.length) (hb : 0 <= b /\ b < o.length) (h : replB o d a b = true) : domB o d a b /\ costA o d b < costA o d a := by
  have hn := hf.n7
  unfold replB at h
  simp only [Bool.and_eq_true, decide_eq_true_eq, Bool.or_eq_true, Bool.not_eq_true'] at h
  obtain ⟨h1, h2, h3⟩ := h
  have h4 : ∀ i : Nat, i < d.length -> ix (ix d (i : Int)) b <= ix (ix d (i : Int)) a := fun i hi => of_decide_eq_true (allN_iff.1 h1 i hi)
  refine ⟨⟨h2, h4⟩, ?_⟩
  have h5 := sumN_mono (f := fun i => ix (ix d (i : Int)) b) (g := fun i => ix (ix d (i : Int)) a) (n := d.length) h4
  unfold costA
  rcases h3 with h3 | h3
  · by_cases e : ix o b < ix o a
    · omega
    · have h6 : sumN (fun i => ix (ix d (i : Int)) b) d.length ≠ sumN (fun i => ix (ix d (i : Int)) a) d.length := fun e6 => by
        have h7 := (sumN_zero_iff (f := fun i => ix (ix d (i : Int)) a - ix (ix d (i : Int)) b) (n := d.length) (fun i hi => by have := h4 i hi; omega)).1 (by rw [sumN_sub]; omega)
        have h8 : sameB o d a b d.length = true := by
          unfold sameB
          rw [Bool.and_eq_true, allN_iff]
          exact ⟨decide_eq_true (by omega), fun i hi => decide_eq_true (by have := h7 i hi; omega)⟩
        rw [h8] at h3; cases h3
      omega
  · omega
/-- Each site is as good as a needed one at most. -/
theorem dom_needed (hf : FieldOK o d) : ∀ (k : Nat) (a : Nat), a < o.length -> costA o d (a : Int) <= k -> ∃ b : Nat, b < o.length /\ needA o d b = true /\ domB o d (a : Int) (b : Int)
  | k, a, ha, hk => by
    by_cases e : needA o d a = true
    · exact ⟨a, ha, e, Int.le_refl _, fun i _ => Int.le_refl _⟩
    · obtain ⟨b, hb, hr⟩ : ∃ b : Nat, b < o.length /\ replB o d (a : Int) (b : Int) = true := by
        refine Classical.byContradiction (fun hno => e (allN_t (fun b hb => ?_)))
        unfold needB
        cases hr : replB o d (a : Int) (b : Int) with
        | true => exact (hno ⟨b, hb, hr⟩).elim
        | false => simp
      obtain ⟨h1, h2⟩ := repl_dom hf (a := (a : Int)) (b := (b : Int)) (by omega) (by omega) hr
      have h3 := costA_nn hf (a := (b : Int)) (by omega) (by omega)
      obtain ⟨k', rfl⟩ : ∃ k', k = k' + 1 := ⟨k - 1, by omega⟩
      obtain ⟨c, hc, h4, h5⟩ := dom_needed hf k' b hb (by omega)
      exact ⟨c, hc, h4, by have := h1.1; have := h5.1; omega, fun i hi => by have := h1.2 i hi; have := h5.2 i hi; omega⟩
theorem mem_needed {x : Int} : x ∈ neededL o d ↔ ∃ k : Nat, k < o.length /\ needA o d k = true /\ (k : Int) = x := mem_sel
theorem swap_total (hf : FieldOK o d) {set : List Int} (h : SetOK o.length set) {a b : Int} (ha : a ∈ set) (hb : 0 <= b /\ b < o.length) (hd : domB o d a b) : SetOK o.length (swapL set a b) /\ total o d (swapL set a b) <= total o d set := by
  have hs : SetOK o.length (swapL set a b) := ⟨up_swap h.up a b, List.length_pos_of_mem (mem_swap.2 (.inl rfl)), fun x hx => by
    rcases mem_swap.1 hx with rfl | ⟨hx, _⟩
    · exact hb
    · exact h.bd x hx⟩
  refine ⟨hs, ?_⟩
  have h1 : svc d (swapL set a b) <= svc d set := sumN_mono (fun i hi => near_mono h.pos (fun x hx => by
    by_cases e : x = a
    · subst e; exact ⟨b, mem_swap.2 (.inl rfl), hd.2 i hi⟩
    · exact ⟨x, mem_swap.2 (.inr ⟨hx, e⟩), Int.le_refl _⟩))
  have h2 : pay o (swapL set a b) <= pay o set := by
    have e1 := sumL_without (f := fun a => ix o a) h.up ha
    have h3 := hf.o_ix (a := a) (h.bd a ha).1 (h.bd a ha).2
    have h4 := hd.1
    rw [pay_sumL, pay_sumL]
    unfold swapL
    by_cases e : b ∈ without set a
    · rw [put_id (up_without h.up a) e]; omega
    · rw [sumL_put e]; omega
  unfold total
  omega
theorem without_lt {xs : List Int} {a : Int} (h : a ∈ xs) : (without xs a).length < xs.length := by
  unfold without
  rw [List.length_filter_lt_length_iff_exists]
  exact ⟨a, h, by simp⟩
theorem best_needed (hf : FieldOK o d) : ∀ (k : Nat) (set : List Int), SetOK o.length set -> (set.filter fun x => !needA o d x.toNat).length <= k ->
    ∃ t, SetOK o.length t /\ total o d t <= total o d set /\ ∀ x ∈ t, x ∈ neededL o d
  | k, set, h, hk => by
    by_cases e : ∀ x ∈ set, needA o d x.toNat = true
    · refine ⟨set, h, Int.le_refl _, fun x hx => mem_needed.2 ⟨x.toNat, by have := h.bd x hx; omega, e x hx, by have := h.bd x hx; omega⟩⟩
    · obtain ⟨a, ha, hna⟩ : ∃ a ∈ set, needA o d a.toNat = false := by
        refine Classical.byContradiction (fun hno => e (fun x hx => ?_))
        cases hx2 : needA o d x.toNat with
        | true => rfl
        | false => exact (hno ⟨x, hx, hx2⟩).elim
      have hab := h.bd a ha
      have hca := costA_nn hf hab.1 hab.2
      have ea : ((a.toNat : Nat) : Int) = a := by omega
      obtain ⟨b, hb, h1, h2⟩ := dom_needed hf (costA o d a).toNat a.toNat (by omega) (by rw [ea]; omega)
      rw [ea] at h2
      obtain ⟨h3, h4⟩ := swap_total hf h ha (b := (b : Int)) (by omega) h2
      have e2 : (swapL set a (b : Int)).filter (fun x => !needA o d x.toNat) = without (set.filter fun x => !needA o d x.toNat) a := by
        refine up_ext (List.Pairwise.filter _ h3.up) (up_without (List.Pairwise.filter _ h.up) a) (fun x => ?_)
        rw [List.mem_filter, mem_swap, mem_without, List.mem_filter]
        constructor
        · rintro ⟨rfl | ⟨h5, h6⟩, h7⟩
          · rw [show ((b : Int)).toNat = b by omega, h1] at h7; cases h7
          · exact ⟨⟨h5, h7⟩, h6⟩
        · rintro ⟨⟨h5, h7⟩, h6⟩
          exact ⟨.inr ⟨h5, h6⟩, h7⟩
      have h5 := without_lt (xs := set.filter fun x => !needA o d x.toNat) (List.mem_filter.2 ⟨ha, by rw [hna]; rfl⟩)
      rw [<- e2] at h5
      obtain ⟨k', rfl⟩ : ∃ k', k = k' + 1 := ⟨k - 1, by omega⟩
      obtain ⟨t, t1, t2, t3⟩ := best_needed hf k' (swapL set a (b : Int)) h3 (by omega)
      exact ⟨t, t1, by omega, t3⟩
/-- A number whose bits are a best set of needed sites. -/
theorem met_ex (hf : FieldOK o d) : ∃ b : Nat, 0 < b /\ b < 2 ^ o.length /\ total o d (bagL b) = total o d (bestL o d) /\ ∀ x ∈ bagL b, x ∈ neededL o d := by
  obtain ⟨t, h1, h2, h3⟩ := best_needed hf _ (bestL o d) (bestL_set hf) (Nat.le_refl _)
  obtain ⟨e, h4, h5⟩ := h1.bag hf.n7
  have h6 := best_le hf h1
  exact ⟨Go.Vc.bag t, h4, h5, by rw [e]; omega, by rw [e]; exact h3⟩
/-- A swap and back. -/
theorem swap_back {set : List Int} (hu : Up set) {a b : Int} (ha : a ∈ set) (hb : b ∉ set) : swapL (swapL set a b) b a = set := by
  refine up_ext (up_swap (up_swap hu a b) b a) hu (fun x => ?_)
  rw [mem_swap, mem_swap]
  constructor
  · rintro (rfl | ⟨h1 | h1, h2⟩)
    · exact ha
    · exact (h2 h1).elim
    · exact h1.1
  · intro hx
    by_cases e : x = a
    · exact .inl e
    · exact .inr ⟨.inr ⟨hx, e⟩, fun e2 => hb (e2 ▸ hx)⟩
end
end Go.Proofs.YteefjdbdknkcjaaGreat
