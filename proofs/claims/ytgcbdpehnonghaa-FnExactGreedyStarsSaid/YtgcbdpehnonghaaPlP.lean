/- Growth in plain lists: bounds. -/
import Derived.Test.YtgcbdpehnonghaaPlO
namespace Go.Vc
set_option linter.unusedSimpArgs false
set_option linter.unusedVariables false
set_option linter.unusedSectionVars false

theorem over_same {α : Type} [Inhabited α] {ys xs : List α} {k : Nat} (hl : xs.length = ys.length) (h : k < xs.length) (e : ix ys (k : Int) = ix xs (k : Int)) : over ys xs (k + 1) = over ys xs k := by
  unfold over
  rw [List.take_add_one, ix_some ys (by omega), e, List.append_assoc, drop_ix xs h]; rfl
theorem IsMn.le {x b : Int} {P : Int -> Prop} (h : IsMn x P) (hb : -1 <= b) (hP : ∀ c, P c -> c <= b) : x <= b := by
  rcases h with ⟨rfl, _⟩ | ⟨_, h1, _⟩
  · exact hb
  · exact hP _ h1
theorem IsMn.ge {x : Int} {P : Int -> Prop} (h : IsMn x P) : -1 <= x := by
  rcases h with ⟨rfl, _⟩ | ⟨h1, _, _⟩ <;> omega
theorem mul7 {sp : Nat} {y : Int} (h : sp <= 7) (h1 : -1000000 <= y) (h2 : y <= 1000000) : -7000000 <= (sp : Int) * y /\ (sp : Int) * y <= 7000000 := by
  rcases (by omega : sp = 0 \/ sp = 1 \/ sp = 2 \/ sp = 3 \/ sp = 4 \/ sp = 5 \/ sp = 6 \/ sp = 7) with rfl | rfl | rfl | rfl | rfl | rfl | rfl | rfl <;> omega
theorem gsp7 {d : List (List Int)} (h : d.length <= 7) (t : St) (a : Nat) : gsp d t a <= 7 := Nat.le_trans (cN_le _ _) h
theorem gcl_bd {o : List Int} {d : List (List Int)} {s : St} (h : GInv o d s) {a : Nat} (ha : a < o.length) : 0 <= gcl d s a /\ gcl d s a <= 7000000 := by
  refine ⟨h.gcl0 a, ?_⟩
  have hm := h.f.m7
  have := sumN_bd (f := clmT d (gpr d s) 2520 (a : Int)) (lo := 0) (hi := 1000000) (n := (gpr d s).length) (fun j hj => by
    have h1 := clmT_nn d (gpr d s) 2520 (a : Int) j
    have h2 := h.clm.p0 j hj
    rw [gpr_len] at hj
    have h3 := h.ent hj ha
    refine ⟨h1, ?_⟩
    unfold clmT; omega)
  rw [gpr_len] at this
  have e : gcl d s a = sumN (clmT d (gpr d s) 2520 (a : Int)) (gpr d s).length := rfl
  rw [e, gpr_len]
  omega
theorem GInv.cand_bd {o : List Int} {d : List (List Int)} {s : St} (h : GInv o d s) {k : Nat} (hk : k <= o.length) {c : Int} (hc : candA o d (gsett o d s) k c) : c <= 748440 := by
  have hn := h.n0
  rcases hc with ⟨j, hj, a, ha, _, _, rfl⟩ | ⟨a, ha, ht, hs, rfl⟩
  · have := h.ent hj ha; omega
  · obtain ⟨q, e1, e2, e3, _⟩ := h.quo (by omega) ht hs
    rw [e2]
    have h1 := h.opn (a := a) (by omega)
    have h2 := h.gcl0 a
    have h3 := gcl_gsett (o := o) (d := d) (s := s) a
    have e4 : grest o d (gsett o d s) a = 2520 * ix o (a : Int) - gcl d (gsett o d s) a := rfl
    have h5 := Int.mul_le_mul_of_nonneg_right (show (1 : Int) <= (gsp d (gsett o d s) a : Nat) by omega) (show 0 <= q by omega)
    show s.now + q <= 748440
    omega

end Go.Vc
