/- Growth as the reference keeps it: what has stopped, witnesses. -/
import Derived.Test.YtgcbdpehnonghaaPlN
namespace Go.Vc
set_option linter.unusedSimpArgs false
set_option linter.unusedVariables false
def stB (w : List Int) : List Bool := w.map fun x => decide (0 <= x)
def stW (w : List Int) : List Int := w.map fun x => max 0 x
def unW (bs : List Bool) (wt : List Int) : List Int := tab bs.length fun j => if ix bs (j : Int) = true then ix wt (j : Int) else -1
theorem stB_len (w : List Int) : (stB w).length = w.length := List.length_map _
theorem stW_len (w : List Int) : (stW w).length = w.length := List.length_map _
theorem stB_ix {w : List Int} {j : Nat} (h : j < w.length) : ix (stB w) (j : Int) = decide (0 <= ix w (j : Int)) := ix_map _ _ h
theorem stW_ix {w : List Int} {j : Nat} (h : j < w.length) : ix (stW w) (j : Int) = max 0 (ix w (j : Int)) := ix_map _ _ h
theorem unW_st {w : List Int} (h : ∀ j, j < w.length -> -1 <= ix w (j : Int)) : unW (stB w) (stW w) = w := by
  refine (tab_eq (n := (stB w).length) (by rw [stB_len]) (fun k hk => ?_)).symm
  rw [stB_len] at hk
  rw [stB_ix hk, stW_ix hk]
  have := h k hk
  by_cases h0 : 0 <= ix w (k : Int)
  · simp [h0]; omega
  · simp [h0]; omega
section
variable {o : List Int} {d : List (List Int)} {s : St}
theorem GInv.un (h : GInv o d s) : St.mk s.now s.p (unW (stB s.w) (stW s.w)) s.t = s := by
  rw [unW_st (fun j hj => (h.ws j (by rw [h.lw] at hj; exact hj)).1)]
theorem GInv.un2 (h : GInv o d s) : St.mk (gsett o d s).now (gsett o d s).p (unW (stB (gsett o d s).w) (stW (gsett o d s).w)) (gsett o d s).t = gsett o d s := by
  rw [unW_st (fun j hj => (h.sw (by rw [show (gsett o d s).w.length = d.length from tab_len _ _] at hj; exact hj)).1)]
/-- The prices at the time, as the reference reckons them. -/
theorem gpr_view {t : St} (hp : t.p.length = d.length) (hw : t.w.length = d.length) : (tab t.p.length fun j => if ix (stB t.w) (j : Int) = true then ix t.p (j : Int) else t.now) = gpr d t := by
  rw [hp]
  refine tab_congr (fun j hj => ?_)
  rw [stB_ix (by omega)]
  by_cases h : ix t.w (j : Int) < 0
  · rw [if_pos h, if_neg (by simp; omega)]
  · rw [if_neg h, if_pos (by simp; omega)]
theorem gsp_view {t : St} (hw : t.w.length = d.length) (a : Nat) : cN (fun j => !(ix (stB t.w) (j : Int)) && decide (2520 * ix (ix d (j : Int)) (a : Int) <= t.now)) d.length = gsp d t a := by
  have cN_congr : ∀ {f g : Nat -> Bool} {n : Nat}, (∀ j, j < n -> f j = g j) -> cN f n = cN g n := fun {f g} => by
    intro n
    induction n with
    | zero => intro _; rfl
    | succ n ih => intro h; simp only [cN]; rw [ih (fun j hj => h j (by omega)), h n (by omega)]
  refine cN_congr (fun j hj => ?_)
  rw [stB_ix (by omega)]
  unfold gspB
  by_cases h : ix t.w (j : Int) < 0
  · have : ¬ 0 <= ix t.w (j : Int) := by omega
    simp [h, this]
  · have : 0 <= ix t.w (j : Int) := by omega
    simp [h, this]
end
def brkP (o : List Int) (d : List (List Int)) (now : Int) (bs : List Bool) (j : Nat) (c : Int) : Prop := ∃ j', j' < j /\ ∃ a : Nat, a < o.length /\ ix bs (j' : Int) = false /\ now < c /\ c = 2520 * ix (ix d (j' : Int)) (a : Int)
def brkL (o : List Int) (d : List (List Int)) (now : Int) (bs : List Bool) : List Int :=
  (List.range d.length).flatMap fun (j : Nat) => (List.range o.length).filterMap fun (a : Nat) => if ix bs (j : Int) = false /\ now < 2520 * ix (ix d (j : Int)) (a : Int) then some (2520 * ix (ix d (j : Int)) (a : Int)) else none
theorem brkL_mem (o : List Int) (d : List (List Int)) (now : Int) (bs : List Bool) (c : Int) : c ∈ brkL o d now bs ↔ brkP o d now bs d.length c := by
  unfold brkL brkP
  constructor
  · intro h
    obtain ⟨j, hj, h⟩ := List.mem_flatMap.1 h
    obtain ⟨a, ha, h⟩ := List.mem_filterMap.1 h
    split at h
    · rename_i hc; cases h; exact ⟨j, List.mem_range.1 hj, a, List.mem_range.1 ha, hc.1, hc.2, rfl⟩
    · cases h
  · rintro ⟨j, hj, a, ha, h1, h2, rfl⟩
    exact List.mem_flatMap.2 ⟨j, List.mem_range.2 hj, List.mem_filterMap.2 ⟨a, List.mem_range.2 ha, by rw [if_pos ⟨h1, h2⟩]⟩⟩
theorem brk_is (o : List Int) (d : List (List Int)) {now : Int} (bs : List Bool) (h : 0 <= now) : IsMn (mn (brkL o d now bs) (-1)) (brkP o d now bs d.length) := by
  have := mn_is (brkL o d now bs) (-1) _ IsMn.none (fun c hc => by obtain ⟨_, _, _, _, _, h1, _⟩ := (brkL_mem o d now bs c).1 hc; omega)
  exact this.congr (fun c => by rw [brkL_mem]; simp)
theorem brk_cand {o : List Int} {d : List (List Int)} {t : St} (hw : t.w.length = d.length) (c : Int) : brkP o d t.now (stB t.w) d.length c ↔ cand1 o d t c := by
  unfold brkP cand1
  refine exists_congr fun j => and_congr_right fun hj => exists_congr fun a => and_congr_right fun _ => and_congr_left fun _ => ?_
  rw [stB_ix (by omega)]; simp
/-- The candidates among the first sites. -/
def candA (o : List Int) (d : List (List Int)) (t : St) (k : Nat) (c : Int) : Prop := cand1 o d t c \/ ∃ a, a < k /\ ix t.t (a : Int) < 0 /\ 0 < gsp d t a /\ c = t.now + (grest o d t a).tdiv (gsp d t a)
theorem candA_all (o : List Int) (d : List (List Int)) (t : St) (c : Int) : candA o d t o.length c ↔ cand1 o d t c \/ cand2 o d t c := Iff.rfl
theorem candA_zero (o : List Int) (d : List (List Int)) (t : St) (c : Int) : candA o d t 0 c ↔ cand1 o d t c := by unfold candA; simp
theorem candA_no {o : List Int} {d : List (List Int)} {t : St} {k : Nat} (h : ¬ (ix t.t (k : Int) < 0 /\ 0 < gsp d t k)) (c : Int) : candA o d t k c ↔ candA o d t (k + 1) c := by
  unfold candA
  refine or_congr Iff.rfl ⟨fun ⟨a, ha, h1⟩ => ⟨a, by omega, h1⟩, fun ⟨a, ha, h1⟩ => ?_⟩
  by_cases e : a = k
  · subst e; exact (h ⟨h1.1, h1.2.1⟩).elim
  · exact ⟨a, by omega, h1⟩
theorem candA_yes {o : List Int} {d : List (List Int)} {t : St} {k : Nat} (h : ix t.t (k : Int) < 0 /\ 0 < gsp d t k) (c : Int) : candA o d t (k + 1) c ↔ candA o d t k c \/ c = t.now + (grest o d t k).tdiv (gsp d t k) := by
  unfold candA
  constructor
  · rintro (h1 | ⟨a, ha, h1⟩)
    · exact .inl (.inl h1)
    · by_cases e : a = k
      · subst e; exact .inr h1.2.2
      · exact .inl (.inr ⟨a, by omega, h1⟩)
  · rintro ((h1 | ⟨a, ha, h1⟩) | h1)
    · exact .inl h1
    · exact .inr ⟨a, by omega, h1⟩
    · exact .inr ⟨k, by omega, h.1, h.2, h1⟩
end Go.Vc
