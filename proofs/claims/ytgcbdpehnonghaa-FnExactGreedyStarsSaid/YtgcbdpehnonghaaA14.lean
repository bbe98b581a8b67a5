/- RestCosts, ClosedSites: both packages say the same. -/
import Derived.Test.YtgcbdpehnonghaaA7
import Derived.Test.YtgcbdpehnonghaaA9
namespace Go.Proofs.Ytgcbdpehnonghaa
open Go.Vc
set_option maxRecDepth 100000
set_option linter.unusedSimpArgs false
set_option linter.unusedVariables false

def fairOK (o : List Int) (d : List (List Int)) (ps : List Int) : Bool := pricesOK o d ps && fairB o d ps
theorem fairOK_iff {o : List Int} {d : List (List Int)} {ps : List Int} (h : fairOK o d ps = true) : PricesOK o d ps := by
  simp only [fairOK, Bool.and_eq_true] at h
  exact pricesOK_iff h.1
def sumP (o : List Int) (d : List (List Int)) (ps : List Int) : Prop := ps.length <= 1000000 /\ ∀ x ∈ ps, -1000000000 <= x /\ x <= 1000000000
theorem prices_sum {o : List Int} {d : List (List Int)} {ps : List Int} (h : PricesOK o d ps) : (ps.length <= 1000000 /\ ∀ x ∈ ps, -1000000000 <= x /\ x <= 1000000000) /\ 0 <= ps.sum /\ ps.sum <= 3500 := by
  have hm := h.f.m7
  have hl := h.len
  refine ⟨⟨by omega, fun x hx => ?_⟩, ?_⟩
  · obtain ⟨k, hk, rfl⟩ := mem_ix hx
    have := h.p0 k hk; omega
  · have e : ps.sum = sumN (fun k => ix ps (k : Int)) ps.length := by rw [<- sum_tab, tab_of]
    have := sumN_bd (f := fun k => ix ps (k : Int)) (lo := 0) (hi := 500) (n := ps.length) (fun i hi => h.p0 i hi)
    omega
def closedOK (o : List Int) (d : List (List Int)) (ps : List Int) (v : Int) : Bool := fairOK o d ps && decide (0 <= v /\ v <= 1400)
def closedL (o : List Int) (d : List (List Int)) (ps : List Int) (v : Int) : List Int := sel (fun a => decide (v < ps.sum + (ix o (a : Int) - clm d ps 1 (a : Int)))) o.length

end Go.Proofs.Ytgcbdpehnonghaa
