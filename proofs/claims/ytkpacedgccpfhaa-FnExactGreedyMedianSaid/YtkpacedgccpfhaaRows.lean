/-
  No cell of these rows narrows 'for every input' (looked for: loops, veiled, ifaces, maps, wideKeys, modest, calm, conditions, laid).
  DERIVED. THE GIVEN ROWS OF THIS SEAT. 12 by the template 'for every input the law returns true; each argument reads behind the call as it read before'; 0 by the template 'total and deterministic' (their statements: YtkpacedgccpfhaaTotals.lean).
  GIVEN WITH THE SEED: the statements are not yours to turn. If you find one false, say at which input.
  Laid BY PROGRAM, IN A SANDBOX (cutbox-rows.mjs): the forced cells as the released guide's own fill.sh prints them over the translation fde906d2b8c58775… (all of the seat's roots in one cut). By AI agents, Wed Nov 11 2026. No macro, syntax, notation, axiom, sorry.
-/
import Derived.Test.YtkpacedgccpfhaaChecked
import GoSem.Claim
import GoSem.ClaimJoined
import GoSem.ClaimMapViews
import Derived.JoinedTies
import Derived.KernelRfl
namespace Go.Proofs.Ytkpacedgccpfhaa
/- THE CELL 'sum', in the pinned program and in every row, IS THE sha256 OF THE DUMP (.gsa) THAT YtkpacedgccpfhaaProg.lean LOADS. Nothing in Lean hashes anything: it is a label: what it is worth is what the hold of that sum in a sandbox is worth. -/
noncomputable def Try.pinned : Pinned := { name := "ytkpacedgccpfhaa", sum := "fde906d2b8c58775ac3776dabfab540c6cdbcc278bcde70e8756ee18fab22d58", checked := Try.checked }
namespace Rows
def none {H : Type} : Left H := { results := [], args := [] }

/-- 'laws.FnExactRestCosts': WHATEVER THE INPUT: true; the input reads as it did. -/
def fnExactRestCostsSpec : ChangeSpec := { name := "fnExactRestCosts", fn := fun _ => fun
  | [d1, d2] => { results := [.lit (.bool true)], args := [d1, d2] }
  | _ => none }
def fnExactRestCostsRow : OpenClaim := { program := "ytkpacedgccpfhaa", sum := "fde906d2b8c58775ac3776dabfab540c6cdbcc278bcde70e8756ee18fab22d58", func := "loop.example/g01110/laws.FnExactRestCosts", spec := "fnExactRestCosts", unfollowed := true, recurses := true, apart := false }
def FnExactRestCostsSaid : Prop := fnExactRestCostsRow.holds Try.pinned (OpenSpec.ofChange fnExactRestCostsSpec)

/-- ITS FALSE NEIGHBOUR: 'it returns false'. Refute it at one input. -/
def fnExactRestCostsWrong : ChangeSpec := { name := "fnExactRestCosts", fn := fun _ => fun
  | [d1, d2] => { results := [.lit (.bool false)], args := [d1, d2] }
  | _ => none }
def FnExactRestCostsWrongFalsely : Prop := fnExactRestCostsRow.holds Try.pinned (OpenSpec.ofChange fnExactRestCostsWrong)

/-- 'laws.FnExactIdleSites': WHATEVER THE INPUT: true; the input reads as it did. -/
def fnExactIdleSitesSpec : ChangeSpec := { name := "fnExactIdleSites", fn := fun _ => fun
  | [d1, d2] => { results := [.lit (.bool true)], args := [d1, d2] }
  | _ => none }
def fnExactIdleSitesRow : OpenClaim := { program := "ytkpacedgccpfhaa", sum := "fde906d2b8c58775ac3776dabfab540c6cdbcc278bcde70e8756ee18fab22d58", func := "loop.example/g01110/laws.FnExactIdleSites", spec := "fnExactIdleSites", unfollowed := true, recurses := true, apart := false }
def FnExactIdleSitesSaid : Prop := fnExactIdleSitesRow.holds Try.pinned (OpenSpec.ofChange fnExactIdleSitesSpec)

/-- ITS FALSE NEIGHBOUR: 'it returns false'. Refute it at one input. -/
def fnExactIdleSitesWrong : ChangeSpec := { name := "fnExactIdleSites", fn := fun _ => fun
  | [d1, d2] => { results := [.lit (.bool false)], args := [d1, d2] }
  | _ => none }
def FnExactIdleSitesWrongFalsely : Prop := fnExactIdleSitesRow.holds Try.pinned (OpenSpec.ofChange fnExactIdleSitesWrong)

/-- 'laws.FnExactClientsOf': WHATEVER THE INPUT: true; the input reads as it did. -/
def fnExactClientsOfSpec : ChangeSpec := { name := "fnExactClientsOf", fn := fun _ => fun
  | [d1, d2] => { results := [.lit (.bool true)], args := [d1, d2] }
  | _ => none }
def fnExactClientsOfRow : OpenClaim := { program := "ytkpacedgccpfhaa", sum := "fde906d2b8c58775ac3776dabfab540c6cdbcc278bcde70e8756ee18fab22d58", func := "loop.example/g01110/laws.FnExactClientsOf", spec := "fnExactClientsOf", unfollowed := true, recurses := true, apart := false }
def FnExactClientsOfSaid : Prop := fnExactClientsOfRow.holds Try.pinned (OpenSpec.ofChange fnExactClientsOfSpec)

/-- ITS FALSE NEIGHBOUR: 'it returns false'. Refute it at one input. -/
def fnExactClientsOfWrong : ChangeSpec := { name := "fnExactClientsOf", fn := fun _ => fun
  | [d1, d2] => { results := [.lit (.bool false)], args := [d1, d2] }
  | _ => none }
def FnExactClientsOfWrongFalsely : Prop := fnExactClientsOfRow.holds Try.pinned (OpenSpec.ofChange fnExactClientsOfWrong)

/-- 'laws.FnExactSwapSites': WHATEVER THE INPUT: true; the input reads as it did. -/
def fnExactSwapSitesSpec : ChangeSpec := { name := "fnExactSwapSites", fn := fun _ => fun
  | [d1, d2, d3, d4] => { results := [.lit (.bool true)], args := [d1, d2, d3, d4] }
  | _ => none }
def fnExactSwapSitesRow : OpenClaim := { program := "ytkpacedgccpfhaa", sum := "fde906d2b8c58775ac3776dabfab540c6cdbcc278bcde70e8756ee18fab22d58", func := "loop.example/g01110/laws.FnExactSwapSites", spec := "fnExactSwapSites", unfollowed := true, recurses := true, apart := false }
def FnExactSwapSitesSaid : Prop := fnExactSwapSitesRow.holds Try.pinned (OpenSpec.ofChange fnExactSwapSitesSpec)

/-- ITS FALSE NEIGHBOUR: 'it returns false'. Refute it at one input. -/
def fnExactSwapSitesWrong : ChangeSpec := { name := "fnExactSwapSites", fn := fun _ => fun
  | [d1, d2, d3, d4] => { results := [.lit (.bool false)], args := [d1, d2, d3, d4] }
  | _ => none }
def FnExactSwapSitesWrongFalsely : Prop := fnExactSwapSitesRow.holds Try.pinned (OpenSpec.ofChange fnExactSwapSitesWrong)

/-- 'laws.FnExactClosePath': WHATEVER THE INPUT: true; the input reads as it did. -/
def fnExactClosePathSpec : ChangeSpec := { name := "fnExactClosePath", fn := fun _ => fun
  | [d] => { results := [.lit (.bool true)], args := [d] }
  | _ => none }
def fnExactClosePathRow : OpenClaim := { program := "ytkpacedgccpfhaa", sum := "fde906d2b8c58775ac3776dabfab540c6cdbcc278bcde70e8756ee18fab22d58", func := "loop.example/g01110/laws.FnExactClosePath", spec := "fnExactClosePath", unfollowed := true, recurses := true, apart := false }
def FnExactClosePathSaid : Prop := fnExactClosePathRow.holds Try.pinned (OpenSpec.ofChange fnExactClosePathSpec)

/-- ITS FALSE NEIGHBOUR: 'it returns false'. Refute it at one input. -/
def fnExactClosePathWrong : ChangeSpec := { name := "fnExactClosePath", fn := fun _ => fun
  | [d] => { results := [.lit (.bool false)], args := [d] }
  | _ => none }
def FnExactClosePathWrongFalsely : Prop := fnExactClosePathRow.holds Try.pinned (OpenSpec.ofChange fnExactClosePathWrong)

/-- 'laws.FnExactAscentPrices': WHATEVER THE INPUT: true; the input reads as it did. -/
def fnExactAscentPricesSpec : ChangeSpec := { name := "fnExactAscentPrices", fn := fun _ => fun
  | [d] => { results := [.lit (.bool true)], args := [d] }
  | _ => none }
def fnExactAscentPricesRow : OpenClaim := { program := "ytkpacedgccpfhaa", sum := "fde906d2b8c58775ac3776dabfab540c6cdbcc278bcde70e8756ee18fab22d58", func := "loop.example/g01110/laws.FnExactAscentPrices", spec := "fnExactAscentPrices", unfollowed := true, recurses := true, apart := false }
def FnExactAscentPricesSaid : Prop := fnExactAscentPricesRow.holds Try.pinned (OpenSpec.ofChange fnExactAscentPricesSpec)

/-- ITS FALSE NEIGHBOUR: 'it returns false'. Refute it at one input. -/
def fnExactAscentPricesWrong : ChangeSpec := { name := "fnExactAscentPrices", fn := fun _ => fun
  | [d] => { results := [.lit (.bool false)], args := [d] }
  | _ => none }
def FnExactAscentPricesWrongFalsely : Prop := fnExactAscentPricesRow.holds Try.pinned (OpenSpec.ofChange fnExactAscentPricesWrong)

/-- 'laws.FnExactGreedyMedian': WHATEVER THE INPUT: true; the input reads as it did. -/
def fnExactGreedyMedianSpec : ChangeSpec := { name := "fnExactGreedyMedian", fn := fun _ => fun
  | [d1, d2] => { results := [.lit (.bool true)], args := [d1, d2] }
  | _ => none }
def fnExactGreedyMedianRow : OpenClaim := { program := "ytkpacedgccpfhaa", sum := "fde906d2b8c58775ac3776dabfab540c6cdbcc278bcde70e8756ee18fab22d58", func := "loop.example/g01110/laws.FnExactGreedyMedian", spec := "fnExactGreedyMedian", unfollowed := true, recurses := true, apart := false }
def FnExactGreedyMedianSaid : Prop := fnExactGreedyMedianRow.holds Try.pinned (OpenSpec.ofChange fnExactGreedyMedianSpec)

/-- ITS FALSE NEIGHBOUR: 'it returns false'. Refute it at one input. -/
def fnExactGreedyMedianWrong : ChangeSpec := { name := "fnExactGreedyMedian", fn := fun _ => fun
  | [d1, d2] => { results := [.lit (.bool false)], args := [d1, d2] }
  | _ => none }
def FnExactGreedyMedianWrongFalsely : Prop := fnExactGreedyMedianRow.holds Try.pinned (OpenSpec.ofChange fnExactGreedyMedianWrong)

/-- 'laws.FnExactClosedSites': WHATEVER THE INPUT: true; the input reads as it did. -/
def fnExactClosedSitesSpec : ChangeSpec := { name := "fnExactClosedSites", fn := fun _ => fun
  | [d1, d2, d3] => { results := [.lit (.bool true)], args := [d1, d2, d3] }
  | _ => none }
def fnExactClosedSitesRow : OpenClaim := { program := "ytkpacedgccpfhaa", sum := "fde906d2b8c58775ac3776dabfab540c6cdbcc278bcde70e8756ee18fab22d58", func := "loop.example/g01110/laws.FnExactClosedSites", spec := "fnExactClosedSites", unfollowed := true, recurses := true, apart := false }
def FnExactClosedSitesSaid : Prop := fnExactClosedSitesRow.holds Try.pinned (OpenSpec.ofChange fnExactClosedSitesSpec)

/-- ITS FALSE NEIGHBOUR: 'it returns false'. Refute it at one input. -/
def fnExactClosedSitesWrong : ChangeSpec := { name := "fnExactClosedSites", fn := fun _ => fun
  | [d1, d2, d3] => { results := [.lit (.bool false)], args := [d1, d2, d3] }
  | _ => none }
def FnExactClosedSitesWrongFalsely : Prop := fnExactClosedSitesRow.holds Try.pinned (OpenSpec.ofChange fnExactClosedSitesWrong)

/-- 'laws.FnExactSwapGain': WHATEVER THE INPUT: true; the input reads as it did. -/
def fnExactSwapGainSpec : ChangeSpec := { name := "fnExactSwapGain", fn := fun _ => fun
  | [d1, d2, d3, d4] => { results := [.lit (.bool true)], args := [d1, d2, d3, d4] }
  | _ => none }
def fnExactSwapGainRow : OpenClaim := { program := "ytkpacedgccpfhaa", sum := "fde906d2b8c58775ac3776dabfab540c6cdbcc278bcde70e8756ee18fab22d58", func := "loop.example/g01110/laws.FnExactSwapGain", spec := "fnExactSwapGain", unfollowed := true, recurses := true, apart := false }
def FnExactSwapGainSaid : Prop := fnExactSwapGainRow.holds Try.pinned (OpenSpec.ofChange fnExactSwapGainSpec)

/-- ITS FALSE NEIGHBOUR: 'it returns false'. Refute it at one input. -/
def fnExactSwapGainWrong : ChangeSpec := { name := "fnExactSwapGain", fn := fun _ => fun
  | [d1, d2, d3, d4] => { results := [.lit (.bool false)], args := [d1, d2, d3, d4] }
  | _ => none }
def FnExactSwapGainWrongFalsely : Prop := fnExactSwapGainRow.holds Try.pinned (OpenSpec.ofChange fnExactSwapGainWrong)

/-- 'laws.FnExactPricesMeet': WHATEVER THE INPUT: true; the input reads as it did. -/
def fnExactPricesMeetSpec : ChangeSpec := { name := "fnExactPricesMeet", fn := fun _ => fun
  | [d1, d2, d3] => { results := [.lit (.bool true)], args := [d1, d2, d3] }
  | _ => none }
def fnExactPricesMeetRow : OpenClaim := { program := "ytkpacedgccpfhaa", sum := "fde906d2b8c58775ac3776dabfab540c6cdbcc278bcde70e8756ee18fab22d58", func := "loop.example/g01110/laws.FnExactPricesMeet", spec := "fnExactPricesMeet", unfollowed := true, recurses := true, apart := false }
def FnExactPricesMeetSaid : Prop := fnExactPricesMeetRow.holds Try.pinned (OpenSpec.ofChange fnExactPricesMeetSpec)

/-- ITS FALSE NEIGHBOUR: 'it returns false'. Refute it at one input. -/
def fnExactPricesMeetWrong : ChangeSpec := { name := "fnExactPricesMeet", fn := fun _ => fun
  | [d1, d2, d3] => { results := [.lit (.bool false)], args := [d1, d2, d3] }
  | _ => none }
def FnExactPricesMeetWrongFalsely : Prop := fnExactPricesMeetRow.holds Try.pinned (OpenSpec.ofChange fnExactPricesMeetWrong)

/-- 'laws.FnExactBestSwap': WHATEVER THE INPUT: true; the input reads as it did. -/
def fnExactBestSwapSpec : ChangeSpec := { name := "fnExactBestSwap", fn := fun _ => fun
  | [d1, d2] => { results := [.lit (.bool true)], args := [d1, d2] }
  | _ => none }
def fnExactBestSwapRow : OpenClaim := { program := "ytkpacedgccpfhaa", sum := "fde906d2b8c58775ac3776dabfab540c6cdbcc278bcde70e8756ee18fab22d58", func := "loop.example/g01110/laws.FnExactBestSwap", spec := "fnExactBestSwap", unfollowed := true, recurses := true, apart := false }
def FnExactBestSwapSaid : Prop := fnExactBestSwapRow.holds Try.pinned (OpenSpec.ofChange fnExactBestSwapSpec)

/-- ITS FALSE NEIGHBOUR: 'it returns false'. Refute it at one input. -/
def fnExactBestSwapWrong : ChangeSpec := { name := "fnExactBestSwap", fn := fun _ => fun
  | [d1, d2] => { results := [.lit (.bool false)], args := [d1, d2] }
  | _ => none }
def FnExactBestSwapWrongFalsely : Prop := fnExactBestSwapRow.holds Try.pinned (OpenSpec.ofChange fnExactBestSwapWrong)

/-- 'laws.FnExactIsSwapLocal': WHATEVER THE INPUT: true; the input reads as it did. -/
def fnExactIsSwapLocalSpec : ChangeSpec := { name := "fnExactIsSwapLocal", fn := fun _ => fun
  | [d1, d2] => { results := [.lit (.bool true)], args := [d1, d2] }
  | _ => none }
def fnExactIsSwapLocalRow : OpenClaim := { program := "ytkpacedgccpfhaa", sum := "fde906d2b8c58775ac3776dabfab540c6cdbcc278bcde70e8756ee18fab22d58", func := "loop.example/g01110/laws.FnExactIsSwapLocal", spec := "fnExactIsSwapLocal", unfollowed := true, recurses := true, apart := false }
def FnExactIsSwapLocalSaid : Prop := fnExactIsSwapLocalRow.holds Try.pinned (OpenSpec.ofChange fnExactIsSwapLocalSpec)

/-- ITS FALSE NEIGHBOUR: 'it returns false'. Refute it at one input. -/
def fnExactIsSwapLocalWrong : ChangeSpec := { name := "fnExactIsSwapLocal", fn := fun _ => fun
  | [d1, d2] => { results := [.lit (.bool false)], args := [d1, d2] }
  | _ => none }
def FnExactIsSwapLocalWrongFalsely : Prop := fnExactIsSwapLocalRow.holds Try.pinned (OpenSpec.ofChange fnExactIsSwapLocalWrong)

/- THE SECOND FORM. 'bulk': how many values and letters a reading holds, each counted each time it is reached (what is shared counts as often as it is met; a slice's spare places count too). A statement '..UptoSaid' is the law's where the arguments, and the package variables that the reading takes, are together of bulk at most 1048576: NARROWER than '..Said'. Prove '..Said' where nothing that the law and all that it calls make is longer than what came in: it says more and counts as full. Else prove '..UptoSaid'. A law counts once. -/
mutual
def uptoBulk {H : Type} : DataW H → Nat
  | .lit (.string bytes) => bytes.length + 1
  | .lit _ => 1
  | .nil => 1
  | .ptr d => uptoBulk d + 1
  | .slice elems spare => uptoBulkAll elems + uptoBulkAll spare + 1
  | .agg parts => uptoBulkAll parts + 1
  | .iface _ d => uptoBulk d + 1
  | .map entries => uptoBulkEntries entries + 1
  | .held _ => 1
def uptoBulkAll {H : Type} : List (DataW H) → Nat
  | [] => 0
  | d :: r => uptoBulk d + uptoBulkAll r
def uptoBulkEntries {H : Type} : List (Lit × DataW H) → Nat
  | [] => 0
  | x :: r => uptoBulkEntry x + uptoBulkEntries r
def uptoBulkEntry {H : Type} : Lit × DataW H → Nat
  | (.string bytes, d) => bytes.length + uptoBulk d + 1
  | (_, d) => uptoBulk d + 1
 end
def uptoSmall : (H : Type) → List (DataW H) → Bool := fun _ ds => decide (uptoBulkAll ds ≤ 1048576)
def OpenSpec.upto (s : _root_.Go.ChangeSpec) : _root_.Go.OpenSpec := { _root_.Go.OpenSpec.ofChange s with cond := some uptoSmall }

/-- 'laws.FnExactRestCosts', WHERE WHAT IT READS IS OF BULK AT MOST 1048576: true; the input reads as it did. -/
def fnExactRestCostsUptoRow : OpenClaim := { program := "ytkpacedgccpfhaa", sum := "fde906d2b8c58775ac3776dabfab540c6cdbcc278bcde70e8756ee18fab22d58", func := "loop.example/g01110/laws.FnExactRestCosts", spec := "fnExactRestCosts", unfollowed := true, recurses := true, apart := false, narrowed := true }
def FnExactRestCostsUptoSaid : Prop := fnExactRestCostsUptoRow.holds Try.pinned (OpenSpec.upto fnExactRestCostsSpec)

/-- 'laws.FnExactIdleSites', WHERE WHAT IT READS IS OF BULK AT MOST 1048576: true; the input reads as it did. -/
def fnExactIdleSitesUptoRow : OpenClaim := { program := "ytkpacedgccpfhaa", sum := "fde906d2b8c58775ac3776dabfab540c6cdbcc278bcde70e8756ee18fab22d58", func := "loop.example/g01110/laws.FnExactIdleSites", spec := "fnExactIdleSites", unfollowed := true, recurses := true, apart := false, narrowed := true }
def FnExactIdleSitesUptoSaid : Prop := fnExactIdleSitesUptoRow.holds Try.pinned (OpenSpec.upto fnExactIdleSitesSpec)

/-- 'laws.FnExactClientsOf', WHERE WHAT IT READS IS OF BULK AT MOST 1048576: true; the input reads as it did. -/
def fnExactClientsOfUptoRow : OpenClaim := { program := "ytkpacedgccpfhaa", sum := "fde906d2b8c58775ac3776dabfab540c6cdbcc278bcde70e8756ee18fab22d58", func := "loop.example/g01110/laws.FnExactClientsOf", spec := "fnExactClientsOf", unfollowed := true, recurses := true, apart := false, narrowed := true }
def FnExactClientsOfUptoSaid : Prop := fnExactClientsOfUptoRow.holds Try.pinned (OpenSpec.upto fnExactClientsOfSpec)

/-- 'laws.FnExactSwapSites', WHERE WHAT IT READS IS OF BULK AT MOST 1048576: true; the input reads as it did. -/
def fnExactSwapSitesUptoRow : OpenClaim := { program := "ytkpacedgccpfhaa", sum := "fde906d2b8c58775ac3776dabfab540c6cdbcc278bcde70e8756ee18fab22d58", func := "loop.example/g01110/laws.FnExactSwapSites", spec := "fnExactSwapSites", unfollowed := true, recurses := true, apart := false, narrowed := true }
def FnExactSwapSitesUptoSaid : Prop := fnExactSwapSitesUptoRow.holds Try.pinned (OpenSpec.upto fnExactSwapSitesSpec)

/-- 'laws.FnExactClosePath', WHERE WHAT IT READS IS OF BULK AT MOST 1048576: true; the input reads as it did. -/
def fnExactClosePathUptoRow : OpenClaim := { program := "ytkpacedgccpfhaa", sum := "fde906d2b8c58775ac3776dabfab540c6cdbcc278bcde70e8756ee18fab22d58", func := "loop.example/g01110/laws.FnExactClosePath", spec := "fnExactClosePath", unfollowed := true, recurses := true, apart := false, narrowed := true }
def FnExactClosePathUptoSaid : Prop := fnExactClosePathUptoRow.holds Try.pinned (OpenSpec.upto fnExactClosePathSpec)

/-- 'laws.FnExactAscentPrices', WHERE WHAT IT READS IS OF BULK AT MOST 1048576: true; the input reads as it did. -/
def fnExactAscentPricesUptoRow : OpenClaim := { program := "ytkpacedgccpfhaa", sum := "fde906d2b8c58775ac3776dabfab540c6cdbcc278bcde70e8756ee18fab22d58", func := "loop.example/g01110/laws.FnExactAscentPrices", spec := "fnExactAscentPrices", unfollowed := true, recurses := true, apart := false, narrowed := true }
def FnExactAscentPricesUptoSaid : Prop := fnExactAscentPricesUptoRow.holds Try.pinned (OpenSpec.upto fnExactAscentPricesSpec)

/-- 'laws.FnExactGreedyMedian', WHERE WHAT IT READS IS OF BULK AT MOST 1048576: true; the input reads as it did. -/
def fnExactGreedyMedianUptoRow : OpenClaim := { program := "ytkpacedgccpfhaa", sum := "fde906d2b8c58775ac3776dabfab540c6cdbcc278bcde70e8756ee18fab22d58", func := "loop.example/g01110/laws.FnExactGreedyMedian", spec := "fnExactGreedyMedian", unfollowed := true, recurses := true, apart := false, narrowed := true }
def FnExactGreedyMedianUptoSaid : Prop := fnExactGreedyMedianUptoRow.holds Try.pinned (OpenSpec.upto fnExactGreedyMedianSpec)

/-- 'laws.FnExactClosedSites', WHERE WHAT IT READS IS OF BULK AT MOST 1048576: true; the input reads as it did. -/
def fnExactClosedSitesUptoRow : OpenClaim := { program := "ytkpacedgccpfhaa", sum := "fde906d2b8c58775ac3776dabfab540c6cdbcc278bcde70e8756ee18fab22d58", func := "loop.example/g01110/laws.FnExactClosedSites", spec := "fnExactClosedSites", unfollowed := true, recurses := true, apart := false, narrowed := true }
def FnExactClosedSitesUptoSaid : Prop := fnExactClosedSitesUptoRow.holds Try.pinned (OpenSpec.upto fnExactClosedSitesSpec)

/-- 'laws.FnExactSwapGain', WHERE WHAT IT READS IS OF BULK AT MOST 1048576: true; the input reads as it did. -/
def fnExactSwapGainUptoRow : OpenClaim := { program := "ytkpacedgccpfhaa", sum := "fde906d2b8c58775ac3776dabfab540c6cdbcc278bcde70e8756ee18fab22d58", func := "loop.example/g01110/laws.FnExactSwapGain", spec := "fnExactSwapGain", unfollowed := true, recurses := true, apart := false, narrowed := true }
def FnExactSwapGainUptoSaid : Prop := fnExactSwapGainUptoRow.holds Try.pinned (OpenSpec.upto fnExactSwapGainSpec)

/-- 'laws.FnExactPricesMeet', WHERE WHAT IT READS IS OF BULK AT MOST 1048576: true; the input reads as it did. -/
def fnExactPricesMeetUptoRow : OpenClaim := { program := "ytkpacedgccpfhaa", sum := "fde906d2b8c58775ac3776dabfab540c6cdbcc278bcde70e8756ee18fab22d58", func := "loop.example/g01110/laws.FnExactPricesMeet", spec := "fnExactPricesMeet", unfollowed := true, recurses := true, apart := false, narrowed := true }
def FnExactPricesMeetUptoSaid : Prop := fnExactPricesMeetUptoRow.holds Try.pinned (OpenSpec.upto fnExactPricesMeetSpec)

/-- 'laws.FnExactBestSwap', WHERE WHAT IT READS IS OF BULK AT MOST 1048576: true; the input reads as it did. -/
def fnExactBestSwapUptoRow : OpenClaim := { program := "ytkpacedgccpfhaa", sum := "fde906d2b8c58775ac3776dabfab540c6cdbcc278bcde70e8756ee18fab22d58", func := "loop.example/g01110/laws.FnExactBestSwap", spec := "fnExactBestSwap", unfollowed := true, recurses := true, apart := false, narrowed := true }
def FnExactBestSwapUptoSaid : Prop := fnExactBestSwapUptoRow.holds Try.pinned (OpenSpec.upto fnExactBestSwapSpec)

/-- 'laws.FnExactIsSwapLocal', WHERE WHAT IT READS IS OF BULK AT MOST 1048576: true; the input reads as it did. -/
def fnExactIsSwapLocalUptoRow : OpenClaim := { program := "ytkpacedgccpfhaa", sum := "fde906d2b8c58775ac3776dabfab540c6cdbcc278bcde70e8756ee18fab22d58", func := "loop.example/g01110/laws.FnExactIsSwapLocal", spec := "fnExactIsSwapLocal", unfollowed := true, recurses := true, apart := false, narrowed := true }
def FnExactIsSwapLocalUptoSaid : Prop := fnExactIsSwapLocalUptoRow.holds Try.pinned (OpenSpec.upto fnExactIsSwapLocalSpec)

end Rows
end Go.Proofs.Ytkpacedgccpfhaa
