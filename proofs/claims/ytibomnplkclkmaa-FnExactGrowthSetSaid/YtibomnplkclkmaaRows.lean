/-
  No cell of these rows narrows 'for every input' (looked for: loops, veiled, ifaces, maps, wideKeys, modest, calm, conditions, laid).
  DERIVED. THE GIVEN ROWS OF THIS SEAT. 12 by the template 'for every input the law returns true; each argument reads behind the call as it read before'; 0 by the template 'total and deterministic' (their statements: YtibomnplkclkmaaTotals.lean).
  GIVEN WITH THE SEED: the statements are not yours to turn. If you find one false, say at which input.
  Laid BY PROGRAM, IN A SANDBOX (cutbox-rows.mjs): the forced cells as the released guide's own fill.sh prints them over the translation 73d724d83d7437fe… (all of the seat's roots in one cut). By AI agents, Wed Nov 11 2026. No macro, syntax, notation, axiom, sorry.
-/
import Derived.Test.YtibomnplkclkmaaChecked
import GoSem.Claim
import GoSem.ClaimJoined
import GoSem.ClaimMapViews
import Derived.JoinedTies
import Derived.KernelRfl
namespace Go.Proofs.Ytibomnplkclkmaa
/- THE CELL 'sum', in the pinned program and in every row, IS THE sha256 OF THE DUMP (.gsa) THAT YtibomnplkclkmaaProg.lean LOADS. Nothing in Lean hashes anything: it is a label: what it is worth is what the hold of that sum in a sandbox is worth. -/
noncomputable def Try.pinned : Pinned := { name := "ytibomnplkclkmaa", sum := "73d724d83d7437fea299165e6c456d4b49f12fe800feb0a4a84bfb325223fde0", checked := Try.checked }
namespace Rows
def none {H : Type} : Left H := { results := [], args := [] }

/-- 'laws.FnExactReverseMedian': WHATEVER THE INPUT: true; the input reads as it did. -/
def fnExactReverseMedianSpec : ChangeSpec := { name := "fnExactReverseMedian", fn := fun _ => fun
  | [d1, d2] => { results := [.lit (.bool true)], args := [d1, d2] }
  | _ => none }
def fnExactReverseMedianRow : OpenClaim := { program := "ytibomnplkclkmaa", sum := "73d724d83d7437fea299165e6c456d4b49f12fe800feb0a4a84bfb325223fde0", func := "loop.example/g01110/laws.FnExactReverseMedian", spec := "fnExactReverseMedian", unfollowed := true, recurses := true, apart := false }
def FnExactReverseMedianSaid : Prop := fnExactReverseMedianRow.holds Try.pinned (OpenSpec.ofChange fnExactReverseMedianSpec)

/-- ITS FALSE NEIGHBOUR: 'it returns false'. Refute it at one input. -/
def fnExactReverseMedianWrong : ChangeSpec := { name := "fnExactReverseMedian", fn := fun _ => fun
  | [d1, d2] => { results := [.lit (.bool false)], args := [d1, d2] }
  | _ => none }
def FnExactReverseMedianWrongFalsely : Prop := fnExactReverseMedianRow.holds Try.pinned (OpenSpec.ofChange fnExactReverseMedianWrong)

/-- 'laws.FnExactPriceGap': WHATEVER THE INPUT: true; the input reads as it did. -/
def fnExactPriceGapSpec : ChangeSpec := { name := "fnExactPriceGap", fn := fun _ => fun
  | [d1, d2, d3] => { results := [.lit (.bool true)], args := [d1, d2, d3] }
  | _ => none }
def fnExactPriceGapRow : OpenClaim := { program := "ytibomnplkclkmaa", sum := "73d724d83d7437fea299165e6c456d4b49f12fe800feb0a4a84bfb325223fde0", func := "loop.example/g01110/laws.FnExactPriceGap", spec := "fnExactPriceGap", unfollowed := true, recurses := true, apart := false }
def FnExactPriceGapSaid : Prop := fnExactPriceGapRow.holds Try.pinned (OpenSpec.ofChange fnExactPriceGapSpec)

/-- ITS FALSE NEIGHBOUR: 'it returns false'. Refute it at one input. -/
def fnExactPriceGapWrong : ChangeSpec := { name := "fnExactPriceGap", fn := fun _ => fun
  | [d1, d2, d3] => { results := [.lit (.bool false)], args := [d1, d2, d3] }
  | _ => none }
def FnExactPriceGapWrongFalsely : Prop := fnExactPriceGapRow.holds Try.pinned (OpenSpec.ofChange fnExactPriceGapWrong)

/-- 'laws.FnExactSwapMedian': WHATEVER THE INPUT: true; the input reads as it did. -/
def fnExactSwapMedianSpec : ChangeSpec := { name := "fnExactSwapMedian", fn := fun _ => fun
  | [d1, d2] => { results := [.lit (.bool true)], args := [d1, d2] }
  | _ => none }
def fnExactSwapMedianRow : OpenClaim := { program := "ytibomnplkclkmaa", sum := "73d724d83d7437fea299165e6c456d4b49f12fe800feb0a4a84bfb325223fde0", func := "loop.example/g01110/laws.FnExactSwapMedian", spec := "fnExactSwapMedian", unfollowed := true, recurses := true, apart := false }
def FnExactSwapMedianSaid : Prop := fnExactSwapMedianRow.holds Try.pinned (OpenSpec.ofChange fnExactSwapMedianSpec)

/-- ITS FALSE NEIGHBOUR: 'it returns false'. Refute it at one input. -/
def fnExactSwapMedianWrong : ChangeSpec := { name := "fnExactSwapMedian", fn := fun _ => fun
  | [d1, d2] => { results := [.lit (.bool false)], args := [d1, d2] }
  | _ => none }
def FnExactSwapMedianWrongFalsely : Prop := fnExactSwapMedianRow.holds Try.pinned (OpenSpec.ofChange fnExactSwapMedianWrong)

/-- 'laws.FnExactGrowthPrices': WHATEVER THE INPUT: true; the input reads as it did. -/
def fnExactGrowthPricesSpec : ChangeSpec := { name := "fnExactGrowthPrices", fn := fun _ => fun
  | [d] => { results := [.lit (.bool true)], args := [d] }
  | _ => none }
def fnExactGrowthPricesRow : OpenClaim := { program := "ytibomnplkclkmaa", sum := "73d724d83d7437fea299165e6c456d4b49f12fe800feb0a4a84bfb325223fde0", func := "loop.example/g01110/laws.FnExactGrowthPrices", spec := "fnExactGrowthPrices", unfollowed := true, recurses := true, apart := false }
def FnExactGrowthPricesSaid : Prop := fnExactGrowthPricesRow.holds Try.pinned (OpenSpec.ofChange fnExactGrowthPricesSpec)

/-- ITS FALSE NEIGHBOUR: 'it returns false'. Refute it at one input. -/
def fnExactGrowthPricesWrong : ChangeSpec := { name := "fnExactGrowthPrices", fn := fun _ => fun
  | [d] => { results := [.lit (.bool false)], args := [d] }
  | _ => none }
def FnExactGrowthPricesWrongFalsely : Prop := fnExactGrowthPricesRow.holds Try.pinned (OpenSpec.ofChange fnExactGrowthPricesWrong)

/-- 'laws.FnExactTightTimes': WHATEVER THE INPUT: true; the input reads as it did. -/
def fnExactTightTimesSpec : ChangeSpec := { name := "fnExactTightTimes", fn := fun _ => fun
  | [d] => { results := [.lit (.bool true)], args := [d] }
  | _ => none }
def fnExactTightTimesRow : OpenClaim := { program := "ytibomnplkclkmaa", sum := "73d724d83d7437fea299165e6c456d4b49f12fe800feb0a4a84bfb325223fde0", func := "loop.example/g01110/laws.FnExactTightTimes", spec := "fnExactTightTimes", unfollowed := true, recurses := true, apart := false }
def FnExactTightTimesSaid : Prop := fnExactTightTimesRow.holds Try.pinned (OpenSpec.ofChange fnExactTightTimesSpec)

/-- ITS FALSE NEIGHBOUR: 'it returns false'. Refute it at one input. -/
def fnExactTightTimesWrong : ChangeSpec := { name := "fnExactTightTimes", fn := fun _ => fun
  | [d] => { results := [.lit (.bool false)], args := [d] }
  | _ => none }
def FnExactTightTimesWrongFalsely : Prop := fnExactTightTimesRow.holds Try.pinned (OpenSpec.ofChange fnExactTightTimesWrong)

/-- 'laws.FnExactWitnessesOf': WHATEVER THE INPUT: true; the input reads as it did. -/
def fnExactWitnessesOfSpec : ChangeSpec := { name := "fnExactWitnessesOf", fn := fun _ => fun
  | [d] => { results := [.lit (.bool true)], args := [d] }
  | _ => none }
def fnExactWitnessesOfRow : OpenClaim := { program := "ytibomnplkclkmaa", sum := "73d724d83d7437fea299165e6c456d4b49f12fe800feb0a4a84bfb325223fde0", func := "loop.example/g01110/laws.FnExactWitnessesOf", spec := "fnExactWitnessesOf", unfollowed := true, recurses := true, apart := false }
def FnExactWitnessesOfSaid : Prop := fnExactWitnessesOfRow.holds Try.pinned (OpenSpec.ofChange fnExactWitnessesOfSpec)

/-- ITS FALSE NEIGHBOUR: 'it returns false'. Refute it at one input. -/
def fnExactWitnessesOfWrong : ChangeSpec := { name := "fnExactWitnessesOf", fn := fun _ => fun
  | [d] => { results := [.lit (.bool false)], args := [d] }
  | _ => none }
def FnExactWitnessesOfWrongFalsely : Prop := fnExactWitnessesOfRow.holds Try.pinned (OpenSpec.ofChange fnExactWitnessesOfWrong)

/-- 'laws.FnExactConflictsOf': WHATEVER THE INPUT: true; the input reads as it did. -/
def fnExactConflictsOfSpec : ChangeSpec := { name := "fnExactConflictsOf", fn := fun _ => fun
  | [d] => { results := [.lit (.bool true)], args := [d] }
  | _ => none }
def fnExactConflictsOfRow : OpenClaim := { program := "ytibomnplkclkmaa", sum := "73d724d83d7437fea299165e6c456d4b49f12fe800feb0a4a84bfb325223fde0", func := "loop.example/g01110/laws.FnExactConflictsOf", spec := "fnExactConflictsOf", unfollowed := true, recurses := true, apart := false }
def FnExactConflictsOfSaid : Prop := fnExactConflictsOfRow.holds Try.pinned (OpenSpec.ofChange fnExactConflictsOfSpec)

/-- ITS FALSE NEIGHBOUR: 'it returns false'. Refute it at one input. -/
def fnExactConflictsOfWrong : ChangeSpec := { name := "fnExactConflictsOf", fn := fun _ => fun
  | [d] => { results := [.lit (.bool false)], args := [d] }
  | _ => none }
def FnExactConflictsOfWrongFalsely : Prop := fnExactConflictsOfRow.holds Try.pinned (OpenSpec.ofChange fnExactConflictsOfWrong)

/-- 'laws.FnExactGreedyStars': WHATEVER THE INPUT: true; the input reads as it did. -/
def fnExactGreedyStarsSpec : ChangeSpec := { name := "fnExactGreedyStars", fn := fun _ => fun
  | [d] => { results := [.lit (.bool true)], args := [d] }
  | _ => none }
def fnExactGreedyStarsRow : OpenClaim := { program := "ytibomnplkclkmaa", sum := "73d724d83d7437fea299165e6c456d4b49f12fe800feb0a4a84bfb325223fde0", func := "loop.example/g01110/laws.FnExactGreedyStars", spec := "fnExactGreedyStars", unfollowed := true, recurses := true, apart := false }
def FnExactGreedyStarsSaid : Prop := fnExactGreedyStarsRow.holds Try.pinned (OpenSpec.ofChange fnExactGreedyStarsSpec)

/-- ITS FALSE NEIGHBOUR: 'it returns false'. Refute it at one input. -/
def fnExactGreedyStarsWrong : ChangeSpec := { name := "fnExactGreedyStars", fn := fun _ => fun
  | [d] => { results := [.lit (.bool false)], args := [d] }
  | _ => none }
def FnExactGreedyStarsWrongFalsely : Prop := fnExactGreedyStarsRow.holds Try.pinned (OpenSpec.ofChange fnExactGreedyStarsWrong)

/-- 'laws.FnExactLineMedian': WHATEVER THE INPUT: true; the input reads as it did. -/
def fnExactLineMedianSpec : ChangeSpec := { name := "fnExactLineMedian", fn := fun _ => fun
  | [d1, d2, d3] => { results := [.lit (.bool true)], args := [d1, d2, d3] }
  | _ => none }
def fnExactLineMedianRow : OpenClaim := { program := "ytibomnplkclkmaa", sum := "73d724d83d7437fea299165e6c456d4b49f12fe800feb0a4a84bfb325223fde0", func := "loop.example/g01110/laws.FnExactLineMedian", spec := "fnExactLineMedian", unfollowed := true, recurses := true, apart := false }
def FnExactLineMedianSaid : Prop := fnExactLineMedianRow.holds Try.pinned (OpenSpec.ofChange fnExactLineMedianSpec)

/-- ITS FALSE NEIGHBOUR: 'it returns false'. Refute it at one input. -/
def fnExactLineMedianWrong : ChangeSpec := { name := "fnExactLineMedian", fn := fun _ => fun
  | [d1, d2, d3] => { results := [.lit (.bool false)], args := [d1, d2, d3] }
  | _ => none }
def FnExactLineMedianWrongFalsely : Prop := fnExactLineMedianRow.holds Try.pinned (OpenSpec.ofChange fnExactLineMedianWrong)

/-- 'laws.FnExactBestTotal': WHATEVER THE INPUT: true; the input reads as it did. -/
def fnExactBestTotalSpec : ChangeSpec := { name := "fnExactBestTotal", fn := fun _ => fun
  | [d] => { results := [.lit (.bool true)], args := [d] }
  | _ => none }
def fnExactBestTotalRow : OpenClaim := { program := "ytibomnplkclkmaa", sum := "73d724d83d7437fea299165e6c456d4b49f12fe800feb0a4a84bfb325223fde0", func := "loop.example/g01110/laws.FnExactBestTotal", spec := "fnExactBestTotal", unfollowed := true, recurses := true, apart := false }
def FnExactBestTotalSaid : Prop := fnExactBestTotalRow.holds Try.pinned (OpenSpec.ofChange fnExactBestTotalSpec)

/-- ITS FALSE NEIGHBOUR: 'it returns false'. Refute it at one input. -/
def fnExactBestTotalWrong : ChangeSpec := { name := "fnExactBestTotal", fn := fun _ => fun
  | [d] => { results := [.lit (.bool false)], args := [d] }
  | _ => none }
def FnExactBestTotalWrongFalsely : Prop := fnExactBestTotalRow.holds Try.pinned (OpenSpec.ofChange fnExactBestTotalWrong)

/-- 'laws.FnExactBestSet': WHATEVER THE INPUT: true; the input reads as it did. -/
def fnExactBestSetSpec : ChangeSpec := { name := "fnExactBestSet", fn := fun _ => fun
  | [d] => { results := [.lit (.bool true)], args := [d] }
  | _ => none }
def fnExactBestSetRow : OpenClaim := { program := "ytibomnplkclkmaa", sum := "73d724d83d7437fea299165e6c456d4b49f12fe800feb0a4a84bfb325223fde0", func := "loop.example/g01110/laws.FnExactBestSet", spec := "fnExactBestSet", unfollowed := true, recurses := true, apart := false }
def FnExactBestSetSaid : Prop := fnExactBestSetRow.holds Try.pinned (OpenSpec.ofChange fnExactBestSetSpec)

/-- ITS FALSE NEIGHBOUR: 'it returns false'. Refute it at one input. -/
def fnExactBestSetWrong : ChangeSpec := { name := "fnExactBestSet", fn := fun _ => fun
  | [d] => { results := [.lit (.bool false)], args := [d] }
  | _ => none }
def FnExactBestSetWrongFalsely : Prop := fnExactBestSetRow.holds Try.pinned (OpenSpec.ofChange fnExactBestSetWrong)

/-- 'laws.FnExactGrowthSet': WHATEVER THE INPUT: true; the input reads as it did. -/
def fnExactGrowthSetSpec : ChangeSpec := { name := "fnExactGrowthSet", fn := fun _ => fun
  | [d] => { results := [.lit (.bool true)], args := [d] }
  | _ => none }
def fnExactGrowthSetRow : OpenClaim := { program := "ytibomnplkclkmaa", sum := "73d724d83d7437fea299165e6c456d4b49f12fe800feb0a4a84bfb325223fde0", func := "loop.example/g01110/laws.FnExactGrowthSet", spec := "fnExactGrowthSet", unfollowed := true, recurses := true, apart := false }
def FnExactGrowthSetSaid : Prop := fnExactGrowthSetRow.holds Try.pinned (OpenSpec.ofChange fnExactGrowthSetSpec)

/-- ITS FALSE NEIGHBOUR: 'it returns false'. Refute it at one input. -/
def fnExactGrowthSetWrong : ChangeSpec := { name := "fnExactGrowthSet", fn := fun _ => fun
  | [d] => { results := [.lit (.bool false)], args := [d] }
  | _ => none }
def FnExactGrowthSetWrongFalsely : Prop := fnExactGrowthSetRow.holds Try.pinned (OpenSpec.ofChange fnExactGrowthSetWrong)

/- THE SECOND FORM. 'bulk': how many values and letters a reading holds, each counted each time it is reached (what is shared counts as often as it is met; a slice's spare places count too). A statement '..UptoSaid' is the law's where the arguments, and the package variables that the reading takes, are together of bulk at most 1048576: NARROWER than '..Said'. Prove '..Said' where nothing that the law and all that it calls make is longer than what came in: it says more and counts as full. Else prove '..UptoSaid'. A law counts once. -/
mutual
def uptoBulk {H : Type} : DataW H → Nat
  | .lit (.string bytes) => bytes.length + 1
  | .lit _ => 1
  | .nil => 1
  | .ptr d => uptoBulk d + 1
  | .slice elems spare => uptoBulkAll elems + uptoBulkAll spare + 1
  | .agg parts => uptoBulkAll parts + 1
  | .iface _ d => uptoBulk d + 1
  | .map entries => uptoBulkEntries entries + 1
  | .held _ => 1
def uptoBulkAll {H : Type} : List (DataW H) → Nat
  | [] => 0
  | d :: r => uptoBulk d + uptoBulkAll r
def uptoBulkEntries {H : Type} : List (Lit × DataW H) → Nat
  | [] => 0
  | x :: r => uptoBulkEntry x + uptoBulkEntries r
def uptoBulkEntry {H : Type} : Lit × DataW H → Nat
  | (.string bytes, d) => bytes.length + uptoBulk d + 1
  | (_, d) => uptoBulk d + 1
 end
def uptoSmall : (H : Type) → List (DataW H) → Bool := fun _ ds => decide (uptoBulkAll ds ≤ 1048576)
def OpenSpec.upto (s : _root_.Go.ChangeSpec) : _root_.Go.OpenSpec := { _root_.Go.OpenSpec.ofChange s with cond := some uptoSmall }

/-- 'laws.FnExactReverseMedian', WHERE WHAT IT READS IS OF BULK AT MOST 1048576: true; the input reads as it did. -/
def fnExactReverseMedianUptoRow : OpenClaim := { program := "ytibomnplkclkmaa", sum := "73d724d83d7437fea299165e6c456d4b49f12fe800feb0a4a84bfb325223fde0", func := "loop.example/g01110/laws.FnExactReverseMedian", spec := "fnExactReverseMedian", unfollowed := true, recurses := true, apart := false, narrowed := true }
def FnExactReverseMedianUptoSaid : Prop := fnExactReverseMedianUptoRow.holds Try.pinned (OpenSpec.upto fnExactReverseMedianSpec)

/-- 'laws.FnExactPriceGap', WHERE WHAT IT READS IS OF BULK AT MOST 1048576: true; the input reads as it did. -/
def fnExactPriceGapUptoRow : OpenClaim := { program := "ytibomnplkclkmaa", sum := "73d724d83d7437fea299165e6c456d4b49f12fe800feb0a4a84bfb325223fde0", func := "loop.example/g01110/laws.FnExactPriceGap", spec := "fnExactPriceGap", unfollowed := true, recurses := true, apart := false, narrowed := true }
def FnExactPriceGapUptoSaid : Prop := fnExactPriceGapUptoRow.holds Try.pinned (OpenSpec.upto fnExactPriceGapSpec)

/-- 'laws.FnExactSwapMedian', WHERE WHAT IT READS IS OF BULK AT MOST 1048576: true; the input reads as it did. -/
def fnExactSwapMedianUptoRow : OpenClaim := { program := "ytibomnplkclkmaa", sum := "73d724d83d7437fea299165e6c456d4b49f12fe800feb0a4a84bfb325223fde0", func := "loop.example/g01110/laws.FnExactSwapMedian", spec := "fnExactSwapMedian", unfollowed := true, recurses := true, apart := false, narrowed := true }
def FnExactSwapMedianUptoSaid : Prop := fnExactSwapMedianUptoRow.holds Try.pinned (OpenSpec.upto fnExactSwapMedianSpec)

/-- 'laws.FnExactGrowthPrices', WHERE WHAT IT READS IS OF BULK AT MOST 1048576: true; the input reads as it did. -/
def fnExactGrowthPricesUptoRow : OpenClaim := { program := "ytibomnplkclkmaa", sum := "73d724d83d7437fea299165e6c456d4b49f12fe800feb0a4a84bfb325223fde0", func := "loop.example/g01110/laws.FnExactGrowthPrices", spec := "fnExactGrowthPrices", unfollowed := true, recurses := true, apart := false, narrowed := true }
def FnExactGrowthPricesUptoSaid : Prop := fnExactGrowthPricesUptoRow.holds Try.pinned (OpenSpec.upto fnExactGrowthPricesSpec)

/-- 'laws.FnExactTightTimes', WHERE WHAT IT READS IS OF BULK AT MOST 1048576: true; the input reads as it did. -/
def fnExactTightTimesUptoRow : OpenClaim := { program := "ytibomnplkclkmaa", sum := "73d724d83d7437fea299165e6c456d4b49f12fe800feb0a4a84bfb325223fde0", func := "loop.example/g01110/laws.FnExactTightTimes", spec := "fnExactTightTimes", unfollowed := true, recurses := true, apart := false, narrowed := true }
def FnExactTightTimesUptoSaid : Prop := fnExactTightTimesUptoRow.holds Try.pinned (OpenSpec.upto fnExactTightTimesSpec)

/-- 'laws.FnExactWitnessesOf', WHERE WHAT IT READS IS OF BULK AT MOST 1048576: true; the input reads as it did. -/
def fnExactWitnessesOfUptoRow : OpenClaim := { program := "ytibomnplkclkmaa", sum := "73d724d83d7437fea299165e6c456d4b49f12fe800feb0a4a84bfb325223fde0", func := "loop.example/g01110/laws.FnExactWitnessesOf", spec := "fnExactWitnessesOf", unfollowed := true, recurses := true, apart := false, narrowed := true }
def FnExactWitnessesOfUptoSaid : Prop := fnExactWitnessesOfUptoRow.holds Try.pinned (OpenSpec.upto fnExactWitnessesOfSpec)

/-- 'laws.FnExactConflictsOf', WHERE WHAT IT READS IS OF BULK AT MOST 1048576: true; the input reads as it did. -/
def fnExactConflictsOfUptoRow : OpenClaim := { program := "ytibomnplkclkmaa", sum := "73d724d83d7437fea299165e6c456d4b49f12fe800feb0a4a84bfb325223fde0", func := "loop.example/g01110/laws.FnExactConflictsOf", spec := "fnExactConflictsOf", unfollowed := true, recurses := true, apart := false, narrowed := true }
def FnExactConflictsOfUptoSaid : Prop := fnExactConflictsOfUptoRow.holds Try.pinned (OpenSpec.upto fnExactConflictsOfSpec)

/-- 'laws.FnExactGreedyStars', WHERE WHAT IT READS IS OF BULK AT MOST 1048576: true; the input reads as it did. -/
def fnExactGreedyStarsUptoRow : OpenClaim := { program := "ytibomnplkclkmaa", sum := "73d724d83d7437fea299165e6c456d4b49f12fe800feb0a4a84bfb325223fde0", func := "loop.example/g01110/laws.FnExactGreedyStars", spec := "fnExactGreedyStars", unfollowed := true, recurses := true, apart := false, narrowed := true }
def FnExactGreedyStarsUptoSaid : Prop := fnExactGreedyStarsUptoRow.holds Try.pinned (OpenSpec.upto fnExactGreedyStarsSpec)

/-- 'laws.FnExactLineMedian', WHERE WHAT IT READS IS OF BULK AT MOST 1048576: true; the input reads as it did. -/
def fnExactLineMedianUptoRow : OpenClaim := { program := "ytibomnplkclkmaa", sum := "73d724d83d7437fea299165e6c456d4b49f12fe800feb0a4a84bfb325223fde0", func := "loop.example/g01110/laws.FnExactLineMedian", spec := "fnExactLineMedian", unfollowed := true, recurses := true, apart := false, narrowed := true }
def FnExactLineMedianUptoSaid : Prop := fnExactLineMedianUptoRow.holds Try.pinned (OpenSpec.upto fnExactLineMedianSpec)

/-- 'laws.FnExactBestTotal', WHERE WHAT IT READS IS OF BULK AT MOST 1048576: true; the input reads as it did. -/
def fnExactBestTotalUptoRow : OpenClaim := { program := "ytibomnplkclkmaa", sum := "73d724d83d7437fea299165e6c456d4b49f12fe800feb0a4a84bfb325223fde0", func := "loop.example/g01110/laws.FnExactBestTotal", spec := "fnExactBestTotal", unfollowed := true, recurses := true, apart := false, narrowed := true }
def FnExactBestTotalUptoSaid : Prop := fnExactBestTotalUptoRow.holds Try.pinned (OpenSpec.upto fnExactBestTotalSpec)

/-- 'laws.FnExactBestSet', WHERE WHAT IT READS IS OF BULK AT MOST 1048576: true; the input reads as it did. -/
def fnExactBestSetUptoRow : OpenClaim := { program := "ytibomnplkclkmaa", sum := "73d724d83d7437fea299165e6c456d4b49f12fe800feb0a4a84bfb325223fde0", func := "loop.example/g01110/laws.FnExactBestSet", spec := "fnExactBestSet", unfollowed := true, recurses := true, apart := false, narrowed := true }
def FnExactBestSetUptoSaid : Prop := fnExactBestSetUptoRow.holds Try.pinned (OpenSpec.upto fnExactBestSetSpec)

/-- 'laws.FnExactGrowthSet', WHERE WHAT IT READS IS OF BULK AT MOST 1048576: true; the input reads as it did. -/
def fnExactGrowthSetUptoRow : OpenClaim := { program := "ytibomnplkclkmaa", sum := "73d724d83d7437fea299165e6c456d4b49f12fe800feb0a4a84bfb325223fde0", func := "loop.example/g01110/laws.FnExactGrowthSet", spec := "fnExactGrowthSet", unfollowed := true, recurses := true, apart := false, narrowed := true }
def FnExactGrowthSetUptoSaid : Prop := fnExactGrowthSetUptoRow.holds Try.pinned (OpenSpec.upto fnExactGrowthSetSpec)

end Rows
end Go.Proofs.Ytibomnplkclkmaa
