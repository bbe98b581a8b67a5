/-
  No cell of these rows narrows 'for every input' (looked for: loops, veiled, ifaces, maps, wideKeys, modest, calm, conditions, laid).
  DERIVED. THE GIVEN ROWS OF THIS SEAT. 3 by the template 'for every input the law returns true; each argument reads behind the call as it read before'; 0 by the template 'total and deterministic' (their statements: YtgcbdpehnonghaaTotals.lean).
  GIVEN WITH THE SEED: the statements are not yours to turn. If you find one false, say at which input.
  Laid BY PROGRAM, IN A SANDBOX (cutbox-rows.mjs): the forced cells as the released guide's own fill.sh prints them over the translation cf0a739de8047d4c… (all of the seat's roots in one cut). By AI agents, Wed Nov 11 2026. No macro, syntax, notation, axiom, sorry.
-/
import Derived.Test.YtgcbdpehnonghaaChecked
import GoSem.Claim
import GoSem.ClaimJoined
import GoSem.ClaimMapViews
import Derived.JoinedTies
import Derived.KernelRfl
namespace Go.Proofs.Ytgcbdpehnonghaa
/- THE CELL 'sum', in the pinned program and in every row, IS THE sha256 OF THE DUMP (.gsa) THAT YtgcbdpehnonghaaProg.lean LOADS. Nothing in Lean hashes anything: it is a label: what it is worth is what the hold of that sum in a sandbox is worth. -/
noncomputable def Try.pinned : Pinned := { name := "ytgcbdpehnonghaa", sum := "cf0a739de8047d4c451552d749ba41cd81b8c97715764f51b3b63f65587b6fb2", checked := Try.checked }
namespace Rows
def none {H : Type} : Left H := { results := [], args := [] }

/-- 'laws.FnExactGreedyStars': WHATEVER THE INPUT: true; the input reads as it did. -/
def fnExactGreedyStarsSpec : ChangeSpec := { name := "fnExactGreedyStars", fn := fun _ => fun
  | [d] => { results := [.lit (.bool true)], args := [d] }
  | _ => none }
def fnExactGreedyStarsRow : OpenClaim := { program := "ytgcbdpehnonghaa", sum := "cf0a739de8047d4c451552d749ba41cd81b8c97715764f51b3b63f65587b6fb2", func := "loop.example/g01110/laws.FnExactGreedyStars", spec := "fnExactGreedyStars", unfollowed := true, recurses := true, apart := false }
def FnExactGreedyStarsSaid : Prop := fnExactGreedyStarsRow.holds Try.pinned (OpenSpec.ofChange fnExactGreedyStarsSpec)

/-- ITS FALSE NEIGHBOUR: 'it returns false'. Refute it at one input. -/
def fnExactGreedyStarsWrong : ChangeSpec := { name := "fnExactGreedyStars", fn := fun _ => fun
  | [d] => { results := [.lit (.bool false)], args := [d] }
  | _ => none }
def FnExactGreedyStarsWrongFalsely : Prop := fnExactGreedyStarsRow.holds Try.pinned (OpenSpec.ofChange fnExactGreedyStarsWrong)

/-- 'laws.FnExactBestSet': WHATEVER THE INPUT: true; the input reads as it did. -/
def fnExactBestSetSpec : ChangeSpec := { name := "fnExactBestSet", fn := fun _ => fun
  | [d] => { results := [.lit (.bool true)], args := [d] }
  | _ => none }
def fnExactBestSetRow : OpenClaim := { program := "ytgcbdpehnonghaa", sum := "cf0a739de8047d4c451552d749ba41cd81b8c97715764f51b3b63f65587b6fb2", func := "loop.example/g01110/laws.FnExactBestSet", spec := "fnExactBestSet", unfollowed := true, recurses := true, apart := false }
def FnExactBestSetSaid : Prop := fnExactBestSetRow.holds Try.pinned (OpenSpec.ofChange fnExactBestSetSpec)

/-- ITS FALSE NEIGHBOUR: 'it returns false'. Refute it at one input. -/
def fnExactBestSetWrong : ChangeSpec := { name := "fnExactBestSet", fn := fun _ => fun
  | [d] => { results := [.lit (.bool false)], args := [d] }
  | _ => none }
def FnExactBestSetWrongFalsely : Prop := fnExactBestSetRow.holds Try.pinned (OpenSpec.ofChange fnExactBestSetWrong)

/-- 'laws.FnExactScaleField': WHATEVER THE INPUT: true; the input reads as it did. -/
def fnExactScaleFieldSpec : ChangeSpec := { name := "fnExactScaleField", fn := fun _ => fun
  | [d1, d2] => { results := [.lit (.bool true)], args := [d1, d2] }
  | _ => none }
def fnExactScaleFieldRow : OpenClaim := { program := "ytgcbdpehnonghaa", sum := "cf0a739de8047d4c451552d749ba41cd81b8c97715764f51b3b63f65587b6fb2", func := "loop.example/g01110/laws.FnExactScaleField", spec := "fnExactScaleField", unfollowed := true, recurses := true, apart := false }
def FnExactScaleFieldSaid : Prop := fnExactScaleFieldRow.holds Try.pinned (OpenSpec.ofChange fnExactScaleFieldSpec)

/-- ITS FALSE NEIGHBOUR: 'it returns false'. Refute it at one input. -/
def fnExactScaleFieldWrong : ChangeSpec := { name := "fnExactScaleField", fn := fun _ => fun
  | [d1, d2] => { results := [.lit (.bool false)], args := [d1, d2] }
  | _ => none }
def FnExactScaleFieldWrongFalsely : Prop := fnExactScaleFieldRow.holds Try.pinned (OpenSpec.ofChange fnExactScaleFieldWrong)

/- THE SECOND FORM. 'bulk': how many values and letters a reading holds, each counted each time it is reached (what is shared counts as often as it is met; a slice's spare places count too). A statement '..UptoSaid' is the law's where the arguments, and the package variables that the reading takes, are together of bulk at most 1048576: NARROWER than '..Said'. Prove '..Said' where nothing that the law and all that it calls make is longer than what came in: it says more and counts as full. Else prove '..UptoSaid'. A law counts once. -/
mutual
def uptoBulk {H : Type} : DataW H → Nat
  | .lit (.string bytes) => bytes.length + 1
  | .lit _ => 1
  | .nil => 1
  | .ptr d => uptoBulk d + 1
  | .slice elems spare => uptoBulkAll elems + uptoBulkAll spare + 1
  | .agg parts => uptoBulkAll parts + 1
  | .iface _ d => uptoBulk d + 1
  | .map entries => uptoBulkEntries entries + 1
  | .held _ => 1
def uptoBulkAll {H : Type} : List (DataW H) → Nat
  | [] => 0
  | d :: r => uptoBulk d + uptoBulkAll r
def uptoBulkEntries {H : Type} : List (Lit × DataW H) → Nat
  | [] => 0
  | x :: r => uptoBulkEntry x + uptoBulkEntries r
def uptoBulkEntry {H : Type} : Lit × DataW H → Nat
  | (.string bytes, d) => bytes.length + uptoBulk d + 1
  | (_, d) => uptoBulk d + 1
 end
def uptoSmall : (H : Type) → List (DataW H) → Bool := fun _ ds => decide (uptoBulkAll ds ≤ 1048576)
def OpenSpec.upto (s : _root_.Go.ChangeSpec) : _root_.Go.OpenSpec := { _root_.Go.OpenSpec.ofChange s with cond := some uptoSmall }

/-- 'laws.FnExactGreedyStars', WHERE WHAT IT READS IS OF BULK AT MOST 1048576: true; the input reads as it did. -/
def fnExactGreedyStarsUptoRow : OpenClaim := { program := "ytgcbdpehnonghaa", sum := "cf0a739de8047d4c451552d749ba41cd81b8c97715764f51b3b63f65587b6fb2", func := "loop.example/g01110/laws.FnExactGreedyStars", spec := "fnExactGreedyStars", unfollowed := true, recurses := true, apart := false, narrowed := true }
def FnExactGreedyStarsUptoSaid : Prop := fnExactGreedyStarsUptoRow.holds Try.pinned (OpenSpec.upto fnExactGreedyStarsSpec)

/-- 'laws.FnExactBestSet', WHERE WHAT IT READS IS OF BULK AT MOST 1048576: true; the input reads as it did. -/
def fnExactBestSetUptoRow : OpenClaim := { program := "ytgcbdpehnonghaa", sum := "cf0a739de8047d4c451552d749ba41cd81b8c97715764f51b3b63f65587b6fb2", func := "loop.example/g01110/laws.FnExactBestSet", spec := "fnExactBestSet", unfollowed := true, recurses := true, apart := false, narrowed := true }
def FnExactBestSetUptoSaid : Prop := fnExactBestSetUptoRow.holds Try.pinned (OpenSpec.upto fnExactBestSetSpec)

/-- 'laws.FnExactScaleField', WHERE WHAT IT READS IS OF BULK AT MOST 1048576: true; the input reads as it did. -/
def fnExactScaleFieldUptoRow : OpenClaim := { program := "ytgcbdpehnonghaa", sum := "cf0a739de8047d4c451552d749ba41cd81b8c97715764f51b3b63f65587b6fb2", func := "loop.example/g01110/laws.FnExactScaleField", spec := "fnExactScaleField", unfollowed := true, recurses := true, apart := false, narrowed := true }
def FnExactScaleFieldUptoSaid : Prop := fnExactScaleFieldUptoRow.holds Try.pinned (OpenSpec.upto fnExactScaleFieldSpec)

end Rows
end Go.Proofs.Ytgcbdpehnonghaa
