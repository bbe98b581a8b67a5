/-
  No cell of these rows narrows 'for every input' (looked for: loops, veiled, ifaces, maps, wideKeys, modest, calm, conditions, laid).
  DERIVED. THE GIVEN ROWS OF THIS SEAT. 12 by the template 'for every input the law returns true; each argument reads behind the call as it read before'; 0 by the template 'total and deterministic' (their statements: YtpkmpmlgkhlgoaaTotals.lean).
  GIVEN WITH THE SEED: the statements are not yours to turn. If you find one false, say at which input.
  Laid BY PROGRAM, IN A SANDBOX (cutbox-rows.mjs): the forced cells as the released guide's own fill.sh prints them over the translation 747200973dedaeed… (all of the seat's roots in one cut). By AI agents, Wed Nov 11 2026. No macro, syntax, notation, axiom, sorry.
-/
import Derived.Test.YtpkmpmlgkhlgoaaChecked
import GoSem.Claim
import GoSem.ClaimJoined
import GoSem.ClaimMapViews
import Derived.JoinedTies
import Derived.KernelRfl
namespace Go.Proofs.Ytpkmpmlgkhlgoaa
/- THE CELL 'sum', in the pinned program and in every row, IS THE sha256 OF THE DUMP (.gsa) THAT YtpkmpmlgkhlgoaaProg.lean LOADS. Nothing in Lean hashes anything: it is a label: what it is worth is what the hold of that sum in a sandbox is worth. -/
noncomputable def Try.pinned : Pinned := { name := "ytpkmpmlgkhlgoaa", sum := "747200973dedaeed8e9c1e1b4b1a2bb873b743c8be716f7ad30d2d9359058996", checked := Try.checked }
namespace Rows
def none {H : Type} : Left H := { results := [], args := [] }

/-- 'laws.FnExactLineField': WHATEVER THE INPUT: true; the input reads as it did. -/
def fnExactLineFieldSpec : ChangeSpec := { name := "fnExactLineField", fn := fun _ => fun
  | [d1, d2] => { results := [.lit (.bool true)], args := [d1, d2] }
  | _ => none }
def fnExactLineFieldRow : OpenClaim := { program := "ytpkmpmlgkhlgoaa", sum := "747200973dedaeed8e9c1e1b4b1a2bb873b743c8be716f7ad30d2d9359058996", func := "loop.example/g01110/laws.FnExactLineField", spec := "fnExactLineField", unfollowed := true, recurses := true, apart := false }
def FnExactLineFieldSaid : Prop := fnExactLineFieldRow.holds Try.pinned (OpenSpec.ofChange fnExactLineFieldSpec)

/-- ITS FALSE NEIGHBOUR: 'it returns false'. Refute it at one input. -/
def fnExactLineFieldWrong : ChangeSpec := { name := "fnExactLineField", fn := fun _ => fun
  | [d1, d2] => { results := [.lit (.bool false)], args := [d1, d2] }
  | _ => none }
def FnExactLineFieldWrongFalsely : Prop := fnExactLineFieldRow.holds Try.pinned (OpenSpec.ofChange fnExactLineFieldWrong)

/-- 'laws.FnExactClaimsOf': WHATEVER THE INPUT: true; the input reads as it did. -/
def fnExactClaimsOfSpec : ChangeSpec := { name := "fnExactClaimsOf", fn := fun _ => fun
  | [d1, d2] => { results := [.lit (.bool true)], args := [d1, d2] }
  | _ => none }
def fnExactClaimsOfRow : OpenClaim := { program := "ytpkmpmlgkhlgoaa", sum := "747200973dedaeed8e9c1e1b4b1a2bb873b743c8be716f7ad30d2d9359058996", func := "loop.example/g01110/laws.FnExactClaimsOf", spec := "fnExactClaimsOf", unfollowed := true, recurses := true, apart := false }
def FnExactClaimsOfSaid : Prop := fnExactClaimsOfRow.holds Try.pinned (OpenSpec.ofChange fnExactClaimsOfSpec)

/-- ITS FALSE NEIGHBOUR: 'it returns false'. Refute it at one input. -/
def fnExactClaimsOfWrong : ChangeSpec := { name := "fnExactClaimsOf", fn := fun _ => fun
  | [d1, d2] => { results := [.lit (.bool false)], args := [d1, d2] }
  | _ => none }
def FnExactClaimsOfWrongFalsely : Prop := fnExactClaimsOfRow.holds Try.pinned (OpenSpec.ofChange fnExactClaimsOfWrong)

/-- 'laws.FnExactNeededSites': WHATEVER THE INPUT: true; the input reads as it did. -/
def fnExactNeededSitesSpec : ChangeSpec := { name := "fnExactNeededSites", fn := fun _ => fun
  | [d] => { results := [.lit (.bool true)], args := [d] }
  | _ => none }
def fnExactNeededSitesRow : OpenClaim := { program := "ytpkmpmlgkhlgoaa", sum := "747200973dedaeed8e9c1e1b4b1a2bb873b743c8be716f7ad30d2d9359058996", func := "loop.example/g01110/laws.FnExactNeededSites", spec := "fnExactNeededSites", unfollowed := true, recurses := true, apart := false }
def FnExactNeededSitesSaid : Prop := fnExactNeededSitesRow.holds Try.pinned (OpenSpec.ofChange fnExactNeededSitesSpec)

/-- ITS FALSE NEIGHBOUR: 'it returns false'. Refute it at one input. -/
def fnExactNeededSitesWrong : ChangeSpec := { name := "fnExactNeededSites", fn := fun _ => fun
  | [d] => { results := [.lit (.bool false)], args := [d] }
  | _ => none }
def FnExactNeededSitesWrongFalsely : Prop := fnExactNeededSitesRow.holds Try.pinned (OpenSpec.ofChange fnExactNeededSitesWrong)

/-- 'laws.FnExactTreeField': WHATEVER THE INPUT: true; the input reads as it did. -/
def fnExactTreeFieldSpec : ChangeSpec := { name := "fnExactTreeField", fn := fun _ => fun
  | [d1, d2] => { results := [.lit (.bool true)], args := [d1, d2] }
  | _ => none }
def fnExactTreeFieldRow : OpenClaim := { program := "ytpkmpmlgkhlgoaa", sum := "747200973dedaeed8e9c1e1b4b1a2bb873b743c8be716f7ad30d2d9359058996", func := "loop.example/g01110/laws.FnExactTreeField", spec := "fnExactTreeField", unfollowed := true, recurses := true, apart := false }
def FnExactTreeFieldSaid : Prop := fnExactTreeFieldRow.holds Try.pinned (OpenSpec.ofChange fnExactTreeFieldSpec)

/-- ITS FALSE NEIGHBOUR: 'it returns false'. Refute it at one input. -/
def fnExactTreeFieldWrong : ChangeSpec := { name := "fnExactTreeField", fn := fun _ => fun
  | [d1, d2] => { results := [.lit (.bool false)], args := [d1, d2] }
  | _ => none }
def FnExactTreeFieldWrongFalsely : Prop := fnExactTreeFieldRow.holds Try.pinned (OpenSpec.ofChange fnExactTreeFieldWrong)

/-- 'laws.FnExactAreFair': WHATEVER THE INPUT: true; the input reads as it did. -/
def fnExactAreFairSpec : ChangeSpec := { name := "fnExactAreFair", fn := fun _ => fun
  | [d1, d2] => { results := [.lit (.bool true)], args := [d1, d2] }
  | _ => none }
def fnExactAreFairRow : OpenClaim := { program := "ytpkmpmlgkhlgoaa", sum := "747200973dedaeed8e9c1e1b4b1a2bb873b743c8be716f7ad30d2d9359058996", func := "loop.example/g01110/laws.FnExactAreFair", spec := "fnExactAreFair", unfollowed := true, recurses := true, apart := false }
def FnExactAreFairSaid : Prop := fnExactAreFairRow.holds Try.pinned (OpenSpec.ofChange fnExactAreFairSpec)

/-- ITS FALSE NEIGHBOUR: 'it returns false'. Refute it at one input. -/
def fnExactAreFairWrong : ChangeSpec := { name := "fnExactAreFair", fn := fun _ => fun
  | [d1, d2] => { results := [.lit (.bool false)], args := [d1, d2] }
  | _ => none }
def FnExactAreFairWrongFalsely : Prop := fnExactAreFairRow.holds Try.pinned (OpenSpec.ofChange fnExactAreFairWrong)

/-- 'laws.FnExactServiceOf': WHATEVER THE INPUT: true; the input reads as it did. -/
def fnExactServiceOfSpec : ChangeSpec := { name := "fnExactServiceOf", fn := fun _ => fun
  | [d1, d2] => { results := [.lit (.bool true)], args := [d1, d2] }
  | _ => none }
def fnExactServiceOfRow : OpenClaim := { program := "ytpkmpmlgkhlgoaa", sum := "747200973dedaeed8e9c1e1b4b1a2bb873b743c8be716f7ad30d2d9359058996", func := "loop.example/g01110/laws.FnExactServiceOf", spec := "fnExactServiceOf", unfollowed := true, recurses := true, apart := false }
def FnExactServiceOfSaid : Prop := fnExactServiceOfRow.holds Try.pinned (OpenSpec.ofChange fnExactServiceOfSpec)

/-- ITS FALSE NEIGHBOUR: 'it returns false'. Refute it at one input. -/
def fnExactServiceOfWrong : ChangeSpec := { name := "fnExactServiceOf", fn := fun _ => fun
  | [d1, d2] => { results := [.lit (.bool false)], args := [d1, d2] }
  | _ => none }
def FnExactServiceOfWrongFalsely : Prop := fnExactServiceOfRow.holds Try.pinned (OpenSpec.ofChange fnExactServiceOfWrong)

/-- 'laws.FnExactServedBy': WHATEVER THE INPUT: true; the input reads as it did. -/
def fnExactServedBySpec : ChangeSpec := { name := "fnExactServedBy", fn := fun _ => fun
  | [d1, d2] => { results := [.lit (.bool true)], args := [d1, d2] }
  | _ => none }
def fnExactServedByRow : OpenClaim := { program := "ytpkmpmlgkhlgoaa", sum := "747200973dedaeed8e9c1e1b4b1a2bb873b743c8be716f7ad30d2d9359058996", func := "loop.example/g01110/laws.FnExactServedBy", spec := "fnExactServedBy", unfollowed := true, recurses := true, apart := false }
def FnExactServedBySaid : Prop := fnExactServedByRow.holds Try.pinned (OpenSpec.ofChange fnExactServedBySpec)

/-- ITS FALSE NEIGHBOUR: 'it returns false'. Refute it at one input. -/
def fnExactServedByWrong : ChangeSpec := { name := "fnExactServedBy", fn := fun _ => fun
  | [d1, d2] => { results := [.lit (.bool false)], args := [d1, d2] }
  | _ => none }
def FnExactServedByWrongFalsely : Prop := fnExactServedByRow.holds Try.pinned (OpenSpec.ofChange fnExactServedByWrong)

/-- 'laws.FnExactReachOf': WHATEVER THE INPUT: true; the input reads as it did. -/
def fnExactReachOfSpec : ChangeSpec := { name := "fnExactReachOf", fn := fun _ => fun
  | [d1, d2] => { results := [.lit (.bool true)], args := [d1, d2] }
  | _ => none }
def fnExactReachOfRow : OpenClaim := { program := "ytpkmpmlgkhlgoaa", sum := "747200973dedaeed8e9c1e1b4b1a2bb873b743c8be716f7ad30d2d9359058996", func := "loop.example/g01110/laws.FnExactReachOf", spec := "fnExactReachOf", unfollowed := true, recurses := true, apart := false }
def FnExactReachOfSaid : Prop := fnExactReachOfRow.holds Try.pinned (OpenSpec.ofChange fnExactReachOfSpec)

/-- ITS FALSE NEIGHBOUR: 'it returns false'. Refute it at one input. -/
def fnExactReachOfWrong : ChangeSpec := { name := "fnExactReachOf", fn := fun _ => fun
  | [d1, d2] => { results := [.lit (.bool false)], args := [d1, d2] }
  | _ => none }
def FnExactReachOfWrongFalsely : Prop := fnExactReachOfRow.holds Try.pinned (OpenSpec.ofChange fnExactReachOfWrong)

/-- 'laws.FnExactTightSites': WHATEVER THE INPUT: true; the input reads as it did. -/
def fnExactTightSitesSpec : ChangeSpec := { name := "fnExactTightSites", fn := fun _ => fun
  | [d1, d2] => { results := [.lit (.bool true)], args := [d1, d2] }
  | _ => none }
def fnExactTightSitesRow : OpenClaim := { program := "ytpkmpmlgkhlgoaa", sum := "747200973dedaeed8e9c1e1b4b1a2bb873b743c8be716f7ad30d2d9359058996", func := "loop.example/g01110/laws.FnExactTightSites", spec := "fnExactTightSites", unfollowed := true, recurses := true, apart := false }
def FnExactTightSitesSaid : Prop := fnExactTightSitesRow.holds Try.pinned (OpenSpec.ofChange fnExactTightSitesSpec)

/-- ITS FALSE NEIGHBOUR: 'it returns false'. Refute it at one input. -/
def fnExactTightSitesWrong : ChangeSpec := { name := "fnExactTightSites", fn := fun _ => fun
  | [d1, d2] => { results := [.lit (.bool false)], args := [d1, d2] }
  | _ => none }
def FnExactTightSitesWrongFalsely : Prop := fnExactTightSitesRow.holds Try.pinned (OpenSpec.ofChange fnExactTightSitesWrong)

/-- 'laws.FnExactTotalOf': WHATEVER THE INPUT: true; the input reads as it did. -/
def fnExactTotalOfSpec : ChangeSpec := { name := "fnExactTotalOf", fn := fun _ => fun
  | [d1, d2] => { results := [.lit (.bool true)], args := [d1, d2] }
  | _ => none }
def fnExactTotalOfRow : OpenClaim := { program := "ytpkmpmlgkhlgoaa", sum := "747200973dedaeed8e9c1e1b4b1a2bb873b743c8be716f7ad30d2d9359058996", func := "loop.example/g01110/laws.FnExactTotalOf", spec := "fnExactTotalOf", unfollowed := true, recurses := true, apart := false }
def FnExactTotalOfSaid : Prop := fnExactTotalOfRow.holds Try.pinned (OpenSpec.ofChange fnExactTotalOfSpec)

/-- ITS FALSE NEIGHBOUR: 'it returns false'. Refute it at one input. -/
def fnExactTotalOfWrong : ChangeSpec := { name := "fnExactTotalOf", fn := fun _ => fun
  | [d1, d2] => { results := [.lit (.bool false)], args := [d1, d2] }
  | _ => none }
def FnExactTotalOfWrongFalsely : Prop := fnExactTotalOfRow.holds Try.pinned (OpenSpec.ofChange fnExactTotalOfWrong)

/-- 'laws.FnExactJoinFields': WHATEVER THE INPUT: true; the input reads as it did. -/
def fnExactJoinFieldsSpec : ChangeSpec := { name := "fnExactJoinFields", fn := fun _ => fun
  | [d1, d2] => { results := [.lit (.bool true)], args := [d1, d2] }
  | _ => none }
def fnExactJoinFieldsRow : OpenClaim := { program := "ytpkmpmlgkhlgoaa", sum := "747200973dedaeed8e9c1e1b4b1a2bb873b743c8be716f7ad30d2d9359058996", func := "loop.example/g01110/laws.FnExactJoinFields", spec := "fnExactJoinFields", unfollowed := true, recurses := true, apart := false }
def FnExactJoinFieldsSaid : Prop := fnExactJoinFieldsRow.holds Try.pinned (OpenSpec.ofChange fnExactJoinFieldsSpec)

/-- ITS FALSE NEIGHBOUR: 'it returns false'. Refute it at one input. -/
def fnExactJoinFieldsWrong : ChangeSpec := { name := "fnExactJoinFields", fn := fun _ => fun
  | [d1, d2] => { results := [.lit (.bool false)], args := [d1, d2] }
  | _ => none }
def FnExactJoinFieldsWrongFalsely : Prop := fnExactJoinFieldsRow.holds Try.pinned (OpenSpec.ofChange fnExactJoinFieldsWrong)

/-- 'laws.FnExactScaleField': WHATEVER THE INPUT: true; the input reads as it did. -/
def fnExactScaleFieldSpec : ChangeSpec := { name := "fnExactScaleField", fn := fun _ => fun
  | [d1, d2] => { results := [.lit (.bool true)], args := [d1, d2] }
  | _ => none }
def fnExactScaleFieldRow : OpenClaim := { program := "ytpkmpmlgkhlgoaa", sum := "747200973dedaeed8e9c1e1b4b1a2bb873b743c8be716f7ad30d2d9359058996", func := "loop.example/g01110/laws.FnExactScaleField", spec := "fnExactScaleField", unfollowed := true, recurses := true, apart := false }
def FnExactScaleFieldSaid : Prop := fnExactScaleFieldRow.holds Try.pinned (OpenSpec.ofChange fnExactScaleFieldSpec)

/-- ITS FALSE NEIGHBOUR: 'it returns false'. Refute it at one input. -/
def fnExactScaleFieldWrong : ChangeSpec := { name := "fnExactScaleField", fn := fun _ => fun
  | [d1, d2] => { results := [.lit (.bool false)], args := [d1, d2] }
  | _ => none }
def FnExactScaleFieldWrongFalsely : Prop := fnExactScaleFieldRow.holds Try.pinned (OpenSpec.ofChange fnExactScaleFieldWrong)

/- THE SECOND FORM. 'bulk': how many values and letters a reading holds, each counted each time it is reached (what is shared counts as often as it is met; a slice's spare places count too). A statement '..UptoSaid' is the law's where the arguments, and the package variables that the reading takes, are together of bulk at most 1048576: NARROWER than '..Said'. Prove '..Said' where nothing that the law and all that it calls make is longer than what came in: it says more and counts as full. Else prove '..UptoSaid'. A law counts once. -/
mutual
def uptoBulk {H : Type} : DataW H → Nat
  | .lit (.string bytes) => bytes.length + 1
  | .lit _ => 1
  | .nil => 1
  | .ptr d => uptoBulk d + 1
  | .slice elems spare => uptoBulkAll elems + uptoBulkAll spare + 1
  | .agg parts => uptoBulkAll parts + 1
  | .iface _ d => uptoBulk d + 1
  | .map entries => uptoBulkEntries entries + 1
  | .held _ => 1
def uptoBulkAll {H : Type} : List (DataW H) → Nat
  | [] => 0
  | d :: r => uptoBulk d + uptoBulkAll r
def uptoBulkEntries {H : Type} : List (Lit × DataW H) → Nat
  | [] => 0
  | x :: r => uptoBulkEntry x + uptoBulkEntries r
def uptoBulkEntry {H : Type} : Lit × DataW H → Nat
  | (.string bytes, d) => bytes.length + uptoBulk d + 1
  | (_, d) => uptoBulk d + 1
 end
def uptoSmall : (H : Type) → List (DataW H) → Bool := fun _ ds => decide (uptoBulkAll ds ≤ 1048576)
def OpenSpec.upto (s : _root_.Go.ChangeSpec) : _root_.Go.OpenSpec := { _root_.Go.OpenSpec.ofChange s with cond := some uptoSmall }

/-- 'laws.FnExactLineField', WHERE WHAT IT READS IS OF BULK AT MOST 1048576: true; the input reads as it did. -/
def fnExactLineFieldUptoRow : OpenClaim := { program := "ytpkmpmlgkhlgoaa", sum := "747200973dedaeed8e9c1e1b4b1a2bb873b743c8be716f7ad30d2d9359058996", func := "loop.example/g01110/laws.FnExactLineField", spec := "fnExactLineField", unfollowed := true, recurses := true, apart := false, narrowed := true }
def FnExactLineFieldUptoSaid : Prop := fnExactLineFieldUptoRow.holds Try.pinned (OpenSpec.upto fnExactLineFieldSpec)

/-- 'laws.FnExactClaimsOf', WHERE WHAT IT READS IS OF BULK AT MOST 1048576: true; the input reads as it did. -/
def fnExactClaimsOfUptoRow : OpenClaim := { program := "ytpkmpmlgkhlgoaa", sum := "747200973dedaeed8e9c1e1b4b1a2bb873b743c8be716f7ad30d2d9359058996", func := "loop.example/g01110/laws.FnExactClaimsOf", spec := "fnExactClaimsOf", unfollowed := true, recurses := true, apart := false, narrowed := true }
def FnExactClaimsOfUptoSaid : Prop := fnExactClaimsOfUptoRow.holds Try.pinned (OpenSpec.upto fnExactClaimsOfSpec)

/-- 'laws.FnExactNeededSites', WHERE WHAT IT READS IS OF BULK AT MOST 1048576: true; the input reads as it did. -/
def fnExactNeededSitesUptoRow : OpenClaim := { program := "ytpkmpmlgkhlgoaa", sum := "747200973dedaeed8e9c1e1b4b1a2bb873b743c8be716f7ad30d2d9359058996", func := "loop.example/g01110/laws.FnExactNeededSites", spec := "fnExactNeededSites", unfollowed := true, recurses := true, apart := false, narrowed := true }
def FnExactNeededSitesUptoSaid : Prop := fnExactNeededSitesUptoRow.holds Try.pinned (OpenSpec.upto fnExactNeededSitesSpec)

/-- 'laws.FnExactTreeField', WHERE WHAT IT READS IS OF BULK AT MOST 1048576: true; the input reads as it did. -/
def fnExactTreeFieldUptoRow : OpenClaim := { program := "ytpkmpmlgkhlgoaa", sum := "747200973dedaeed8e9c1e1b4b1a2bb873b743c8be716f7ad30d2d9359058996", func := "loop.example/g01110/laws.FnExactTreeField", spec := "fnExactTreeField", unfollowed := true, recurses := true, apart := false, narrowed := true }
def FnExactTreeFieldUptoSaid : Prop := fnExactTreeFieldUptoRow.holds Try.pinned (OpenSpec.upto fnExactTreeFieldSpec)

/-- 'laws.FnExactAreFair', WHERE WHAT IT READS IS OF BULK AT MOST 1048576: true; the input reads as it did. -/
def fnExactAreFairUptoRow : OpenClaim := { program := "ytpkmpmlgkhlgoaa", sum := "747200973dedaeed8e9c1e1b4b1a2bb873b743c8be716f7ad30d2d9359058996", func := "loop.example/g01110/laws.FnExactAreFair", spec := "fnExactAreFair", unfollowed := true, recurses := true, apart := false, narrowed := true }
def FnExactAreFairUptoSaid : Prop := fnExactAreFairUptoRow.holds Try.pinned (OpenSpec.upto fnExactAreFairSpec)

/-- 'laws.FnExactServiceOf', WHERE WHAT IT READS IS OF BULK AT MOST 1048576: true; the input reads as it did. -/
def fnExactServiceOfUptoRow : OpenClaim := { program := "ytpkmpmlgkhlgoaa", sum := "747200973dedaeed8e9c1e1b4b1a2bb873b743c8be716f7ad30d2d9359058996", func := "loop.example/g01110/laws.FnExactServiceOf", spec := "fnExactServiceOf", unfollowed := true, recurses := true, apart := false, narrowed := true }
def FnExactServiceOfUptoSaid : Prop := fnExactServiceOfUptoRow.holds Try.pinned (OpenSpec.upto fnExactServiceOfSpec)

/-- 'laws.FnExactServedBy', WHERE WHAT IT READS IS OF BULK AT MOST 1048576: true; the input reads as it did. -/
def fnExactServedByUptoRow : OpenClaim := { program := "ytpkmpmlgkhlgoaa", sum := "747200973dedaeed8e9c1e1b4b1a2bb873b743c8be716f7ad30d2d9359058996", func := "loop.example/g01110/laws.FnExactServedBy", spec := "fnExactServedBy", unfollowed := true, recurses := true, apart := false, narrowed := true }
def FnExactServedByUptoSaid : Prop := fnExactServedByUptoRow.holds Try.pinned (OpenSpec.upto fnExactServedBySpec)

/-- 'laws.FnExactReachOf', WHERE WHAT IT READS IS OF BULK AT MOST 1048576: true; the input reads as it did. -/
def fnExactReachOfUptoRow : OpenClaim := { program := "ytpkmpmlgkhlgoaa", sum := "747200973dedaeed8e9c1e1b4b1a2bb873b743c8be716f7ad30d2d9359058996", func := "loop.example/g01110/laws.FnExactReachOf", spec := "fnExactReachOf", unfollowed := true, recurses := true, apart := false, narrowed := true }
def FnExactReachOfUptoSaid : Prop := fnExactReachOfUptoRow.holds Try.pinned (OpenSpec.upto fnExactReachOfSpec)

/-- 'laws.FnExactTightSites', WHERE WHAT IT READS IS OF BULK AT MOST 1048576: true; the input reads as it did. -/
def fnExactTightSitesUptoRow : OpenClaim := { program := "ytpkmpmlgkhlgoaa", sum := "747200973dedaeed8e9c1e1b4b1a2bb873b743c8be716f7ad30d2d9359058996", func := "loop.example/g01110/laws.FnExactTightSites", spec := "fnExactTightSites", unfollowed := true, recurses := true, apart := false, narrowed := true }
def FnExactTightSitesUptoSaid : Prop := fnExactTightSitesUptoRow.holds Try.pinned (OpenSpec.upto fnExactTightSitesSpec)

/-- 'laws.FnExactTotalOf', WHERE WHAT IT READS IS OF BULK AT MOST 1048576: true; the input reads as it did. -/
def fnExactTotalOfUptoRow : OpenClaim := { program := "ytpkmpmlgkhlgoaa", sum := "747200973dedaeed8e9c1e1b4b1a2bb873b743c8be716f7ad30d2d9359058996", func := "loop.example/g01110/laws.FnExactTotalOf", spec := "fnExactTotalOf", unfollowed := true, recurses := true, apart := false, narrowed := true }
def FnExactTotalOfUptoSaid : Prop := fnExactTotalOfUptoRow.holds Try.pinned (OpenSpec.upto fnExactTotalOfSpec)

/-- 'laws.FnExactJoinFields', WHERE WHAT IT READS IS OF BULK AT MOST 1048576: true; the input reads as it did. -/
def fnExactJoinFieldsUptoRow : OpenClaim := { program := "ytpkmpmlgkhlgoaa", sum := "747200973dedaeed8e9c1e1b4b1a2bb873b743c8be716f7ad30d2d9359058996", func := "loop.example/g01110/laws.FnExactJoinFields", spec := "fnExactJoinFields", unfollowed := true, recurses := true, apart := false, narrowed := true }
def FnExactJoinFieldsUptoSaid : Prop := fnExactJoinFieldsUptoRow.holds Try.pinned (OpenSpec.upto fnExactJoinFieldsSpec)

/-- 'laws.FnExactScaleField', WHERE WHAT IT READS IS OF BULK AT MOST 1048576: true; the input reads as it did. -/
def fnExactScaleFieldUptoRow : OpenClaim := { program := "ytpkmpmlgkhlgoaa", sum := "747200973dedaeed8e9c1e1b4b1a2bb873b743c8be716f7ad30d2d9359058996", func := "loop.example/g01110/laws.FnExactScaleField", spec := "fnExactScaleField", unfollowed := true, recurses := true, apart := false, narrowed := true }
def FnExactScaleFieldUptoSaid : Prop := fnExactScaleFieldUptoRow.holds Try.pinned (OpenSpec.upto fnExactScaleFieldSpec)

end Rows
end Go.Proofs.Ytpkmpmlgkhlgoaa
