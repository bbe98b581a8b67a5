/-
  DERIVED. GIVEN WITH THE SEED: THE CARDS: each row of YteefjdbdknkcjaaGreatDoorRows.lean that lists a variable, with what it lists TIED to the program's text (the seventh form; the later family's looks); each row that meets fmt, with fmt's text TOLD by the authors' own Lean function (tested against real Go, not proved from fmt's source: count such statements apart). THE CARD IS WHAT COUNTS. Prove the row's statement (the work); the ties are given (YteefjdbdknkcjaaGreatDoorTie.lean); close each card by the builder's one call (the guide's Derived/Test/ToyasCard.lean, 'card_holds'). Laid BY PROGRAM, IN A SANDBOX (cutbox-door.mjs). By AI agents, Wed Nov 11 2026. No macro, syntax, notation, axiom, sorry.
-/
import Derived.Test.YteefjdbdknkcjaaGreatDoorRows
import GoSem.ClaimSeven
namespace Go.Proofs.YteefjdbdknkcjaaGreatDoor
namespace Rows

/-- THE TIED CARD OF 'laws.FnFieldForms'. -/
def fnFieldFormsCard : Claim7 := { stood := { row := fnFieldFormsRow, standIns := [], harness := (true, "310f7015afde91b4d7a16a4f75a1d4dde8f1e3328c1e5c601c396183d827a6c7"), looks := true }, kinds := [], alts := [], laidByText := true, laidKinds := [.data, .data, .data, .data, .sentinel, .sentinel, .pinned], laidTests := true, laidLooks := .later }
def FnFieldFormsCardSaid : Prop := Claim7.holds Tryz.pinned (.plain (OpenSpec.ofChange fnFieldFormsSpec)) fnFieldFormsCard

/-- THE SECOND FORM's CARD OF 'laws.FnFieldForms'. -/
def fnFieldFormsUptoCard : Claim7 := { stood := { row := fnFieldFormsUptoRow, standIns := [], harness := (true, "310f7015afde91b4d7a16a4f75a1d4dde8f1e3328c1e5c601c396183d827a6c7"), looks := true }, kinds := [], alts := [], laidByText := true, laidKinds := [.data, .data, .data, .data, .sentinel, .sentinel, .pinned], laidTests := true, laidLooks := .later }
def FnFieldFormsUptoCardSaid : Prop := Claim7.holds Tryz.pinned (.plain (OpenSpec.upto fnFieldFormsSpec)) fnFieldFormsUptoCard
end Rows
end Go.Proofs.YteefjdbdknkcjaaGreatDoor
