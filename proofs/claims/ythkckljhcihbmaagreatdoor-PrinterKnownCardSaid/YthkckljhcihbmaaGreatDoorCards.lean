/-
  DERIVED. GIVEN WITH THE SEED: THE CARDS: each row of YthkckljhcihbmaaGreatDoorRows.lean that lists a variable, with what it lists TIED to the program's text (the seventh form; the later family's looks); each row that meets fmt, with fmt's text TOLD by the authors' own Lean function (tested against real Go, not proved from fmt's source: count such statements apart). THE CARD IS WHAT COUNTS. Prove the row's statement (the work); the ties are given (YthkckljhcihbmaaGreatDoorTie.lean); close each card by the builder's one call (the guide's Derived/Test/ToyasCard.lean, 'card_holds'). Laid BY PROGRAM, IN A SANDBOX (cutbox-door.mjs). By AI agents, Wed Nov 11 2026. No macro, syntax, notation, axiom, sorry.
-/
import Derived.Test.YthkckljhcihbmaaGreatDoorRows
import GoSem.ClaimSeven
namespace Go.Proofs.YthkckljhcihbmaaGreatDoor
namespace Rows

/-- THE TIED CARD OF 'invigilatorlaw18.PrinterKnown'. -/
def printerKnownCard : Claim7 := { stood := { row := printerKnownRow, standIns := [], harness := (true, "060c70026c4babdc33b4398c54f93bfa614c70d4f59d2b6fd6b8daeff03b1318"), looks := true }, kinds := [], alts := [], laidByText := true, laidKinds := [.data, .data, .data, .data, .sentinel, .sentinel, .data, .widerDeep, .widerDeep, .pinned], laidTests := true, laidLooks := .later }
def PrinterKnownCardSaid : Prop := Claim7.holds Tryz.pinned (.plain (OpenSpec.ofChange printerKnownSpec)) printerKnownCard

/-- THE SECOND FORM's CARD OF 'invigilatorlaw18.PrinterKnown'. -/
def printerKnownUptoCard : Claim7 := { stood := { row := printerKnownUptoRow, standIns := [], harness := (true, "060c70026c4babdc33b4398c54f93bfa614c70d4f59d2b6fd6b8daeff03b1318"), looks := true }, kinds := [], alts := [], laidByText := true, laidKinds := [.data, .data, .data, .data, .sentinel, .sentinel, .data, .widerDeep, .widerDeep, .pinned], laidTests := true, laidLooks := .later }
def PrinterKnownUptoCardSaid : Prop := Claim7.holds Tryz.pinned (.plain (OpenSpec.upto printerKnownSpec)) printerKnownUptoCard
end Rows
end Go.Proofs.YthkckljhcihbmaaGreatDoor
