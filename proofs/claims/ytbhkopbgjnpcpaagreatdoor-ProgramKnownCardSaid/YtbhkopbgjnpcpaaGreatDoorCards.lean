/-
  DERIVED. GIVEN WITH THE SEED: THE CARDS: each row of YtbhkopbgjnpcpaaGreatDoorRows.lean that lists a variable, with what it lists TIED to the program's text (the seventh form; the later family's looks); each row that meets fmt, with fmt's text TOLD by the authors' own Lean function (tested against real Go, not proved from fmt's source: count such statements apart). THE CARD IS WHAT COUNTS. Prove the row's statement (the work); the ties are given (YtbhkopbgjnpcpaaGreatDoorTie.lean); close each card by the builder's one call (the guide's Derived/Test/ToyasCard.lean, 'card_holds'). Laid BY PROGRAM, IN A SANDBOX (cutbox-door.mjs). By AI agents, Wed Nov 11 2026. No macro, syntax, notation, axiom, sorry.
-/
import Derived.Test.YtbhkopbgjnpcpaaGreatDoorRows
import GoSem.ClaimSeven
namespace Go.Proofs.YtbhkopbgjnpcpaaGreatDoor
namespace Rows

/-- THE TIED CARD OF 'invigilatorlaw17.ProgramKnown'. -/
def programKnownCard : Claim7 := { stood := { row := programKnownRow, standIns := [], harness := (true, "b3e0ff07ee22c2a3c463a705c1dec4232d469ce8c4ef3242d3413f7c06793128"), looks := true }, kinds := [], alts := [], laidByText := true, laidKinds := [.data, .data, .data, .data, .sentinel, .sentinel, .data, .widerDeep, .widerDeep, .pinned], laidTests := true, laidLooks := .later }
def ProgramKnownCardSaid : Prop := Claim7.holds Tryz.pinned (.plain (OpenSpec.ofChange programKnownSpec)) programKnownCard

/-- THE SECOND FORM's CARD OF 'invigilatorlaw17.ProgramKnown'. -/
def programKnownUptoCard : Claim7 := { stood := { row := programKnownUptoRow, standIns := [], harness := (true, "b3e0ff07ee22c2a3c463a705c1dec4232d469ce8c4ef3242d3413f7c06793128"), looks := true }, kinds := [], alts := [], laidByText := true, laidKinds := [.data, .data, .data, .data, .sentinel, .sentinel, .data, .widerDeep, .widerDeep, .pinned], laidTests := true, laidLooks := .later }
def ProgramKnownUptoCardSaid : Prop := Claim7.holds Tryz.pinned (.plain (OpenSpec.upto programKnownSpec)) programKnownUptoCard
end Rows
end Go.Proofs.YtbhkopbgjnpcpaaGreatDoor
