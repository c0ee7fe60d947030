/-
  DERIVED. GIVEN WITH THE SEED: THE CARDS: each row of YteaennhfmipmgaaGreatDoorRows.lean that lists a variable, with what it lists TIED to the program's text (the seventh form; the later family's looks); each row that meets fmt, with fmt's text TOLD by the authors' own Lean function (tested against real Go, not proved from fmt's source: count such statements apart). THE CARD IS WHAT COUNTS. Prove the row's statement (the work); the ties are given (YteaennhfmipmgaaGreatDoorTie.lean); close each card by the builder's one call (the guide's Derived/Test/ToyasCard.lean, 'card_holds'). Laid BY PROGRAM, IN A SANDBOX (cutbox-door.mjs). By AI agents, Wed Nov 11 2026. No macro, syntax, notation, axiom, sorry.
-/
import Derived.Test.YteaennhfmipmgaaGreatDoorRows
import GoSem.ClaimSeven
namespace Go.Proofs.YteaennhfmipmgaaGreatDoor
namespace Rows

/-- THE TIED CARD OF 'invigilatorlaw32.PairsOrders'. -/
def pairsOrdersCard : Claim7 := { stood := { row := pairsOrdersRow, standIns := [], harness := (true, "024509387deb51d20d514a020795450250f9eb87fa2a013592382265248c4eff"), looks := false }, kinds := [], alts := [], laidByText := true, laidKinds := [.data, .widerDeep, .widerDeep, .pinned], laidTests := true, laidLooks := .later }
def PairsOrdersCardSaid : Prop := Claim7.holds Tryz.pinned (.plain (OpenSpec.ofChange pairsOrdersSpec)) pairsOrdersCard

/-- THE SECOND FORM's CARD OF 'invigilatorlaw32.PairsOrders'. -/
def pairsOrdersUptoCard : Claim7 := { stood := { row := pairsOrdersUptoRow, standIns := [], harness := (true, "024509387deb51d20d514a020795450250f9eb87fa2a013592382265248c4eff"), looks := false }, kinds := [], alts := [], laidByText := true, laidKinds := [.data, .widerDeep, .widerDeep, .pinned], laidTests := true, laidLooks := .later }
def PairsOrdersUptoCardSaid : Prop := Claim7.holds Tryz.pinned (.plain (OpenSpec.upto pairsOrdersSpec)) pairsOrdersUptoCard
end Rows
end Go.Proofs.YteaennhfmipmgaaGreatDoor
