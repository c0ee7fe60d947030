/-
  DERIVED. GIVEN WITH THE SEED: THE CARDS: each row of YtllpglmfggapmaaGreatDoorRows.lean that lists a variable, with what it lists TIED to the program's text (the seventh form; the later family's looks); each row that meets fmt, with fmt's text TOLD by the authors' own Lean function (tested against real Go, not proved from fmt's source: count such statements apart). THE CARD IS WHAT COUNTS. Prove the row's statement (the work); the ties are given (YtllpglmfggapmaaGreatDoorTie.lean); close each card by the builder's one call (the guide's Derived/Test/ToyasCard.lean, 'card_holds'). Laid BY PROGRAM, IN A SANDBOX (cutbox-door.mjs). By AI agents, Wed Nov 11 2026. No macro, syntax, notation, axiom, sorry.
-/
import Derived.Test.YtllpglmfggapmaaGreatDoorRows
import GoSem.ClaimSeven
namespace Go.Proofs.YtllpglmfggapmaaGreatDoor
namespace Rows

/-- THE TIED CARD OF 'invigilatorlaw32.PairsBlurs'. -/
def pairsBlursCard : Claim7 := { stood := { row := pairsBlursRow, standIns := [], harness := (true, "b4f8d2e227def2c64358c36a87912f3b1df630826cfb94ed7f4785839c224616"), looks := false }, kinds := [], alts := [], laidByText := true, laidKinds := [.data, .widerDeep, .widerDeep, .pinned], laidTests := true, laidLooks := .later }
def PairsBlursCardSaid : Prop := Claim7.holds Tryz.pinned (.plain (OpenSpec.ofChange pairsBlursSpec)) pairsBlursCard

/-- THE SECOND FORM's CARD OF 'invigilatorlaw32.PairsBlurs'. -/
def pairsBlursUptoCard : Claim7 := { stood := { row := pairsBlursUptoRow, standIns := [], harness := (true, "b4f8d2e227def2c64358c36a87912f3b1df630826cfb94ed7f4785839c224616"), looks := false }, kinds := [], alts := [], laidByText := true, laidKinds := [.data, .widerDeep, .widerDeep, .pinned], laidTests := true, laidLooks := .later }
def PairsBlursUptoCardSaid : Prop := Claim7.holds Tryz.pinned (.plain (OpenSpec.upto pairsBlursSpec)) pairsBlursUptoCard
end Rows
end Go.Proofs.YtllpglmfggapmaaGreatDoor
