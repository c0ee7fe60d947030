/-
  DERIVED. GIVEN WITH THE SEED: THE CARDS: each row of YtmigljhpdjkaiaaGreatDoorRows.lean that lists a variable, with what it lists TIED to the program's text (the seventh form; the later family's looks); each row that meets fmt, with fmt's text TOLD by the authors' own Lean function (tested against real Go, not proved from fmt's source: count such statements apart). THE CARD IS WHAT COUNTS. Prove the row's statement (the work); the ties are given (YtmigljhpdjkaiaaGreatDoorTie.lean); close each card by the builder's one call (the guide's Derived/Test/ToyasCard.lean, 'card_holds'). Laid BY PROGRAM, IN A SANDBOX (cutbox-door.mjs). By AI agents, Wed Nov 11 2026. No macro, syntax, notation, axiom, sorry.
-/
import Derived.Test.YtmigljhpdjkaiaaGreatDoorRows
import GoSem.ClaimSeven
namespace Go.Proofs.YtmigljhpdjkaiaaGreatDoor
namespace Rows

/-- THE TIED CARD OF 'invigilatorlaw32.PairsBlurred'. -/
def pairsBlurredCard : Claim7 := { stood := { row := pairsBlurredRow, standIns := [], harness := (true, "b3b31c2c290bf0e8542a7a7c1a733fa5bcb06190338d66d2fb479c209978e7ce"), looks := false }, kinds := [], alts := [], laidByText := true, laidKinds := [.data, .widerDeep, .widerDeep, .pinned], laidTests := true, laidLooks := .later }
def PairsBlurredCardSaid : Prop := Claim7.holds Tryz.pinned (.plain (OpenSpec.ofChange pairsBlurredSpec)) pairsBlurredCard

/-- THE SECOND FORM's CARD OF 'invigilatorlaw32.PairsBlurred'. -/
def pairsBlurredUptoCard : Claim7 := { stood := { row := pairsBlurredUptoRow, standIns := [], harness := (true, "b3b31c2c290bf0e8542a7a7c1a733fa5bcb06190338d66d2fb479c209978e7ce"), looks := false }, kinds := [], alts := [], laidByText := true, laidKinds := [.data, .widerDeep, .widerDeep, .pinned], laidTests := true, laidLooks := .later }
def PairsBlurredUptoCardSaid : Prop := Claim7.holds Tryz.pinned (.plain (OpenSpec.upto pairsBlurredSpec)) pairsBlurredUptoCard
end Rows
end Go.Proofs.YtmigljhpdjkaiaaGreatDoor
