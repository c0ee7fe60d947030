/-
  DERIVED. GIVEN WITH THE SEED: THE CARDS: each row of YtnfgjdiebpoibaaGreatDoorRows.lean that lists a variable, with what it lists TIED to the program's text (the seventh form; the later family's looks); each row that meets fmt, with fmt's text TOLD by the authors' own Lean function (tested against real Go, not proved from fmt's source: count such statements apart). THE CARD IS WHAT COUNTS. Prove the row's statement (the work); the ties are given (YtnfgjdiebpoibaaGreatDoorTie.lean); close each card by the builder's one call (the guide's Derived/Test/ToyasCard.lean, 'card_holds'). Laid BY PROGRAM, IN A SANDBOX (cutbox-door.mjs). By AI agents, Wed Nov 11 2026. No macro, syntax, notation, axiom, sorry.
-/
import Derived.Test.YtnfgjdiebpoibaaGreatDoorRows
import GoSem.ClaimSeven
namespace Go.Proofs.YtnfgjdiebpoibaaGreatDoor
namespace Rows

/-- THE TIED CARD OF 'invigilatorlaw32.PairsMakes'. -/
def pairsMakesCard : Claim7 := { stood := { row := pairsMakesRow, standIns := [], harness := (true, "2f1b7812440c1327e6516885144ef5a09a576570f952423ad7435a0e2f67f3a2"), looks := false }, kinds := [], alts := [], laidByText := true, laidKinds := [.data, .widerDeep, .widerDeep, .pinned], laidTests := true, laidLooks := .later }
def PairsMakesCardSaid : Prop := Claim7.holds Tryz.pinned (.plain (OpenSpec.ofChange pairsMakesSpec)) pairsMakesCard

/-- THE TIED CARD OF 'invigilatorlaw32.PairsKnown'. -/
def pairsKnownCard : Claim7 := { stood := { row := pairsKnownRow, standIns := [], harness := (true, "2f1b7812440c1327e6516885144ef5a09a576570f952423ad7435a0e2f67f3a2"), looks := false }, kinds := [], alts := [], laidByText := true, laidKinds := [.data, .widerDeep, .widerDeep, .pinned], laidTests := true, laidLooks := .later }
def PairsKnownCardSaid : Prop := Claim7.holds Tryz.pinned (.plain (OpenSpec.ofChange pairsKnownSpec)) pairsKnownCard

/-- THE TIED CARD OF 'invigilatorlaw32.PairsBlurred'. -/
def pairsBlurredCard : Claim7 := { stood := { row := pairsBlurredRow, standIns := [], harness := (true, "2f1b7812440c1327e6516885144ef5a09a576570f952423ad7435a0e2f67f3a2"), looks := false }, kinds := [], alts := [], laidByText := true, laidKinds := [.data, .widerDeep, .widerDeep, .pinned], laidTests := true, laidLooks := .later }
def PairsBlurredCardSaid : Prop := Claim7.holds Tryz.pinned (.plain (OpenSpec.ofChange pairsBlurredSpec)) pairsBlurredCard

/-- THE SECOND FORM's CARD OF 'invigilatorlaw32.PairsMakes'. -/
def pairsMakesUptoCard : Claim7 := { stood := { row := pairsMakesUptoRow, standIns := [], harness := (true, "2f1b7812440c1327e6516885144ef5a09a576570f952423ad7435a0e2f67f3a2"), looks := false }, kinds := [], alts := [], laidByText := true, laidKinds := [.data, .widerDeep, .widerDeep, .pinned], laidTests := true, laidLooks := .later }
def PairsMakesUptoCardSaid : Prop := Claim7.holds Tryz.pinned (.plain (OpenSpec.upto pairsMakesSpec)) pairsMakesUptoCard

/-- THE SECOND FORM's CARD OF 'invigilatorlaw32.PairsKnown'. -/
def pairsKnownUptoCard : Claim7 := { stood := { row := pairsKnownUptoRow, standIns := [], harness := (true, "2f1b7812440c1327e6516885144ef5a09a576570f952423ad7435a0e2f67f3a2"), looks := false }, kinds := [], alts := [], laidByText := true, laidKinds := [.data, .widerDeep, .widerDeep, .pinned], laidTests := true, laidLooks := .later }
def PairsKnownUptoCardSaid : Prop := Claim7.holds Tryz.pinned (.plain (OpenSpec.upto pairsKnownSpec)) pairsKnownUptoCard

/-- THE SECOND FORM's CARD OF 'invigilatorlaw32.PairsBlurred'. -/
def pairsBlurredUptoCard : Claim7 := { stood := { row := pairsBlurredUptoRow, standIns := [], harness := (true, "2f1b7812440c1327e6516885144ef5a09a576570f952423ad7435a0e2f67f3a2"), looks := false }, kinds := [], alts := [], laidByText := true, laidKinds := [.data, .widerDeep, .widerDeep, .pinned], laidTests := true, laidLooks := .later }
def PairsBlurredUptoCardSaid : Prop := Claim7.holds Tryz.pinned (.plain (OpenSpec.upto pairsBlurredSpec)) pairsBlurredUptoCard
end Rows
end Go.Proofs.YtnfgjdiebpoibaaGreatDoor
