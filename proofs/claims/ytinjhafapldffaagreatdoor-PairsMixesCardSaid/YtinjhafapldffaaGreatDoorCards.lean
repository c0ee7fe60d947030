/-
  DERIVED. GIVEN WITH THE SEED: THE CARDS: each row of YtinjhafapldffaaGreatDoorRows.lean that lists a variable, with what it lists TIED to the program's text (the seventh form; the later family's looks); each row that meets fmt, with fmt's text TOLD by the authors' own Lean function (tested against real Go, not proved from fmt's source: count such statements apart). THE CARD IS WHAT COUNTS. Prove the row's statement (the work); the ties are given (YtinjhafapldffaaGreatDoorTie.lean); close each card by the builder's one call (the guide's Derived/Test/ToyasCard.lean, 'card_holds'). Laid BY PROGRAM, IN A SANDBOX (cutbox-door.mjs). By AI agents, Wed Nov 11 2026. No macro, syntax, notation, axiom, sorry.
-/
import Derived.Test.YtinjhafapldffaaGreatDoorRows
import GoSem.ClaimSeven
namespace Go.Proofs.YtinjhafapldffaaGreatDoor
namespace Rows

/-- THE TIED CARD OF 'invigilatorlaw32.PairsMixes'. -/
def pairsMixesCard : Claim7 := { stood := { row := pairsMixesRow, standIns := [], harness := (true, "ec7c96e8eabd2a48768ea01695ae463ecacd888d6163ce1a6ee6aa0b546c7153"), looks := false }, kinds := [], alts := [], laidByText := true, laidKinds := [.data, .widerDeep, .widerDeep, .pinned], laidTests := true, laidLooks := .later }
def PairsMixesCardSaid : Prop := Claim7.holds Tryz.pinned (.plain (OpenSpec.ofChange pairsMixesSpec)) pairsMixesCard

/-- THE SECOND FORM's CARD OF 'invigilatorlaw32.PairsMixes'. -/
def pairsMixesUptoCard : Claim7 := { stood := { row := pairsMixesUptoRow, standIns := [], harness := (true, "ec7c96e8eabd2a48768ea01695ae463ecacd888d6163ce1a6ee6aa0b546c7153"), looks := false }, kinds := [], alts := [], laidByText := true, laidKinds := [.data, .widerDeep, .widerDeep, .pinned], laidTests := true, laidLooks := .later }
def PairsMixesUptoCardSaid : Prop := Claim7.holds Tryz.pinned (.plain (OpenSpec.upto pairsMixesSpec)) pairsMixesUptoCard
end Rows
end Go.Proofs.YtinjhafapldffaaGreatDoor
