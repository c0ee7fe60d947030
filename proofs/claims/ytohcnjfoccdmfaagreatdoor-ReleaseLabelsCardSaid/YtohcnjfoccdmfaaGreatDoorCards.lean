/-
  DERIVED. GIVEN WITH THE SEED: THE CARDS: each row of YtohcnjfoccdmfaaGreatDoorRows.lean that lists a variable, with what it lists TIED to the program's text (the seventh form; the later family's looks); each row that meets fmt, with fmt's text TOLD by the authors' own Lean function (tested against real Go, not proved from fmt's source: count such statements apart). THE CARD IS WHAT COUNTS. Prove the row's statement (the work); the ties are given (YtohcnjfoccdmfaaGreatDoorTie.lean); close each card by the builder's one call (the guide's Derived/Test/ToyasCard.lean, 'card_holds'). Laid BY PROGRAM, IN A SANDBOX (cutbox-door.mjs). By AI agents, Wed Nov 11 2026. No macro, syntax, notation, axiom, sorry.
-/
import Derived.Test.YtohcnjfoccdmfaaGreatDoorRows
import GoSem.ClaimSeven
namespace Go.Proofs.YtohcnjfoccdmfaaGreatDoor
namespace Rows

/-- THE TIED CARD OF 'invigilatorlaw28.ReleaseLabels'. -/
def releaseLabelsCard : Claim7 := { stood := { row := releaseLabelsRow, standIns := [], harness := (true, "5716eac6bd5e8753e27152c5b3630c0236e76036b778da4cc2ad2e921513772d"), looks := false }, kinds := [], alts := [], laidByText := true, laidKinds := [.data, .widerDeep, .widerDeep, .pinned], laidTests := true, laidLooks := .later }
def ReleaseLabelsCardSaid : Prop := Claim7.holds Tryz.pinned (.plain (OpenSpec.ofChange releaseLabelsSpec)) releaseLabelsCard

/-- THE SECOND FORM's CARD OF 'invigilatorlaw28.ReleaseLabels'. -/
def releaseLabelsUptoCard : Claim7 := { stood := { row := releaseLabelsUptoRow, standIns := [], harness := (true, "5716eac6bd5e8753e27152c5b3630c0236e76036b778da4cc2ad2e921513772d"), looks := false }, kinds := [], alts := [], laidByText := true, laidKinds := [.data, .widerDeep, .widerDeep, .pinned], laidTests := true, laidLooks := .later }
def ReleaseLabelsUptoCardSaid : Prop := Claim7.holds Tryz.pinned (.plain (OpenSpec.upto releaseLabelsSpec)) releaseLabelsUptoCard
end Rows
end Go.Proofs.YtohcnjfoccdmfaaGreatDoor
