/-
  DERIVED. GIVEN WITH THE SEED: THE CARDS: each row of YtiiifbdejjhmiaaGreatDoorRows.lean that lists a variable, with what it lists TIED to the program's text (the seventh form; the later family's looks); each row that meets fmt, with fmt's text TOLD by the authors' own Lean function (tested against real Go, not proved from fmt's source: count such statements apart). THE CARD IS WHAT COUNTS. Prove the row's statement (the work); the ties are given (YtiiifbdejjhmiaaGreatDoorTie.lean); close each card by the builder's one call (the guide's Derived/Test/ToyasCard.lean, 'card_holds'). Laid BY PROGRAM, IN A SANDBOX (cutbox-door.mjs). By AI agents, Wed Nov 11 2026. No macro, syntax, notation, axiom, sorry.
-/
import Derived.Test.YtiiifbdejjhmiaaGreatDoorRows
import GoSem.ClaimSeven
namespace Go.Proofs.YtiiifbdejjhmiaaGreatDoor
namespace Rows

/-- THE TIED CARD OF 'invigilatorlaw32.PairsWhos'. -/
def pairsWhosCard : Claim7 := { stood := { row := pairsWhosRow, standIns := [], harness := (true, "2de774bc88ea9372a123368025a2cbb77544353391c29d01da79f127d6a1fa95"), looks := false }, kinds := [], alts := [], laidByText := true, laidKinds := [.data, .widerDeep, .widerDeep, .pinned], laidTests := true, laidLooks := .later }
def PairsWhosCardSaid : Prop := Claim7.holds Tryz.pinned (.plain (OpenSpec.ofChange pairsWhosSpec)) pairsWhosCard

/-- THE SECOND FORM's CARD OF 'invigilatorlaw32.PairsWhos'. -/
def pairsWhosUptoCard : Claim7 := { stood := { row := pairsWhosUptoRow, standIns := [], harness := (true, "2de774bc88ea9372a123368025a2cbb77544353391c29d01da79f127d6a1fa95"), looks := false }, kinds := [], alts := [], laidByText := true, laidKinds := [.data, .widerDeep, .widerDeep, .pinned], laidTests := true, laidLooks := .later }
def PairsWhosUptoCardSaid : Prop := Claim7.holds Tryz.pinned (.plain (OpenSpec.upto pairsWhosSpec)) pairsWhosUptoCard
end Rows
end Go.Proofs.YtiiifbdejjhmiaaGreatDoor
