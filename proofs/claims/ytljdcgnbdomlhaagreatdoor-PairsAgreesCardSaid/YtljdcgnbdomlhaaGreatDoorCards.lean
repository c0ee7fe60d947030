/-
  DERIVED. GIVEN WITH THE SEED: THE CARDS: each row of YtljdcgnbdomlhaaGreatDoorRows.lean that lists a variable, with what it lists TIED to the program's text (the seventh form; the later family's looks); each row that meets fmt, with fmt's text TOLD by the authors' own Lean function (tested against real Go, not proved from fmt's source: count such statements apart). THE CARD IS WHAT COUNTS. Prove the row's statement (the work); the ties are given (YtljdcgnbdomlhaaGreatDoorTie.lean); close each card by the builder's one call (the guide's Derived/Test/ToyasCard.lean, 'card_holds'). Laid BY PROGRAM, IN A SANDBOX (cutbox-door.mjs). By AI agents, Wed Nov 11 2026. No macro, syntax, notation, axiom, sorry.
-/
import Derived.Test.YtljdcgnbdomlhaaGreatDoorRows
import GoSem.ClaimSeven
namespace Go.Proofs.YtljdcgnbdomlhaaGreatDoor
namespace Rows

/-- THE TIED CARD OF 'invigilatorlaw32.PairsAgrees'. -/
def pairsAgreesCard : Claim7 := { stood := { row := pairsAgreesRow, standIns := [], harness := (true, "6df78e620aecbef10d77097c670229bcc531a6d24cc9811968d1f71b85b401ef"), looks := false }, kinds := [], alts := [], laidByText := true, laidKinds := [.data, .widerDeep, .widerDeep, .pinned], laidTests := true, laidLooks := .later }
def PairsAgreesCardSaid : Prop := Claim7.holds Tryz.pinned (.plain (OpenSpec.ofChange pairsAgreesSpec)) pairsAgreesCard

/-- THE SECOND FORM's CARD OF 'invigilatorlaw32.PairsAgrees'. -/
def pairsAgreesUptoCard : Claim7 := { stood := { row := pairsAgreesUptoRow, standIns := [], harness := (true, "6df78e620aecbef10d77097c670229bcc531a6d24cc9811968d1f71b85b401ef"), looks := false }, kinds := [], alts := [], laidByText := true, laidKinds := [.data, .widerDeep, .widerDeep, .pinned], laidTests := true, laidLooks := .later }
def PairsAgreesUptoCardSaid : Prop := Claim7.holds Tryz.pinned (.plain (OpenSpec.upto pairsAgreesSpec)) pairsAgreesUptoCard
end Rows
end Go.Proofs.YtljdcgnbdomlhaaGreatDoor
