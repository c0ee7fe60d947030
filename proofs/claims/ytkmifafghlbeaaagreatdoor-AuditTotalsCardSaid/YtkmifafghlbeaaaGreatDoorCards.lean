/-
  DERIVED. GIVEN WITH THE SEED: THE CARDS: each row of YtkmifafghlbeaaaGreatDoorRows.lean that lists a variable, with what it lists TIED to the program's text (the seventh form; the later family's looks); each row that meets fmt, with fmt's text TOLD by the authors' own Lean function (tested against real Go, not proved from fmt's source: count such statements apart). THE CARD IS WHAT COUNTS. Prove the row's statement (the work); the ties are given (YtkmifafghlbeaaaGreatDoorTie.lean); close each card by the builder's one call (the guide's Derived/Test/ToyasCard.lean, 'card_holds'). Laid BY PROGRAM, IN A SANDBOX (cutbox-door.mjs). By AI agents, Wed Nov 11 2026. No macro, syntax, notation, axiom, sorry.
-/
import Derived.Test.YtkmifafghlbeaaaGreatDoorRows
import GoSem.ClaimSeven
namespace Go.Proofs.YtkmifafghlbeaaaGreatDoor
namespace Rows

/-- THE TIED CARD OF 'invigilatorlaw30.AuditTotals'. -/
def auditTotalsCard : Claim7 := { stood := { row := auditTotalsRow, standIns := [], harness := (true, "73af01fc1841604a43dc637d1d282398fd25e7af73448171ec1d56b90bd56750"), looks := false }, kinds := [], alts := [], laidByText := true, laidKinds := [.data, .data, .data, .data, .widerDeep, .widerDeep, .pinned], laidTests := true, laidLooks := .later }
def AuditTotalsCardSaid : Prop := Claim7.holds Tryz.pinned (.plain (OpenSpec.ofChange auditTotalsSpec)) auditTotalsCard

/-- THE SECOND FORM's CARD OF 'invigilatorlaw30.AuditTotals'. -/
def auditTotalsUptoCard : Claim7 := { stood := { row := auditTotalsUptoRow, standIns := [], harness := (true, "73af01fc1841604a43dc637d1d282398fd25e7af73448171ec1d56b90bd56750"), looks := false }, kinds := [], alts := [], laidByText := true, laidKinds := [.data, .data, .data, .data, .widerDeep, .widerDeep, .pinned], laidTests := true, laidLooks := .later }
def AuditTotalsUptoCardSaid : Prop := Claim7.holds Tryz.pinned (.plain (OpenSpec.upto auditTotalsSpec)) auditTotalsUptoCard
end Rows
end Go.Proofs.YtkmifafghlbeaaaGreatDoor
