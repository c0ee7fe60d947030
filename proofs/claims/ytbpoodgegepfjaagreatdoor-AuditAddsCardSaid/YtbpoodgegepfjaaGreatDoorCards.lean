/-
  DERIVED. GIVEN WITH THE SEED: THE CARDS: each row of YtbpoodgegepfjaaGreatDoorRows.lean that lists a variable, with what it lists TIED to the program's text (the seventh form; the later family's looks); each row that meets fmt, with fmt's text TOLD by the authors' own Lean function (tested against real Go, not proved from fmt's source: count such statements apart). THE CARD IS WHAT COUNTS. Prove the row's statement (the work); the ties are given (YtbpoodgegepfjaaGreatDoorTie.lean); close each card by the builder's one call (the guide's Derived/Test/ToyasCard.lean, 'card_holds'). Laid BY PROGRAM, IN A SANDBOX (cutbox-door.mjs). By AI agents, Wed Nov 11 2026. No macro, syntax, notation, axiom, sorry.
-/
import Derived.Test.YtbpoodgegepfjaaGreatDoorRows
import GoSem.ClaimSeven
namespace Go.Proofs.YtbpoodgegepfjaaGreatDoor
namespace Rows

/-- THE TIED CARD OF 'invigilatorlaw30.AuditAdds'. -/
def auditAddsCard : Claim7 := { stood := { row := auditAddsRow, standIns := [], harness := (true, "03de17c7367b5ed2be2725e04db10f625d076d75d2e55aa5e989680a46a84c7b"), looks := false }, kinds := [], alts := [], laidByText := true, laidKinds := [.data, .data, .data, .data, .widerDeep, .widerDeep, .pinned], laidTests := true, laidLooks := .later }
def AuditAddsCardSaid : Prop := Claim7.holds Tryz.pinned (.plain (OpenSpec.ofChange auditAddsSpec)) auditAddsCard

/-- THE SECOND FORM's CARD OF 'invigilatorlaw30.AuditAdds'. -/
def auditAddsUptoCard : Claim7 := { stood := { row := auditAddsUptoRow, standIns := [], harness := (true, "03de17c7367b5ed2be2725e04db10f625d076d75d2e55aa5e989680a46a84c7b"), looks := false }, kinds := [], alts := [], laidByText := true, laidKinds := [.data, .data, .data, .data, .widerDeep, .widerDeep, .pinned], laidTests := true, laidLooks := .later }
def AuditAddsUptoCardSaid : Prop := Claim7.holds Tryz.pinned (.plain (OpenSpec.upto auditAddsSpec)) auditAddsUptoCard
end Rows
end Go.Proofs.YtbpoodgegepfjaaGreatDoor
