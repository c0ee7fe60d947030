/-
  DERIVED. GIVEN WITH THE SEED: THE CARDS: each row of YtgejleocladghaaGreatDoorRows.lean that lists a variable, with what it lists TIED to the program's text (the seventh form; the later family's looks); each row that meets fmt, with fmt's text TOLD by the authors' own Lean function (tested against real Go, not proved from fmt's source: count such statements apart). THE CARD IS WHAT COUNTS. Prove the row's statement (the work); the ties are given (YtgejleocladghaaGreatDoorTie.lean); close each card by the builder's one call (the guide's Derived/Test/ToyasCard.lean, 'card_holds'). Laid BY PROGRAM, IN A SANDBOX (cutbox-door.mjs). By AI agents, Wed Nov 11 2026. No macro, syntax, notation, axiom, sorry.
-/
import Derived.Test.YtgejleocladghaaGreatDoorRows
import GoSem.ClaimSeven
namespace Go.Proofs.YtgejleocladghaaGreatDoor
namespace Rows

/-- THE TIED CARD OF 'invigilatorlaw19.PolicyRules'. -/
def policyRulesCard : Claim7 := { stood := { row := policyRulesRow, standIns := [], harness := (true, "906feadbe23f5900e5614040ecf97f696f417f4bfbbd42c4bf9778acec6886fd"), looks := false }, kinds := [], alts := [], laidByText := true, laidKinds := [.data, .data, .data, .data, .widerDeep, .widerDeep, .pinned], laidTests := true, laidLooks := .later }
def PolicyRulesCardSaid : Prop := Claim7.holds Tryz.pinned (.plain (OpenSpec.ofChange policyRulesSpec)) policyRulesCard

/-- THE SECOND FORM's CARD OF 'invigilatorlaw19.PolicyRules'. -/
def policyRulesUptoCard : Claim7 := { stood := { row := policyRulesUptoRow, standIns := [], harness := (true, "906feadbe23f5900e5614040ecf97f696f417f4bfbbd42c4bf9778acec6886fd"), looks := false }, kinds := [], alts := [], laidByText := true, laidKinds := [.data, .data, .data, .data, .widerDeep, .widerDeep, .pinned], laidTests := true, laidLooks := .later }
def PolicyRulesUptoCardSaid : Prop := Claim7.holds Tryz.pinned (.plain (OpenSpec.upto policyRulesSpec)) policyRulesUptoCard
end Rows
end Go.Proofs.YtgejleocladghaaGreatDoor
