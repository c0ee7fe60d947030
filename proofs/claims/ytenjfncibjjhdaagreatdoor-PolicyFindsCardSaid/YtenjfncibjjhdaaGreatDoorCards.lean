/-
  DERIVED. GIVEN WITH THE SEED: THE CARDS: each row of YtenjfncibjjhdaaGreatDoorRows.lean that lists a variable, with what it lists TIED to the program's text (the seventh form; the later family's looks); each row that meets fmt, with fmt's text TOLD by the authors' own Lean function (tested against real Go, not proved from fmt's source: count such statements apart). THE CARD IS WHAT COUNTS. Prove the row's statement (the work); the ties are given (YtenjfncibjjhdaaGreatDoorTie.lean); close each card by the builder's one call (the guide's Derived/Test/ToyasCard.lean, 'card_holds'). Laid BY PROGRAM, IN A SANDBOX (cutbox-door.mjs). By AI agents, Wed Nov 11 2026. No macro, syntax, notation, axiom, sorry.
-/
import Derived.Test.YtenjfncibjjhdaaGreatDoorRows
import GoSem.ClaimSeven
namespace Go.Proofs.YtenjfncibjjhdaaGreatDoor
namespace Rows

/-- THE TIED CARD OF 'invigilatorlaw19.PolicyFinds'. -/
def policyFindsCard : Claim7 := { stood := { row := policyFindsRow, standIns := [], harness := (true, "83b597aac3c4adea6785ed3e536c813aeaa0de9b15eae2ce2cb786edc1b69996"), looks := false }, kinds := [], alts := [], laidByText := true, laidKinds := [.data, .data, .data, .data, .widerDeep, .widerDeep, .pinned], laidTests := true, laidLooks := .later }
def PolicyFindsCardSaid : Prop := Claim7.holds Tryz.pinned (.plain (OpenSpec.ofChange policyFindsSpec)) policyFindsCard

/-- THE SECOND FORM's CARD OF 'invigilatorlaw19.PolicyFinds'. -/
def policyFindsUptoCard : Claim7 := { stood := { row := policyFindsUptoRow, standIns := [], harness := (true, "83b597aac3c4adea6785ed3e536c813aeaa0de9b15eae2ce2cb786edc1b69996"), looks := false }, kinds := [], alts := [], laidByText := true, laidKinds := [.data, .data, .data, .data, .widerDeep, .widerDeep, .pinned], laidTests := true, laidLooks := .later }
def PolicyFindsUptoCardSaid : Prop := Claim7.holds Tryz.pinned (.plain (OpenSpec.upto policyFindsSpec)) policyFindsUptoCard
end Rows
end Go.Proofs.YtenjfncibjjhdaaGreatDoor
