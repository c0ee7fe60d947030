/-
  DERIVED. GIVEN WITH THE SEED: THE CARDS: each row of YtefjegpcbdkckaaGreatDoorRows.lean that lists a variable, with what it lists TIED to the program's text (the seventh form; the later family's looks); each row that meets fmt, with fmt's text TOLD by the authors' own Lean function (tested against real Go, not proved from fmt's source: count such statements apart). THE CARD IS WHAT COUNTS. Prove the row's statement (the work); the ties are given (YtefjegpcbdkckaaGreatDoorTie.lean); close each card by the builder's one call (the guide's Derived/Test/ToyasCard.lean, 'card_holds'). Laid BY PROGRAM, IN A SANDBOX (cutbox-door.mjs). By AI agents, Wed Nov 11 2026. No macro, syntax, notation, axiom, sorry.
-/
import Derived.Test.YtefjegpcbdkckaaGreatDoorRows
import GoSem.ClaimSeven
namespace Go.Proofs.YtefjegpcbdkckaaGreatDoor
namespace Rows

/-- THE TIED CARD OF 'invigilatorlaw28.ReleaseDoes'. -/
def releaseDoesCard : Claim7 := { stood := { row := releaseDoesRow, standIns := [], harness := (true, "572dc6ac0516e634c3c84f6b88b4ce339b259886cc0fc112c84e9e8cd90a9bb7"), looks := false }, kinds := [], alts := [], laidByText := true, laidKinds := [.data, .widerDeep, .widerDeep, .pinned], laidTests := true, laidLooks := .later }
def ReleaseDoesCardSaid : Prop := Claim7.holds Tryz.pinned (.plain (OpenSpec.ofChange releaseDoesSpec)) releaseDoesCard

/-- THE TIED CARD OF 'invigilatorlaw28.ReleaseMays'. -/
def releaseMaysCard : Claim7 := { stood := { row := releaseMaysRow, standIns := [], harness := (true, "572dc6ac0516e634c3c84f6b88b4ce339b259886cc0fc112c84e9e8cd90a9bb7"), looks := false }, kinds := [], alts := [], laidByText := true, laidKinds := [.data, .widerDeep, .widerDeep, .pinned], laidTests := true, laidLooks := .later }
def ReleaseMaysCardSaid : Prop := Claim7.holds Tryz.pinned (.plain (OpenSpec.ofChange releaseMaysSpec)) releaseMaysCard

/-- THE TIED CARD OF 'invigilatorlaw28.ReleaseOrders'. -/
def releaseOrdersCard : Claim7 := { stood := { row := releaseOrdersRow, standIns := [], harness := (true, "572dc6ac0516e634c3c84f6b88b4ce339b259886cc0fc112c84e9e8cd90a9bb7"), looks := false }, kinds := [], alts := [], laidByText := true, laidKinds := [.data, .widerDeep, .widerDeep, .pinned], laidTests := true, laidLooks := .later }
def ReleaseOrdersCardSaid : Prop := Claim7.holds Tryz.pinned (.plain (OpenSpec.ofChange releaseOrdersSpec)) releaseOrdersCard

/-- THE TIED CARD OF 'invigilatorlaw28.ReleaseEnds'. -/
def releaseEndsCard : Claim7 := { stood := { row := releaseEndsRow, standIns := [], harness := (true, "572dc6ac0516e634c3c84f6b88b4ce339b259886cc0fc112c84e9e8cd90a9bb7"), looks := false }, kinds := [], alts := [], laidByText := true, laidKinds := [.data, .widerDeep, .widerDeep, .pinned], laidTests := true, laidLooks := .later }
def ReleaseEndsCardSaid : Prop := Claim7.holds Tryz.pinned (.plain (OpenSpec.ofChange releaseEndsSpec)) releaseEndsCard

/-- THE TIED CARD OF 'invigilatorlaw28.ReleaseLabels'. -/
def releaseLabelsCard : Claim7 := { stood := { row := releaseLabelsRow, standIns := [], harness := (true, "572dc6ac0516e634c3c84f6b88b4ce339b259886cc0fc112c84e9e8cd90a9bb7"), looks := false }, kinds := [], alts := [], laidByText := true, laidKinds := [.data, .widerDeep, .widerDeep, .pinned], laidTests := true, laidLooks := .later }
def ReleaseLabelsCardSaid : Prop := Claim7.holds Tryz.pinned (.plain (OpenSpec.ofChange releaseLabelsSpec)) releaseLabelsCard

/-- THE TIED CARD OF 'invigilatorlaw28.ReleaseValues'. -/
def releaseValuesCard : Claim7 := { stood := { row := releaseValuesRow, standIns := [], harness := (true, "572dc6ac0516e634c3c84f6b88b4ce339b259886cc0fc112c84e9e8cd90a9bb7"), looks := false }, kinds := [], alts := [], laidByText := true, laidKinds := [.data, .widerDeep, .widerDeep, .pinned], laidTests := true, laidLooks := .later }
def ReleaseValuesCardSaid : Prop := Claim7.holds Tryz.pinned (.plain (OpenSpec.ofChange releaseValuesSpec)) releaseValuesCard

/-- THE TIED CARD OF 'invigilatorlaw28.ReleaseChecks'. -/
def releaseChecksCard : Claim7 := { stood := { row := releaseChecksRow, standIns := [], harness := (true, "572dc6ac0516e634c3c84f6b88b4ce339b259886cc0fc112c84e9e8cd90a9bb7"), looks := false }, kinds := [], alts := [], laidByText := true, laidKinds := [.data, .widerDeep, .widerDeep, .pinned], laidTests := true, laidLooks := .later }
def ReleaseChecksCardSaid : Prop := Claim7.holds Tryz.pinned (.plain (OpenSpec.ofChange releaseChecksSpec)) releaseChecksCard

/-- THE TIED CARD OF 'invigilatorlaw28.ReleaseMarks'. -/
def releaseMarksCard : Claim7 := { stood := { row := releaseMarksRow, standIns := [], harness := (true, "572dc6ac0516e634c3c84f6b88b4ce339b259886cc0fc112c84e9e8cd90a9bb7"), looks := false }, kinds := [], alts := [], laidByText := true, laidKinds := [.data, .widerDeep, .widerDeep, .pinned], laidTests := true, laidLooks := .later }
def ReleaseMarksCardSaid : Prop := Claim7.holds Tryz.pinned (.plain (OpenSpec.ofChange releaseMarksSpec)) releaseMarksCard

/-- THE TIED CARD OF 'invigilatorlaw28.ReleaseKnown'. -/
def releaseKnownCard : Claim7 := { stood := { row := releaseKnownRow, standIns := [], harness := (true, "572dc6ac0516e634c3c84f6b88b4ce339b259886cc0fc112c84e9e8cd90a9bb7"), looks := false }, kinds := [], alts := [], laidByText := true, laidKinds := [.data, .widerDeep, .widerDeep, .pinned], laidTests := true, laidLooks := .later }
def ReleaseKnownCardSaid : Prop := Claim7.holds Tryz.pinned (.plain (OpenSpec.ofChange releaseKnownSpec)) releaseKnownCard

/-- THE SECOND FORM's CARD OF 'invigilatorlaw28.ReleaseDoes'. -/
def releaseDoesUptoCard : Claim7 := { stood := { row := releaseDoesUptoRow, standIns := [], harness := (true, "572dc6ac0516e634c3c84f6b88b4ce339b259886cc0fc112c84e9e8cd90a9bb7"), looks := false }, kinds := [], alts := [], laidByText := true, laidKinds := [.data, .widerDeep, .widerDeep, .pinned], laidTests := true, laidLooks := .later }
def ReleaseDoesUptoCardSaid : Prop := Claim7.holds Tryz.pinned (.plain (OpenSpec.upto releaseDoesSpec)) releaseDoesUptoCard

/-- THE SECOND FORM's CARD OF 'invigilatorlaw28.ReleaseMays'. -/
def releaseMaysUptoCard : Claim7 := { stood := { row := releaseMaysUptoRow, standIns := [], harness := (true, "572dc6ac0516e634c3c84f6b88b4ce339b259886cc0fc112c84e9e8cd90a9bb7"), looks := false }, kinds := [], alts := [], laidByText := true, laidKinds := [.data, .widerDeep, .widerDeep, .pinned], laidTests := true, laidLooks := .later }
def ReleaseMaysUptoCardSaid : Prop := Claim7.holds Tryz.pinned (.plain (OpenSpec.upto releaseMaysSpec)) releaseMaysUptoCard

/-- THE SECOND FORM's CARD OF 'invigilatorlaw28.ReleaseOrders'. -/
def releaseOrdersUptoCard : Claim7 := { stood := { row := releaseOrdersUptoRow, standIns := [], harness := (true, "572dc6ac0516e634c3c84f6b88b4ce339b259886cc0fc112c84e9e8cd90a9bb7"), looks := false }, kinds := [], alts := [], laidByText := true, laidKinds := [.data, .widerDeep, .widerDeep, .pinned], laidTests := true, laidLooks := .later }
def ReleaseOrdersUptoCardSaid : Prop := Claim7.holds Tryz.pinned (.plain (OpenSpec.upto releaseOrdersSpec)) releaseOrdersUptoCard

/-- THE SECOND FORM's CARD OF 'invigilatorlaw28.ReleaseEnds'. -/
def releaseEndsUptoCard : Claim7 := { stood := { row := releaseEndsUptoRow, standIns := [], harness := (true, "572dc6ac0516e634c3c84f6b88b4ce339b259886cc0fc112c84e9e8cd90a9bb7"), looks := false }, kinds := [], alts := [], laidByText := true, laidKinds := [.data, .widerDeep, .widerDeep, .pinned], laidTests := true, laidLooks := .later }
def ReleaseEndsUptoCardSaid : Prop := Claim7.holds Tryz.pinned (.plain (OpenSpec.upto releaseEndsSpec)) releaseEndsUptoCard

/-- THE SECOND FORM's CARD OF 'invigilatorlaw28.ReleaseLabels'. -/
def releaseLabelsUptoCard : Claim7 := { stood := { row := releaseLabelsUptoRow, standIns := [], harness := (true, "572dc6ac0516e634c3c84f6b88b4ce339b259886cc0fc112c84e9e8cd90a9bb7"), looks := false }, kinds := [], alts := [], laidByText := true, laidKinds := [.data, .widerDeep, .widerDeep, .pinned], laidTests := true, laidLooks := .later }
def ReleaseLabelsUptoCardSaid : Prop := Claim7.holds Tryz.pinned (.plain (OpenSpec.upto releaseLabelsSpec)) releaseLabelsUptoCard

/-- THE SECOND FORM's CARD OF 'invigilatorlaw28.ReleaseValues'. -/
def releaseValuesUptoCard : Claim7 := { stood := { row := releaseValuesUptoRow, standIns := [], harness := (true, "572dc6ac0516e634c3c84f6b88b4ce339b259886cc0fc112c84e9e8cd90a9bb7"), looks := false }, kinds := [], alts := [], laidByText := true, laidKinds := [.data, .widerDeep, .widerDeep, .pinned], laidTests := true, laidLooks := .later }
def ReleaseValuesUptoCardSaid : Prop := Claim7.holds Tryz.pinned (.plain (OpenSpec.upto releaseValuesSpec)) releaseValuesUptoCard

/-- THE SECOND FORM's CARD OF 'invigilatorlaw28.ReleaseChecks'. -/
def releaseChecksUptoCard : Claim7 := { stood := { row := releaseChecksUptoRow, standIns := [], harness := (true, "572dc6ac0516e634c3c84f6b88b4ce339b259886cc0fc112c84e9e8cd90a9bb7"), looks := false }, kinds := [], alts := [], laidByText := true, laidKinds := [.data, .widerDeep, .widerDeep, .pinned], laidTests := true, laidLooks := .later }
def ReleaseChecksUptoCardSaid : Prop := Claim7.holds Tryz.pinned (.plain (OpenSpec.upto releaseChecksSpec)) releaseChecksUptoCard

/-- THE SECOND FORM's CARD OF 'invigilatorlaw28.ReleaseMarks'. -/
def releaseMarksUptoCard : Claim7 := { stood := { row := releaseMarksUptoRow, standIns := [], harness := (true, "572dc6ac0516e634c3c84f6b88b4ce339b259886cc0fc112c84e9e8cd90a9bb7"), looks := false }, kinds := [], alts := [], laidByText := true, laidKinds := [.data, .widerDeep, .widerDeep, .pinned], laidTests := true, laidLooks := .later }
def ReleaseMarksUptoCardSaid : Prop := Claim7.holds Tryz.pinned (.plain (OpenSpec.upto releaseMarksSpec)) releaseMarksUptoCard

/-- THE SECOND FORM's CARD OF 'invigilatorlaw28.ReleaseKnown'. -/
def releaseKnownUptoCard : Claim7 := { stood := { row := releaseKnownUptoRow, standIns := [], harness := (true, "572dc6ac0516e634c3c84f6b88b4ce339b259886cc0fc112c84e9e8cd90a9bb7"), looks := false }, kinds := [], alts := [], laidByText := true, laidKinds := [.data, .widerDeep, .widerDeep, .pinned], laidTests := true, laidLooks := .later }
def ReleaseKnownUptoCardSaid : Prop := Claim7.holds Tryz.pinned (.plain (OpenSpec.upto releaseKnownSpec)) releaseKnownUptoCard
end Rows
end Go.Proofs.YtefjegpcbdkckaaGreatDoor
