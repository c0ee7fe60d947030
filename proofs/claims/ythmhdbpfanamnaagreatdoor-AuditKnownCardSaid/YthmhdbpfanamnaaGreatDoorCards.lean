/-
  DERIVED. GIVEN WITH THE SEED: THE CARDS: each row of YthmhdbpfanamnaaGreatDoorRows.lean that lists a variable, with what it lists TIED to the program's text (the seventh form; the later family's looks); each row that meets fmt, with fmt's text TOLD by the authors' own Lean function (tested against real Go, not proved from fmt's source: count such statements apart). THE CARD IS WHAT COUNTS. Prove the row's statement (the work); the ties are given (YthmhdbpfanamnaaGreatDoorTie.lean); close each card by the builder's one call (the guide's Derived/Test/ToyasCard.lean, 'card_holds'). Laid BY PROGRAM, IN A SANDBOX (cutbox-door.mjs). By AI agents, Wed Nov 11 2026. No macro, syntax, notation, axiom, sorry.
-/
import Derived.Test.YthmhdbpfanamnaaGreatDoorRows
import GoSem.ClaimSeven
namespace Go.Proofs.YthmhdbpfanamnaaGreatDoor
namespace Rows

/-- THE TIED CARD OF 'invigilatorlaw30.AuditViews'. -/
def auditViewsCard : Claim7 := { stood := { row := auditViewsRow, standIns := [], harness := (true, "0cc3ae9cd040eda8abd11af61cb4333be12624c9239d208df97bd1f43b472c29"), looks := false }, kinds := [], alts := [], laidByText := true, laidKinds := [.data, .data, .data, .data, .widerDeep, .widerDeep, .pinned], laidTests := true, laidLooks := .later }
def AuditViewsCardSaid : Prop := Claim7.holds Tryz.pinned (.plain (OpenSpec.ofChange auditViewsSpec)) auditViewsCard

/-- THE TIED CARD OF 'invigilatorlaw30.AuditTotals'. -/
def auditTotalsCard : Claim7 := { stood := { row := auditTotalsRow, standIns := [], harness := (true, "0cc3ae9cd040eda8abd11af61cb4333be12624c9239d208df97bd1f43b472c29"), looks := false }, kinds := [], alts := [], laidByText := true, laidKinds := [.data, .data, .data, .data, .widerDeep, .widerDeep, .pinned], laidTests := true, laidLooks := .later }
def AuditTotalsCardSaid : Prop := Claim7.holds Tryz.pinned (.plain (OpenSpec.ofChange auditTotalsSpec)) auditTotalsCard

/-- THE TIED CARD OF 'invigilatorlaw30.AuditAgrees'. -/
def auditAgreesCard : Claim7 := { stood := { row := auditAgreesRow, standIns := [], harness := (true, "0cc3ae9cd040eda8abd11af61cb4333be12624c9239d208df97bd1f43b472c29"), looks := false }, kinds := [], alts := [], laidByText := true, laidKinds := [.data, .data, .data, .data, .widerDeep, .widerDeep, .pinned], laidTests := true, laidLooks := .later }
def AuditAgreesCardSaid : Prop := Claim7.holds Tryz.pinned (.plain (OpenSpec.ofChange auditAgreesSpec)) auditAgreesCard

/-- THE TIED CARD OF 'invigilatorlaw30.AuditAdds'. -/
def auditAddsCard : Claim7 := { stood := { row := auditAddsRow, standIns := [], harness := (true, "0cc3ae9cd040eda8abd11af61cb4333be12624c9239d208df97bd1f43b472c29"), looks := false }, kinds := [], alts := [], laidByText := true, laidKinds := [.data, .data, .data, .data, .widerDeep, .widerDeep, .pinned], laidTests := true, laidLooks := .later }
def AuditAddsCardSaid : Prop := Claim7.holds Tryz.pinned (.plain (OpenSpec.ofChange auditAddsSpec)) auditAddsCard

/-- THE TIED CARD OF 'invigilatorlaw30.AuditKnown'. -/
def auditKnownCard : Claim7 := { stood := { row := auditKnownRow, standIns := [], harness := (true, "0cc3ae9cd040eda8abd11af61cb4333be12624c9239d208df97bd1f43b472c29"), looks := false }, kinds := [], alts := [], laidByText := true, laidKinds := [.data, .data, .data, .data, .widerDeep, .widerDeep, .pinned], laidTests := true, laidLooks := .later }
def AuditKnownCardSaid : Prop := Claim7.holds Tryz.pinned (.plain (OpenSpec.ofChange auditKnownSpec)) auditKnownCard

/-- THE SECOND FORM's CARD OF 'invigilatorlaw30.AuditViews'. -/
def auditViewsUptoCard : Claim7 := { stood := { row := auditViewsUptoRow, standIns := [], harness := (true, "0cc3ae9cd040eda8abd11af61cb4333be12624c9239d208df97bd1f43b472c29"), looks := false }, kinds := [], alts := [], laidByText := true, laidKinds := [.data, .data, .data, .data, .widerDeep, .widerDeep, .pinned], laidTests := true, laidLooks := .later }
def AuditViewsUptoCardSaid : Prop := Claim7.holds Tryz.pinned (.plain (OpenSpec.upto auditViewsSpec)) auditViewsUptoCard

/-- THE SECOND FORM's CARD OF 'invigilatorlaw30.AuditTotals'. -/
def auditTotalsUptoCard : Claim7 := { stood := { row := auditTotalsUptoRow, standIns := [], harness := (true, "0cc3ae9cd040eda8abd11af61cb4333be12624c9239d208df97bd1f43b472c29"), looks := false }, kinds := [], alts := [], laidByText := true, laidKinds := [.data, .data, .data, .data, .widerDeep, .widerDeep, .pinned], laidTests := true, laidLooks := .later }
def AuditTotalsUptoCardSaid : Prop := Claim7.holds Tryz.pinned (.plain (OpenSpec.upto auditTotalsSpec)) auditTotalsUptoCard

/-- THE SECOND FORM's CARD OF 'invigilatorlaw30.AuditAgrees'. -/
def auditAgreesUptoCard : Claim7 := { stood := { row := auditAgreesUptoRow, standIns := [], harness := (true, "0cc3ae9cd040eda8abd11af61cb4333be12624c9239d208df97bd1f43b472c29"), looks := false }, kinds := [], alts := [], laidByText := true, laidKinds := [.data, .data, .data, .data, .widerDeep, .widerDeep, .pinned], laidTests := true, laidLooks := .later }
def AuditAgreesUptoCardSaid : Prop := Claim7.holds Tryz.pinned (.plain (OpenSpec.upto auditAgreesSpec)) auditAgreesUptoCard

/-- THE SECOND FORM's CARD OF 'invigilatorlaw30.AuditAdds'. -/
def auditAddsUptoCard : Claim7 := { stood := { row := auditAddsUptoRow, standIns := [], harness := (true, "0cc3ae9cd040eda8abd11af61cb4333be12624c9239d208df97bd1f43b472c29"), looks := false }, kinds := [], alts := [], laidByText := true, laidKinds := [.data, .data, .data, .data, .widerDeep, .widerDeep, .pinned], laidTests := true, laidLooks := .later }
def AuditAddsUptoCardSaid : Prop := Claim7.holds Tryz.pinned (.plain (OpenSpec.upto auditAddsSpec)) auditAddsUptoCard

/-- THE SECOND FORM's CARD OF 'invigilatorlaw30.AuditKnown'. -/
def auditKnownUptoCard : Claim7 := { stood := { row := auditKnownUptoRow, standIns := [], harness := (true, "0cc3ae9cd040eda8abd11af61cb4333be12624c9239d208df97bd1f43b472c29"), looks := false }, kinds := [], alts := [], laidByText := true, laidKinds := [.data, .data, .data, .data, .widerDeep, .widerDeep, .pinned], laidTests := true, laidLooks := .later }
def AuditKnownUptoCardSaid : Prop := Claim7.holds Tryz.pinned (.plain (OpenSpec.upto auditKnownSpec)) auditKnownUptoCard
end Rows
end Go.Proofs.YthmhdbpfanamnaaGreatDoor
