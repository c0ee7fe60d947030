/-
  DERIVED. GIVEN WITH THE SEED: THE CARDS: each row of YtpblckfedfcdkaaGreatDoorRows.lean that lists a variable, with what it lists TIED to the program's text (the seventh form; the later family's looks); each row that meets fmt, with fmt's text TOLD by the authors' own Lean function (tested against real Go, not proved from fmt's source: count such statements apart). THE CARD IS WHAT COUNTS. Prove the row's statement (the work); the ties are given (YtpblckfedfcdkaaGreatDoorTie.lean); close each card by the builder's one call (the guide's Derived/Test/ToyasCard.lean, 'card_holds'). Laid BY PROGRAM, IN A SANDBOX (cutbox-door.mjs). By AI agents, Wed Nov 11 2026. No macro, syntax, notation, axiom, sorry.
-/
import Derived.Test.YtpblckfedfcdkaaGreatDoorRows
import GoSem.ClaimSeven
namespace Go.Proofs.YtpblckfedfcdkaaGreatDoor
namespace Rows

/-- THE TIED CARD OF 'invigilatorlaw19.PolicyChecks'. -/
def policyChecksCard : Claim7 := { stood := { row := policyChecksRow, standIns := [], harness := (true, "170e8a7aa8fa92ab5475549a3805a148b3e762d9deedeec829d6d99f1cae6ff0"), looks := false }, kinds := [], alts := [], laidByText := true, laidKinds := [.data, .data, .data, .data, .widerDeep, .widerDeep, .pinned], laidTests := true, laidLooks := .later }
def PolicyChecksCardSaid : Prop := Claim7.holds Tryz.pinned (.plain (OpenSpec.ofChange policyChecksSpec)) policyChecksCard

/-- THE TIED CARD OF 'invigilatorlaw19.PolicyGood'. -/
def policyGoodCard : Claim7 := { stood := { row := policyGoodRow, standIns := [], harness := (true, "170e8a7aa8fa92ab5475549a3805a148b3e762d9deedeec829d6d99f1cae6ff0"), looks := false }, kinds := [], alts := [], laidByText := true, laidKinds := [.data, .data, .data, .data, .widerDeep, .widerDeep, .pinned], laidTests := true, laidLooks := .later }
def PolicyGoodCardSaid : Prop := Claim7.holds Tryz.pinned (.plain (OpenSpec.ofChange policyGoodSpec)) policyGoodCard

/-- THE TIED CARD OF 'invigilatorlaw19.PolicyFits'. -/
def policyFitsCard : Claim7 := { stood := { row := policyFitsRow, standIns := [], harness := (true, "170e8a7aa8fa92ab5475549a3805a148b3e762d9deedeec829d6d99f1cae6ff0"), looks := false }, kinds := [], alts := [], laidByText := true, laidKinds := [.data, .data, .data, .data, .widerDeep, .widerDeep, .pinned], laidTests := true, laidLooks := .later }
def PolicyFitsCardSaid : Prop := Claim7.holds Tryz.pinned (.plain (OpenSpec.ofChange policyFitsSpec)) policyFitsCard

/-- THE TIED CARD OF 'invigilatorlaw19.PolicyFirst'. -/
def policyFirstCard : Claim7 := { stood := { row := policyFirstRow, standIns := [], harness := (true, "170e8a7aa8fa92ab5475549a3805a148b3e762d9deedeec829d6d99f1cae6ff0"), looks := false }, kinds := [], alts := [], laidByText := true, laidKinds := [.data, .data, .data, .data, .widerDeep, .widerDeep, .pinned], laidTests := true, laidLooks := .later }
def PolicyFirstCardSaid : Prop := Claim7.holds Tryz.pinned (.plain (OpenSpec.ofChange policyFirstSpec)) policyFirstCard

/-- THE TIED CARD OF 'invigilatorlaw19.PolicyFinds'. -/
def policyFindsCard : Claim7 := { stood := { row := policyFindsRow, standIns := [], harness := (true, "170e8a7aa8fa92ab5475549a3805a148b3e762d9deedeec829d6d99f1cae6ff0"), looks := false }, kinds := [], alts := [], laidByText := true, laidKinds := [.data, .data, .data, .data, .widerDeep, .widerDeep, .pinned], laidTests := true, laidLooks := .later }
def PolicyFindsCardSaid : Prop := Claim7.holds Tryz.pinned (.plain (OpenSpec.ofChange policyFindsSpec)) policyFindsCard

/-- THE TIED CARD OF 'invigilatorlaw19.PolicyRules'. -/
def policyRulesCard : Claim7 := { stood := { row := policyRulesRow, standIns := [], harness := (true, "170e8a7aa8fa92ab5475549a3805a148b3e762d9deedeec829d6d99f1cae6ff0"), looks := false }, kinds := [], alts := [], laidByText := true, laidKinds := [.data, .data, .data, .data, .widerDeep, .widerDeep, .pinned], laidTests := true, laidLooks := .later }
def PolicyRulesCardSaid : Prop := Claim7.holds Tryz.pinned (.plain (OpenSpec.ofChange policyRulesSpec)) policyRulesCard

/-- THE TIED CARD OF 'invigilatorlaw19.PolicyKnown'. -/
def policyKnownCard : Claim7 := { stood := { row := policyKnownRow, standIns := [], harness := (true, "170e8a7aa8fa92ab5475549a3805a148b3e762d9deedeec829d6d99f1cae6ff0"), looks := false }, kinds := [], alts := [], laidByText := true, laidKinds := [.data, .data, .data, .data, .widerDeep, .widerDeep, .pinned], laidTests := true, laidLooks := .later }
def PolicyKnownCardSaid : Prop := Claim7.holds Tryz.pinned (.plain (OpenSpec.ofChange policyKnownSpec)) policyKnownCard

/-- THE SECOND FORM's CARD OF 'invigilatorlaw19.PolicyChecks'. -/
def policyChecksUptoCard : Claim7 := { stood := { row := policyChecksUptoRow, standIns := [], harness := (true, "170e8a7aa8fa92ab5475549a3805a148b3e762d9deedeec829d6d99f1cae6ff0"), looks := false }, kinds := [], alts := [], laidByText := true, laidKinds := [.data, .data, .data, .data, .widerDeep, .widerDeep, .pinned], laidTests := true, laidLooks := .later }
def PolicyChecksUptoCardSaid : Prop := Claim7.holds Tryz.pinned (.plain (OpenSpec.upto policyChecksSpec)) policyChecksUptoCard

/-- THE SECOND FORM's CARD OF 'invigilatorlaw19.PolicyGood'. -/
def policyGoodUptoCard : Claim7 := { stood := { row := policyGoodUptoRow, standIns := [], harness := (true, "170e8a7aa8fa92ab5475549a3805a148b3e762d9deedeec829d6d99f1cae6ff0"), looks := false }, kinds := [], alts := [], laidByText := true, laidKinds := [.data, .data, .data, .data, .widerDeep, .widerDeep, .pinned], laidTests := true, laidLooks := .later }
def PolicyGoodUptoCardSaid : Prop := Claim7.holds Tryz.pinned (.plain (OpenSpec.upto policyGoodSpec)) policyGoodUptoCard

/-- THE SECOND FORM's CARD OF 'invigilatorlaw19.PolicyFits'. -/
def policyFitsUptoCard : Claim7 := { stood := { row := policyFitsUptoRow, standIns := [], harness := (true, "170e8a7aa8fa92ab5475549a3805a148b3e762d9deedeec829d6d99f1cae6ff0"), looks := false }, kinds := [], alts := [], laidByText := true, laidKinds := [.data, .data, .data, .data, .widerDeep, .widerDeep, .pinned], laidTests := true, laidLooks := .later }
def PolicyFitsUptoCardSaid : Prop := Claim7.holds Tryz.pinned (.plain (OpenSpec.upto policyFitsSpec)) policyFitsUptoCard

/-- THE SECOND FORM's CARD OF 'invigilatorlaw19.PolicyFirst'. -/
def policyFirstUptoCard : Claim7 := { stood := { row := policyFirstUptoRow, standIns := [], harness := (true, "170e8a7aa8fa92ab5475549a3805a148b3e762d9deedeec829d6d99f1cae6ff0"), looks := false }, kinds := [], alts := [], laidByText := true, laidKinds := [.data, .data, .data, .data, .widerDeep, .widerDeep, .pinned], laidTests := true, laidLooks := .later }
def PolicyFirstUptoCardSaid : Prop := Claim7.holds Tryz.pinned (.plain (OpenSpec.upto policyFirstSpec)) policyFirstUptoCard

/-- THE SECOND FORM's CARD OF 'invigilatorlaw19.PolicyFinds'. -/
def policyFindsUptoCard : Claim7 := { stood := { row := policyFindsUptoRow, standIns := [], harness := (true, "170e8a7aa8fa92ab5475549a3805a148b3e762d9deedeec829d6d99f1cae6ff0"), looks := false }, kinds := [], alts := [], laidByText := true, laidKinds := [.data, .data, .data, .data, .widerDeep, .widerDeep, .pinned], laidTests := true, laidLooks := .later }
def PolicyFindsUptoCardSaid : Prop := Claim7.holds Tryz.pinned (.plain (OpenSpec.upto policyFindsSpec)) policyFindsUptoCard

/-- THE SECOND FORM's CARD OF 'invigilatorlaw19.PolicyRules'. -/
def policyRulesUptoCard : Claim7 := { stood := { row := policyRulesUptoRow, standIns := [], harness := (true, "170e8a7aa8fa92ab5475549a3805a148b3e762d9deedeec829d6d99f1cae6ff0"), looks := false }, kinds := [], alts := [], laidByText := true, laidKinds := [.data, .data, .data, .data, .widerDeep, .widerDeep, .pinned], laidTests := true, laidLooks := .later }
def PolicyRulesUptoCardSaid : Prop := Claim7.holds Tryz.pinned (.plain (OpenSpec.upto policyRulesSpec)) policyRulesUptoCard

/-- THE SECOND FORM's CARD OF 'invigilatorlaw19.PolicyKnown'. -/
def policyKnownUptoCard : Claim7 := { stood := { row := policyKnownUptoRow, standIns := [], harness := (true, "170e8a7aa8fa92ab5475549a3805a148b3e762d9deedeec829d6d99f1cae6ff0"), looks := false }, kinds := [], alts := [], laidByText := true, laidKinds := [.data, .data, .data, .data, .widerDeep, .widerDeep, .pinned], laidTests := true, laidLooks := .later }
def PolicyKnownUptoCardSaid : Prop := Claim7.holds Tryz.pinned (.plain (OpenSpec.upto policyKnownSpec)) policyKnownUptoCard
end Rows
end Go.Proofs.YtpblckfedfcdkaaGreatDoor
