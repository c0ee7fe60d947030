/-
  DERIVED. GIVEN WITH THE SEED: THE CARDS: each row of YtcgehmlhafjfkaaGreatDoorRows.lean that lists a variable, with what it lists TIED to the program's text (the seventh form; the later family's looks); each row that meets fmt, with fmt's text TOLD by the authors' own Lean function (tested against real Go, not proved from fmt's source: count such statements apart). THE CARD IS WHAT COUNTS. Prove the row's statement (the work); the ties are given (YtcgehmlhafjfkaaGreatDoorTie.lean); close each card by the builder's one call (the guide's Derived/Test/ToyasCard.lean, 'card_holds'). Laid BY PROGRAM, IN A SANDBOX (cutbox-door.mjs). By AI agents, Wed Nov 11 2026. No macro, syntax, notation, axiom, sorry.
-/
import Derived.Test.YtcgehmlhafjfkaaGreatDoorRows
import GoSem.ClaimSeven
namespace Go.Proofs.YtcgehmlhafjfkaaGreatDoor
namespace Rows

/-- THE TIED CARD OF 'invigilatorlaw31.ViewMore'. -/
def viewMoreCard : Claim7 := { stood := { row := viewMoreRow, standIns := [], harness := (true, "d54b46026cb40b3d6c167b8c4ff778aa35dcff9d9537fb272e9aeb13bcd7063f"), looks := false }, kinds := [], alts := [], laidByText := true, laidKinds := [.data, .widerDeep, .widerDeep, .pinned], laidTests := true, laidLooks := .later }
def ViewMoreCardSaid : Prop := Claim7.holds Tryz.pinned (.plain (OpenSpec.ofChange viewMoreSpec)) viewMoreCard

/-- THE TIED CARD OF 'invigilatorlaw31.ViewKnown'. -/
def viewKnownCard : Claim7 := { stood := { row := viewKnownRow, standIns := [], harness := (true, "d54b46026cb40b3d6c167b8c4ff778aa35dcff9d9537fb272e9aeb13bcd7063f"), looks := false }, kinds := [], alts := [], laidByText := true, laidKinds := [.data, .widerDeep, .widerDeep, .pinned], laidTests := true, laidLooks := .later }
def ViewKnownCardSaid : Prop := Claim7.holds Tryz.pinned (.plain (OpenSpec.ofChange viewKnownSpec)) viewKnownCard

/-- THE TIED CARD OF 'invigilatorlaw31.ViewEqual'. -/
def viewEqualCard : Claim7 := { stood := { row := viewEqualRow, standIns := [], harness := (true, "d54b46026cb40b3d6c167b8c4ff778aa35dcff9d9537fb272e9aeb13bcd7063f"), looks := false }, kinds := [], alts := [], laidByText := true, laidKinds := [.data, .widerDeep, .widerDeep, .pinned], laidTests := true, laidLooks := .later }
def ViewEqualCardSaid : Prop := Claim7.holds Tryz.pinned (.plain (OpenSpec.ofChange viewEqualSpec)) viewEqualCard

/-- THE TIED CARD OF 'invigilatorlaw31.ViewCompares'. -/
def viewComparesCard : Claim7 := { stood := { row := viewComparesRow, standIns := [], harness := (true, "d54b46026cb40b3d6c167b8c4ff778aa35dcff9d9537fb272e9aeb13bcd7063f"), looks := false }, kinds := [], alts := [], laidByText := true, laidKinds := [.data, .widerDeep, .widerDeep, .pinned], laidTests := true, laidLooks := .later }
def ViewComparesCardSaid : Prop := Claim7.holds Tryz.pinned (.plain (OpenSpec.ofChange viewComparesSpec)) viewComparesCard

/-- THE TIED CARD OF 'invigilatorlaw31.ViewChecks'. -/
def viewChecksCard : Claim7 := { stood := { row := viewChecksRow, standIns := [], harness := (true, "d54b46026cb40b3d6c167b8c4ff778aa35dcff9d9537fb272e9aeb13bcd7063f"), looks := false }, kinds := [], alts := [], laidByText := true, laidKinds := [.data, .widerDeep, .widerDeep, .pinned], laidTests := true, laidLooks := .later }
def ViewChecksCardSaid : Prop := Claim7.holds Tryz.pinned (.plain (OpenSpec.ofChange viewChecksSpec)) viewChecksCard

/-- THE TIED CARD OF 'invigilatorlaw31.ViewChannels'. -/
def viewChannelsCard : Claim7 := { stood := { row := viewChannelsRow, standIns := [], harness := (true, "d54b46026cb40b3d6c167b8c4ff778aa35dcff9d9537fb272e9aeb13bcd7063f"), looks := false }, kinds := [], alts := [], laidByText := true, laidKinds := [.data, .widerDeep, .widerDeep, .pinned], laidTests := true, laidLooks := .later }
def ViewChannelsCardSaid : Prop := Claim7.holds Tryz.pinned (.plain (OpenSpec.ofChange viewChannelsSpec)) viewChannelsCard

/-- THE SECOND FORM's CARD OF 'invigilatorlaw31.ViewMore'. -/
def viewMoreUptoCard : Claim7 := { stood := { row := viewMoreUptoRow, standIns := [], harness := (true, "d54b46026cb40b3d6c167b8c4ff778aa35dcff9d9537fb272e9aeb13bcd7063f"), looks := false }, kinds := [], alts := [], laidByText := true, laidKinds := [.data, .widerDeep, .widerDeep, .pinned], laidTests := true, laidLooks := .later }
def ViewMoreUptoCardSaid : Prop := Claim7.holds Tryz.pinned (.plain (OpenSpec.upto viewMoreSpec)) viewMoreUptoCard

/-- THE SECOND FORM's CARD OF 'invigilatorlaw31.ViewKnown'. -/
def viewKnownUptoCard : Claim7 := { stood := { row := viewKnownUptoRow, standIns := [], harness := (true, "d54b46026cb40b3d6c167b8c4ff778aa35dcff9d9537fb272e9aeb13bcd7063f"), looks := false }, kinds := [], alts := [], laidByText := true, laidKinds := [.data, .widerDeep, .widerDeep, .pinned], laidTests := true, laidLooks := .later }
def ViewKnownUptoCardSaid : Prop := Claim7.holds Tryz.pinned (.plain (OpenSpec.upto viewKnownSpec)) viewKnownUptoCard

/-- THE SECOND FORM's CARD OF 'invigilatorlaw31.ViewEqual'. -/
def viewEqualUptoCard : Claim7 := { stood := { row := viewEqualUptoRow, standIns := [], harness := (true, "d54b46026cb40b3d6c167b8c4ff778aa35dcff9d9537fb272e9aeb13bcd7063f"), looks := false }, kinds := [], alts := [], laidByText := true, laidKinds := [.data, .widerDeep, .widerDeep, .pinned], laidTests := true, laidLooks := .later }
def ViewEqualUptoCardSaid : Prop := Claim7.holds Tryz.pinned (.plain (OpenSpec.upto viewEqualSpec)) viewEqualUptoCard

/-- THE SECOND FORM's CARD OF 'invigilatorlaw31.ViewCompares'. -/
def viewComparesUptoCard : Claim7 := { stood := { row := viewComparesUptoRow, standIns := [], harness := (true, "d54b46026cb40b3d6c167b8c4ff778aa35dcff9d9537fb272e9aeb13bcd7063f"), looks := false }, kinds := [], alts := [], laidByText := true, laidKinds := [.data, .widerDeep, .widerDeep, .pinned], laidTests := true, laidLooks := .later }
def ViewComparesUptoCardSaid : Prop := Claim7.holds Tryz.pinned (.plain (OpenSpec.upto viewComparesSpec)) viewComparesUptoCard

/-- THE SECOND FORM's CARD OF 'invigilatorlaw31.ViewChecks'. -/
def viewChecksUptoCard : Claim7 := { stood := { row := viewChecksUptoRow, standIns := [], harness := (true, "d54b46026cb40b3d6c167b8c4ff778aa35dcff9d9537fb272e9aeb13bcd7063f"), looks := false }, kinds := [], alts := [], laidByText := true, laidKinds := [.data, .widerDeep, .widerDeep, .pinned], laidTests := true, laidLooks := .later }
def ViewChecksUptoCardSaid : Prop := Claim7.holds Tryz.pinned (.plain (OpenSpec.upto viewChecksSpec)) viewChecksUptoCard

/-- THE SECOND FORM's CARD OF 'invigilatorlaw31.ViewChannels'. -/
def viewChannelsUptoCard : Claim7 := { stood := { row := viewChannelsUptoRow, standIns := [], harness := (true, "d54b46026cb40b3d6c167b8c4ff778aa35dcff9d9537fb272e9aeb13bcd7063f"), looks := false }, kinds := [], alts := [], laidByText := true, laidKinds := [.data, .widerDeep, .widerDeep, .pinned], laidTests := true, laidLooks := .later }
def ViewChannelsUptoCardSaid : Prop := Claim7.holds Tryz.pinned (.plain (OpenSpec.upto viewChannelsSpec)) viewChannelsUptoCard
end Rows
end Go.Proofs.YtcgehmlhafjfkaaGreatDoor
