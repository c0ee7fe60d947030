/-
  NARROWER THAN 'FOR EVERY INPUT', by the rows' own cells (each row's printed sentence says how): ReleaseDoes: laid · ReleaseMays: laid · ReleaseOrders: laid · ReleaseEnds: laid · ReleaseLabels: laid · ReleaseValues: laid · ReleaseChecks: laid · ReleaseMarks: laid · ReleaseKnown: laid.
  DERIVED. THE GIVEN ROWS OF THIS SEAT. 9 by the template 'for every input the law returns true; each argument reads behind the call as it read before'; 0 by the template 'total and deterministic' (their statements: YtefjegpcbdkckaaGreatDoorTotals.lean).
  GIVEN WITH THE SEED: the statements are not yours to turn. If you find one false, say at which input.
  Laid BY PROGRAM, IN A SANDBOX (cutbox-rows.mjs): the forced cells as the released guide's own fill.sh prints them over the translation eb9ed2ac673b3a2e… (all of the seat's roots in one cut). By AI agents, Wed Nov 11 2026. No macro, syntax, notation, axiom, sorry.
-/
import Derived.Test.YtefjegpcbdkckaaGreatDoorChecked
import GoSem.PinnedTables
import GoSem.Claim
import GoSem.ClaimJoined
import GoSem.ClaimMapViews
import Derived.JoinedTies
import Derived.KernelRfl
namespace Go.Proofs.YtefjegpcbdkckaaGreatDoor
/- THE CELL 'sum', in the pinned program and in every row, IS THE sha256 OF THE DUMP (.gsa) THAT YtefjegpcbdkckaaGreatDoorProg.lean LOADS. Nothing in Lean hashes anything: it is a label: what it is worth is what the hold of that sum in a sandbox is worth. -/
noncomputable def Tryz.pinned : Pinned := { name := "ytefjegpcbdkckaagreatdoor", sum := "eb9ed2ac673b3a2e68fe6e99ca39ce4436220f4486d6f2483c58efe3edd2668e", checked := Tryz.checked }
namespace Rows
def none {H : Type} : Left H := { results := [], args := [] }

/- WHAT THE LISTED PACKAGE-LEVEL VARIABLES READ AS WHEN THE CALL BEGINS. Each datum BY PROGRAM (the guide's laid-datum.mjs) off the statement by which the dump's own 'gosem.cut.vars' lays the variable. In a bare row this is a premise. The card (YtefjegpcbdkckaaGreatDoorCards.lean) ties it to the program's text. -/
def laid_unicode_utf8_acceptRanges {H : Type} : DataW H := .agg [.agg [.lit (.int .u8 128), .lit (.int .u8 191)], .agg [.lit (.int .u8 160), .lit (.int .u8 191)], .agg [.lit (.int .u8 128), .lit (.int .u8 159)], .agg [.lit (.int .u8 144), .lit (.int .u8 191)], .agg [.lit (.int .u8 128), .lit (.int .u8 143)], .agg [.lit (.int .u8 0), .lit (.int .u8 0)], .agg [.lit (.int .u8 0), .lit (.int .u8 0)], .agg [.lit (.int .u8 0), .lit (.int .u8 0)], .agg [.lit (.int .u8 0), .lit (.int .u8 0)], .agg [.lit (.int .u8 0), .lit (.int .u8 0)], .agg [.lit (.int .u8 0), .lit (.int .u8 0)], .agg [.lit (.int .u8 0), .lit (.int .u8 0)], .agg [.lit (.int .u8 0), .lit (.int .u8 0)], .agg [.lit (.int .u8 0), .lit (.int .u8 0)], .agg [.lit (.int .u8 0), .lit (.int .u8 0)], .agg [.lit (.int .u8 0), .lit (.int .u8 0)]]
def laid_invigilator_prims_numbers {H : Type} : DataW H := .slice [.lit (.string [105, 110, 105, 110]), .lit (.string [105, 48, 105, 110, 105, 110]), .lit (.string [105, 110, 105, 48, 105, 110]), .lit (.string [105, 110, 105, 110, 105, 110])] []
def laid_invigilator_prims_alike {H : Type} : DataW H := .slice [.lit (.string [107, 48, 107, 110, 105, 110]), .lit (.string [107, 110, 107, 48, 105, 110]), .lit (.string [107, 110, 107, 110, 105, 110])] []
/-- One of Go's own tables, pinned by name: the form's constant. -/
def laid_unicode_utf8_first : DataW Unit := Go.Pinned.utf8First

/-- 'invigilatorlaw28.ReleaseDoes': WHATEVER THE INPUT: true; the input reads as it did. -/
def releaseDoesSpec : ChangeSpec := { name := "releaseDoes", fn := fun _ => fun
  | [d1, d2, d3] => { results := [.lit (.bool true)], args := [d1, d2, d3] }
  | _ => none }
def releaseDoesRow : OpenClaim := { program := "ytefjegpcbdkckaagreatdoor", sum := "eb9ed2ac673b3a2e68fe6e99ca39ce4436220f4486d6f2483c58efe3edd2668e", func := "invigilator/invigilatorlaw28.ReleaseDoes", spec := "releaseDoes", inPlace := ["internal/bytealg.IndexByteString", "internal/bytealg.IndexString"], unfollowed := true, recurses := true, named := ["unicode/utf8.first", "unicode/utf8.acceptRanges", "invigilator/prims.numbers", "invigilator/prims.alike", "internal/bytealg.MaxLen"], plainKeys := false, apart := false, laid := [("unicode/utf8.acceptRanges", laid_unicode_utf8_acceptRanges), ("invigilator/prims.numbers", laid_invigilator_prims_numbers), ("invigilator/prims.alike", laid_invigilator_prims_alike), ("unicode/utf8.first", laid_unicode_utf8_first)] }
def ReleaseDoesSaid : Prop := releaseDoesRow.holds Tryz.pinned (OpenSpec.ofChange releaseDoesSpec)

/-- ITS FALSE NEIGHBOUR: 'it returns false'. Refute it at one input. -/
def releaseDoesWrong : ChangeSpec := { name := "releaseDoes", fn := fun _ => fun
  | [d1, d2, d3] => { results := [.lit (.bool false)], args := [d1, d2, d3] }
  | _ => none }
def ReleaseDoesWrongFalsely : Prop := releaseDoesRow.holds Tryz.pinned (OpenSpec.ofChange releaseDoesWrong)

/-- 'invigilatorlaw28.ReleaseMays': WHATEVER THE INPUT: true; the input reads as it did. -/
def releaseMaysSpec : ChangeSpec := { name := "releaseMays", fn := fun _ => fun
  | [d1, d2] => { results := [.lit (.bool true)], args := [d1, d2] }
  | _ => none }
def releaseMaysRow : OpenClaim := { program := "ytefjegpcbdkckaagreatdoor", sum := "eb9ed2ac673b3a2e68fe6e99ca39ce4436220f4486d6f2483c58efe3edd2668e", func := "invigilator/invigilatorlaw28.ReleaseMays", spec := "releaseMays", inPlace := ["internal/bytealg.IndexByteString", "internal/bytealg.IndexString"], unfollowed := true, recurses := true, named := ["unicode/utf8.first", "unicode/utf8.acceptRanges", "invigilator/prims.numbers", "invigilator/prims.alike", "internal/bytealg.MaxLen"], plainKeys := false, apart := false, laid := [("unicode/utf8.acceptRanges", laid_unicode_utf8_acceptRanges), ("invigilator/prims.numbers", laid_invigilator_prims_numbers), ("invigilator/prims.alike", laid_invigilator_prims_alike), ("unicode/utf8.first", laid_unicode_utf8_first)] }
def ReleaseMaysSaid : Prop := releaseMaysRow.holds Tryz.pinned (OpenSpec.ofChange releaseMaysSpec)

/-- ITS FALSE NEIGHBOUR: 'it returns false'. Refute it at one input. -/
def releaseMaysWrong : ChangeSpec := { name := "releaseMays", fn := fun _ => fun
  | [d1, d2] => { results := [.lit (.bool false)], args := [d1, d2] }
  | _ => none }
def ReleaseMaysWrongFalsely : Prop := releaseMaysRow.holds Tryz.pinned (OpenSpec.ofChange releaseMaysWrong)

/-- 'invigilatorlaw28.ReleaseOrders': WHATEVER THE INPUT: true; the input reads as it did. -/
def releaseOrdersSpec : ChangeSpec := { name := "releaseOrders", fn := fun _ => fun
  | [d1, d2, d3] => { results := [.lit (.bool true)], args := [d1, d2, d3] }
  | _ => none }
def releaseOrdersRow : OpenClaim := { program := "ytefjegpcbdkckaagreatdoor", sum := "eb9ed2ac673b3a2e68fe6e99ca39ce4436220f4486d6f2483c58efe3edd2668e", func := "invigilator/invigilatorlaw28.ReleaseOrders", spec := "releaseOrders", inPlace := ["internal/bytealg.IndexByteString", "internal/bytealg.IndexString"], unfollowed := true, recurses := true, named := ["unicode/utf8.first", "unicode/utf8.acceptRanges", "invigilator/prims.numbers", "invigilator/prims.alike", "internal/bytealg.MaxLen"], plainKeys := false, apart := false, laid := [("unicode/utf8.acceptRanges", laid_unicode_utf8_acceptRanges), ("invigilator/prims.numbers", laid_invigilator_prims_numbers), ("invigilator/prims.alike", laid_invigilator_prims_alike), ("unicode/utf8.first", laid_unicode_utf8_first)] }
def ReleaseOrdersSaid : Prop := releaseOrdersRow.holds Tryz.pinned (OpenSpec.ofChange releaseOrdersSpec)

/-- ITS FALSE NEIGHBOUR: 'it returns false'. Refute it at one input. -/
def releaseOrdersWrong : ChangeSpec := { name := "releaseOrders", fn := fun _ => fun
  | [d1, d2, d3] => { results := [.lit (.bool false)], args := [d1, d2, d3] }
  | _ => none }
def ReleaseOrdersWrongFalsely : Prop := releaseOrdersRow.holds Tryz.pinned (OpenSpec.ofChange releaseOrdersWrong)

/-- 'invigilatorlaw28.ReleaseEnds': WHATEVER THE INPUT: true; the input reads as it did. -/
def releaseEndsSpec : ChangeSpec := { name := "releaseEnds", fn := fun _ => fun
  | [d1, d2] => { results := [.lit (.bool true)], args := [d1, d2] }
  | _ => none }
def releaseEndsRow : OpenClaim := { program := "ytefjegpcbdkckaagreatdoor", sum := "eb9ed2ac673b3a2e68fe6e99ca39ce4436220f4486d6f2483c58efe3edd2668e", func := "invigilator/invigilatorlaw28.ReleaseEnds", spec := "releaseEnds", inPlace := ["internal/bytealg.IndexByteString", "internal/bytealg.IndexString"], unfollowed := true, recurses := true, named := ["unicode/utf8.first", "unicode/utf8.acceptRanges", "invigilator/prims.numbers", "invigilator/prims.alike", "internal/bytealg.MaxLen"], plainKeys := false, apart := false, laid := [("unicode/utf8.acceptRanges", laid_unicode_utf8_acceptRanges), ("invigilator/prims.numbers", laid_invigilator_prims_numbers), ("invigilator/prims.alike", laid_invigilator_prims_alike), ("unicode/utf8.first", laid_unicode_utf8_first)] }
def ReleaseEndsSaid : Prop := releaseEndsRow.holds Tryz.pinned (OpenSpec.ofChange releaseEndsSpec)

/-- ITS FALSE NEIGHBOUR: 'it returns false'. Refute it at one input. -/
def releaseEndsWrong : ChangeSpec := { name := "releaseEnds", fn := fun _ => fun
  | [d1, d2] => { results := [.lit (.bool false)], args := [d1, d2] }
  | _ => none }
def ReleaseEndsWrongFalsely : Prop := releaseEndsRow.holds Tryz.pinned (OpenSpec.ofChange releaseEndsWrong)

/-- 'invigilatorlaw28.ReleaseLabels': WHATEVER THE INPUT: true; the input reads as it did. -/
def releaseLabelsSpec : ChangeSpec := { name := "releaseLabels", fn := fun _ => fun
  | [d1, d2] => { results := [.lit (.bool true)], args := [d1, d2] }
  | _ => none }
def releaseLabelsRow : OpenClaim := { program := "ytefjegpcbdkckaagreatdoor", sum := "eb9ed2ac673b3a2e68fe6e99ca39ce4436220f4486d6f2483c58efe3edd2668e", func := "invigilator/invigilatorlaw28.ReleaseLabels", spec := "releaseLabels", inPlace := ["internal/bytealg.IndexByteString", "internal/bytealg.IndexString"], unfollowed := true, recurses := true, named := ["unicode/utf8.first", "unicode/utf8.acceptRanges", "invigilator/prims.numbers", "invigilator/prims.alike", "internal/bytealg.MaxLen"], plainKeys := false, apart := false, laid := [("unicode/utf8.acceptRanges", laid_unicode_utf8_acceptRanges), ("invigilator/prims.numbers", laid_invigilator_prims_numbers), ("invigilator/prims.alike", laid_invigilator_prims_alike), ("unicode/utf8.first", laid_unicode_utf8_first)] }
def ReleaseLabelsSaid : Prop := releaseLabelsRow.holds Tryz.pinned (OpenSpec.ofChange releaseLabelsSpec)

/-- ITS FALSE NEIGHBOUR: 'it returns false'. Refute it at one input. -/
def releaseLabelsWrong : ChangeSpec := { name := "releaseLabels", fn := fun _ => fun
  | [d1, d2] => { results := [.lit (.bool false)], args := [d1, d2] }
  | _ => none }
def ReleaseLabelsWrongFalsely : Prop := releaseLabelsRow.holds Tryz.pinned (OpenSpec.ofChange releaseLabelsWrong)

/-- 'invigilatorlaw28.ReleaseValues': WHATEVER THE INPUT: true; the input reads as it did. -/
def releaseValuesSpec : ChangeSpec := { name := "releaseValues", fn := fun _ => fun
  | [d1, d2, d3] => { results := [.lit (.bool true)], args := [d1, d2, d3] }
  | _ => none }
def releaseValuesRow : OpenClaim := { program := "ytefjegpcbdkckaagreatdoor", sum := "eb9ed2ac673b3a2e68fe6e99ca39ce4436220f4486d6f2483c58efe3edd2668e", func := "invigilator/invigilatorlaw28.ReleaseValues", spec := "releaseValues", inPlace := ["internal/bytealg.IndexByteString", "internal/bytealg.IndexString"], unfollowed := true, recurses := true, named := ["unicode/utf8.first", "unicode/utf8.acceptRanges", "invigilator/prims.numbers", "invigilator/prims.alike", "internal/bytealg.MaxLen"], plainKeys := false, apart := false, laid := [("unicode/utf8.acceptRanges", laid_unicode_utf8_acceptRanges), ("invigilator/prims.numbers", laid_invigilator_prims_numbers), ("invigilator/prims.alike", laid_invigilator_prims_alike), ("unicode/utf8.first", laid_unicode_utf8_first)] }
def ReleaseValuesSaid : Prop := releaseValuesRow.holds Tryz.pinned (OpenSpec.ofChange releaseValuesSpec)

/-- ITS FALSE NEIGHBOUR: 'it returns false'. Refute it at one input. -/
def releaseValuesWrong : ChangeSpec := { name := "releaseValues", fn := fun _ => fun
  | [d1, d2, d3] => { results := [.lit (.bool false)], args := [d1, d2, d3] }
  | _ => none }
def ReleaseValuesWrongFalsely : Prop := releaseValuesRow.holds Tryz.pinned (OpenSpec.ofChange releaseValuesWrong)

/-- 'invigilatorlaw28.ReleaseChecks': WHATEVER THE INPUT: true; the input reads as it did. -/
def releaseChecksSpec : ChangeSpec := { name := "releaseChecks", fn := fun _ => fun
  | [d1, d2] => { results := [.lit (.bool true)], args := [d1, d2] }
  | _ => none }
def releaseChecksRow : OpenClaim := { program := "ytefjegpcbdkckaagreatdoor", sum := "eb9ed2ac673b3a2e68fe6e99ca39ce4436220f4486d6f2483c58efe3edd2668e", func := "invigilator/invigilatorlaw28.ReleaseChecks", spec := "releaseChecks", inPlace := ["internal/bytealg.IndexByteString", "internal/bytealg.IndexString"], unfollowed := true, recurses := true, named := ["unicode/utf8.first", "unicode/utf8.acceptRanges", "invigilator/prims.numbers", "invigilator/prims.alike", "internal/bytealg.MaxLen"], plainKeys := false, apart := false, laid := [("unicode/utf8.acceptRanges", laid_unicode_utf8_acceptRanges), ("invigilator/prims.numbers", laid_invigilator_prims_numbers), ("invigilator/prims.alike", laid_invigilator_prims_alike), ("unicode/utf8.first", laid_unicode_utf8_first)] }
def ReleaseChecksSaid : Prop := releaseChecksRow.holds Tryz.pinned (OpenSpec.ofChange releaseChecksSpec)

/-- ITS FALSE NEIGHBOUR: 'it returns false'. Refute it at one input. -/
def releaseChecksWrong : ChangeSpec := { name := "releaseChecks", fn := fun _ => fun
  | [d1, d2] => { results := [.lit (.bool false)], args := [d1, d2] }
  | _ => none }
def ReleaseChecksWrongFalsely : Prop := releaseChecksRow.holds Tryz.pinned (OpenSpec.ofChange releaseChecksWrong)

/-- 'invigilatorlaw28.ReleaseMarks': WHATEVER THE INPUT: true; the input reads as it did. -/
def releaseMarksSpec : ChangeSpec := { name := "releaseMarks", fn := fun _ => fun
  | [d1, d2, d3] => { results := [.lit (.bool true)], args := [d1, d2, d3] }
  | _ => none }
def releaseMarksRow : OpenClaim := { program := "ytefjegpcbdkckaagreatdoor", sum := "eb9ed2ac673b3a2e68fe6e99ca39ce4436220f4486d6f2483c58efe3edd2668e", func := "invigilator/invigilatorlaw28.ReleaseMarks", spec := "releaseMarks", inPlace := ["internal/bytealg.IndexByteString", "internal/bytealg.IndexString"], unfollowed := true, recurses := true, named := ["unicode/utf8.first", "unicode/utf8.acceptRanges", "invigilator/prims.numbers", "invigilator/prims.alike", "internal/bytealg.MaxLen"], plainKeys := false, apart := false, laid := [("unicode/utf8.acceptRanges", laid_unicode_utf8_acceptRanges), ("invigilator/prims.numbers", laid_invigilator_prims_numbers), ("invigilator/prims.alike", laid_invigilator_prims_alike), ("unicode/utf8.first", laid_unicode_utf8_first)] }
def ReleaseMarksSaid : Prop := releaseMarksRow.holds Tryz.pinned (OpenSpec.ofChange releaseMarksSpec)

/-- ITS FALSE NEIGHBOUR: 'it returns false'. Refute it at one input. -/
def releaseMarksWrong : ChangeSpec := { name := "releaseMarks", fn := fun _ => fun
  | [d1, d2, d3] => { results := [.lit (.bool false)], args := [d1, d2, d3] }
  | _ => none }
def ReleaseMarksWrongFalsely : Prop := releaseMarksRow.holds Tryz.pinned (OpenSpec.ofChange releaseMarksWrong)

/-- 'invigilatorlaw28.ReleaseKnown': WHATEVER THE INPUT: true; the input reads as it did. -/
def releaseKnownSpec : ChangeSpec := { name := "releaseKnown", fn := fun _ => fun
  | [] => { results := [.lit (.bool true)], args := [] }
  | _ => none }
def releaseKnownRow : OpenClaim := { program := "ytefjegpcbdkckaagreatdoor", sum := "eb9ed2ac673b3a2e68fe6e99ca39ce4436220f4486d6f2483c58efe3edd2668e", func := "invigilator/invigilatorlaw28.ReleaseKnown", spec := "releaseKnown", inPlace := ["internal/bytealg.IndexByteString", "internal/bytealg.IndexString"], unfollowed := true, recurses := true, named := ["unicode/utf8.first", "unicode/utf8.acceptRanges", "invigilator/prims.numbers", "invigilator/prims.alike", "internal/bytealg.MaxLen"], plainKeys := false, apart := false, laid := [("unicode/utf8.acceptRanges", laid_unicode_utf8_acceptRanges), ("invigilator/prims.numbers", laid_invigilator_prims_numbers), ("invigilator/prims.alike", laid_invigilator_prims_alike), ("unicode/utf8.first", laid_unicode_utf8_first)] }
def ReleaseKnownSaid : Prop := releaseKnownRow.holds Tryz.pinned (OpenSpec.ofChange releaseKnownSpec)

/-- ITS FALSE NEIGHBOUR: 'it returns false'. Refute it at one input. -/
def releaseKnownWrong : ChangeSpec := { name := "releaseKnown", fn := fun _ => fun
  | [] => { results := [.lit (.bool false)], args := [] }
  | _ => none }
def ReleaseKnownWrongFalsely : Prop := releaseKnownRow.holds Tryz.pinned (OpenSpec.ofChange releaseKnownWrong)

/- THE SECOND FORM. 'bulk': how many values and letters a reading holds, each counted each time it is reached (what is shared counts as often as it is met; a slice's spare places count too). A statement '..UptoSaid' is the law's where the arguments, and the package variables that the reading takes, are together of bulk at most 1048576: NARROWER than '..Said'. Prove '..Said' where nothing that the law and all that it calls make is longer than what came in: it says more and counts as full. Else prove '..UptoSaid'. A law counts once. -/
mutual
def uptoBulk {H : Type} : DataW H → Nat
  | .lit (.string bytes) => bytes.length + 1
  | .lit _ => 1
  | .nil => 1
  | .ptr d => uptoBulk d + 1
  | .slice elems spare => uptoBulkAll elems + uptoBulkAll spare + 1
  | .agg parts => uptoBulkAll parts + 1
  | .iface _ d => uptoBulk d + 1
  | .map entries => uptoBulkEntries entries + 1
  | .held _ => 1
def uptoBulkAll {H : Type} : List (DataW H) → Nat
  | [] => 0
  | d :: r => uptoBulk d + uptoBulkAll r
def uptoBulkEntries {H : Type} : List (Lit × DataW H) → Nat
  | [] => 0
  | x :: r => uptoBulkEntry x + uptoBulkEntries r
def uptoBulkEntry {H : Type} : Lit × DataW H → Nat
  | (.string bytes, d) => bytes.length + uptoBulk d + 1
  | (_, d) => uptoBulk d + 1
 end
def uptoSmall : (H : Type) → List (DataW H) → Bool := fun _ ds => decide (uptoBulkAll ds ≤ 1048576)
def OpenSpec.upto (s : _root_.Go.ChangeSpec) : _root_.Go.OpenSpec := { _root_.Go.OpenSpec.ofChange s with cond := some uptoSmall }

/-- 'invigilatorlaw28.ReleaseDoes', WHERE WHAT IT READS IS OF BULK AT MOST 1048576: true; the input reads as it did. -/
def releaseDoesUptoRow : OpenClaim := { program := "ytefjegpcbdkckaagreatdoor", sum := "eb9ed2ac673b3a2e68fe6e99ca39ce4436220f4486d6f2483c58efe3edd2668e", func := "invigilator/invigilatorlaw28.ReleaseDoes", spec := "releaseDoes", inPlace := ["internal/bytealg.IndexByteString", "internal/bytealg.IndexString"], unfollowed := true, recurses := true, named := ["unicode/utf8.first", "unicode/utf8.acceptRanges", "invigilator/prims.numbers", "invigilator/prims.alike", "internal/bytealg.MaxLen"], plainKeys := false, apart := false, laid := [("unicode/utf8.acceptRanges", laid_unicode_utf8_acceptRanges), ("invigilator/prims.numbers", laid_invigilator_prims_numbers), ("invigilator/prims.alike", laid_invigilator_prims_alike), ("unicode/utf8.first", laid_unicode_utf8_first)], narrowed := true }
def ReleaseDoesUptoSaid : Prop := releaseDoesUptoRow.holds Tryz.pinned (OpenSpec.upto releaseDoesSpec)

/-- 'invigilatorlaw28.ReleaseMays', WHERE WHAT IT READS IS OF BULK AT MOST 1048576: true; the input reads as it did. -/
def releaseMaysUptoRow : OpenClaim := { program := "ytefjegpcbdkckaagreatdoor", sum := "eb9ed2ac673b3a2e68fe6e99ca39ce4436220f4486d6f2483c58efe3edd2668e", func := "invigilator/invigilatorlaw28.ReleaseMays", spec := "releaseMays", inPlace := ["internal/bytealg.IndexByteString", "internal/bytealg.IndexString"], unfollowed := true, recurses := true, named := ["unicode/utf8.first", "unicode/utf8.acceptRanges", "invigilator/prims.numbers", "invigilator/prims.alike", "internal/bytealg.MaxLen"], plainKeys := false, apart := false, laid := [("unicode/utf8.acceptRanges", laid_unicode_utf8_acceptRanges), ("invigilator/prims.numbers", laid_invigilator_prims_numbers), ("invigilator/prims.alike", laid_invigilator_prims_alike), ("unicode/utf8.first", laid_unicode_utf8_first)], narrowed := true }
def ReleaseMaysUptoSaid : Prop := releaseMaysUptoRow.holds Tryz.pinned (OpenSpec.upto releaseMaysSpec)

/-- 'invigilatorlaw28.ReleaseOrders', WHERE WHAT IT READS IS OF BULK AT MOST 1048576: true; the input reads as it did. -/
def releaseOrdersUptoRow : OpenClaim := { program := "ytefjegpcbdkckaagreatdoor", sum := "eb9ed2ac673b3a2e68fe6e99ca39ce4436220f4486d6f2483c58efe3edd2668e", func := "invigilator/invigilatorlaw28.ReleaseOrders", spec := "releaseOrders", inPlace := ["internal/bytealg.IndexByteString", "internal/bytealg.IndexString"], unfollowed := true, recurses := true, named := ["unicode/utf8.first", "unicode/utf8.acceptRanges", "invigilator/prims.numbers", "invigilator/prims.alike", "internal/bytealg.MaxLen"], plainKeys := false, apart := false, laid := [("unicode/utf8.acceptRanges", laid_unicode_utf8_acceptRanges), ("invigilator/prims.numbers", laid_invigilator_prims_numbers), ("invigilator/prims.alike", laid_invigilator_prims_alike), ("unicode/utf8.first", laid_unicode_utf8_first)], narrowed := true }
def ReleaseOrdersUptoSaid : Prop := releaseOrdersUptoRow.holds Tryz.pinned (OpenSpec.upto releaseOrdersSpec)

/-- 'invigilatorlaw28.ReleaseEnds', WHERE WHAT IT READS IS OF BULK AT MOST 1048576: true; the input reads as it did. -/
def releaseEndsUptoRow : OpenClaim := { program := "ytefjegpcbdkckaagreatdoor", sum := "eb9ed2ac673b3a2e68fe6e99ca39ce4436220f4486d6f2483c58efe3edd2668e", func := "invigilator/invigilatorlaw28.ReleaseEnds", spec := "releaseEnds", inPlace := ["internal/bytealg.IndexByteString", "internal/bytealg.IndexString"], unfollowed := true, recurses := true, named := ["unicode/utf8.first", "unicode/utf8.acceptRanges", "invigilator/prims.numbers", "invigilator/prims.alike", "internal/bytealg.MaxLen"], plainKeys := false, apart := false, laid := [("unicode/utf8.acceptRanges", laid_unicode_utf8_acceptRanges), ("invigilator/prims.numbers", laid_invigilator_prims_numbers), ("invigilator/prims.alike", laid_invigilator_prims_alike), ("unicode/utf8.first", laid_unicode_utf8_first)], narrowed := true }
def ReleaseEndsUptoSaid : Prop := releaseEndsUptoRow.holds Tryz.pinned (OpenSpec.upto releaseEndsSpec)

/-- 'invigilatorlaw28.ReleaseLabels', WHERE WHAT IT READS IS OF BULK AT MOST 1048576: true; the input reads as it did. -/
def releaseLabelsUptoRow : OpenClaim := { program := "ytefjegpcbdkckaagreatdoor", sum := "eb9ed2ac673b3a2e68fe6e99ca39ce4436220f4486d6f2483c58efe3edd2668e", func := "invigilator/invigilatorlaw28.ReleaseLabels", spec := "releaseLabels", inPlace := ["internal/bytealg.IndexByteString", "internal/bytealg.IndexString"], unfollowed := true, recurses := true, named := ["unicode/utf8.first", "unicode/utf8.acceptRanges", "invigilator/prims.numbers", "invigilator/prims.alike", "internal/bytealg.MaxLen"], plainKeys := false, apart := false, laid := [("unicode/utf8.acceptRanges", laid_unicode_utf8_acceptRanges), ("invigilator/prims.numbers", laid_invigilator_prims_numbers), ("invigilator/prims.alike", laid_invigilator_prims_alike), ("unicode/utf8.first", laid_unicode_utf8_first)], narrowed := true }
def ReleaseLabelsUptoSaid : Prop := releaseLabelsUptoRow.holds Tryz.pinned (OpenSpec.upto releaseLabelsSpec)

/-- 'invigilatorlaw28.ReleaseValues', WHERE WHAT IT READS IS OF BULK AT MOST 1048576: true; the input reads as it did. -/
def releaseValuesUptoRow : OpenClaim := { program := "ytefjegpcbdkckaagreatdoor", sum := "eb9ed2ac673b3a2e68fe6e99ca39ce4436220f4486d6f2483c58efe3edd2668e", func := "invigilator/invigilatorlaw28.ReleaseValues", spec := "releaseValues", inPlace := ["internal/bytealg.IndexByteString", "internal/bytealg.IndexString"], unfollowed := true, recurses := true, named := ["unicode/utf8.first", "unicode/utf8.acceptRanges", "invigilator/prims.numbers", "invigilator/prims.alike", "internal/bytealg.MaxLen"], plainKeys := false, apart := false, laid := [("unicode/utf8.acceptRanges", laid_unicode_utf8_acceptRanges), ("invigilator/prims.numbers", laid_invigilator_prims_numbers), ("invigilator/prims.alike", laid_invigilator_prims_alike), ("unicode/utf8.first", laid_unicode_utf8_first)], narrowed := true }
def ReleaseValuesUptoSaid : Prop := releaseValuesUptoRow.holds Tryz.pinned (OpenSpec.upto releaseValuesSpec)

/-- 'invigilatorlaw28.ReleaseChecks', WHERE WHAT IT READS IS OF BULK AT MOST 1048576: true; the input reads as it did. -/
def releaseChecksUptoRow : OpenClaim := { program := "ytefjegpcbdkckaagreatdoor", sum := "eb9ed2ac673b3a2e68fe6e99ca39ce4436220f4486d6f2483c58efe3edd2668e", func := "invigilator/invigilatorlaw28.ReleaseChecks", spec := "releaseChecks", inPlace := ["internal/bytealg.IndexByteString", "internal/bytealg.IndexString"], unfollowed := true, recurses := true, named := ["unicode/utf8.first", "unicode/utf8.acceptRanges", "invigilator/prims.numbers", "invigilator/prims.alike", "internal/bytealg.MaxLen"], plainKeys := false, apart := false, laid := [("unicode/utf8.acceptRanges", laid_unicode_utf8_acceptRanges), ("invigilator/prims.numbers", laid_invigilator_prims_numbers), ("invigilator/prims.alike", laid_invigilator_prims_alike), ("unicode/utf8.first", laid_unicode_utf8_first)], narrowed := true }
def ReleaseChecksUptoSaid : Prop := releaseChecksUptoRow.holds Tryz.pinned (OpenSpec.upto releaseChecksSpec)

/-- 'invigilatorlaw28.ReleaseMarks', WHERE WHAT IT READS IS OF BULK AT MOST 1048576: true; the input reads as it did. -/
def releaseMarksUptoRow : OpenClaim := { program := "ytefjegpcbdkckaagreatdoor", sum := "eb9ed2ac673b3a2e68fe6e99ca39ce4436220f4486d6f2483c58efe3edd2668e", func := "invigilator/invigilatorlaw28.ReleaseMarks", spec := "releaseMarks", inPlace := ["internal/bytealg.IndexByteString", "internal/bytealg.IndexString"], unfollowed := true, recurses := true, named := ["unicode/utf8.first", "unicode/utf8.acceptRanges", "invigilator/prims.numbers", "invigilator/prims.alike", "internal/bytealg.MaxLen"], plainKeys := false, apart := false, laid := [("unicode/utf8.acceptRanges", laid_unicode_utf8_acceptRanges), ("invigilator/prims.numbers", laid_invigilator_prims_numbers), ("invigilator/prims.alike", laid_invigilator_prims_alike), ("unicode/utf8.first", laid_unicode_utf8_first)], narrowed := true }
def ReleaseMarksUptoSaid : Prop := releaseMarksUptoRow.holds Tryz.pinned (OpenSpec.upto releaseMarksSpec)

/-- 'invigilatorlaw28.ReleaseKnown', WHERE WHAT IT READS IS OF BULK AT MOST 1048576: true; the input reads as it did. -/
def releaseKnownUptoRow : OpenClaim := { program := "ytefjegpcbdkckaagreatdoor", sum := "eb9ed2ac673b3a2e68fe6e99ca39ce4436220f4486d6f2483c58efe3edd2668e", func := "invigilator/invigilatorlaw28.ReleaseKnown", spec := "releaseKnown", inPlace := ["internal/bytealg.IndexByteString", "internal/bytealg.IndexString"], unfollowed := true, recurses := true, named := ["unicode/utf8.first", "unicode/utf8.acceptRanges", "invigilator/prims.numbers", "invigilator/prims.alike", "internal/bytealg.MaxLen"], plainKeys := false, apart := false, laid := [("unicode/utf8.acceptRanges", laid_unicode_utf8_acceptRanges), ("invigilator/prims.numbers", laid_invigilator_prims_numbers), ("invigilator/prims.alike", laid_invigilator_prims_alike), ("unicode/utf8.first", laid_unicode_utf8_first)], narrowed := true }
def ReleaseKnownUptoSaid : Prop := releaseKnownUptoRow.holds Tryz.pinned (OpenSpec.upto releaseKnownSpec)

end Rows
end Go.Proofs.YtefjegpcbdkckaaGreatDoor
