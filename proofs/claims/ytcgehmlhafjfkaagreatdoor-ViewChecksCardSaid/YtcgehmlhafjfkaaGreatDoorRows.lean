/-
  NARROWER THAN 'FOR EVERY INPUT', by the rows' own cells (each row's printed sentence says how): ViewMore: laid · ViewKnown: laid · ViewEqual: laid · ViewCompares: laid · ViewChecks: laid · ViewChannels: laid.
  DERIVED. THE GIVEN ROWS OF THIS SEAT. 6 by the template 'for every input the law returns true; each argument reads behind the call as it read before'; 0 by the template 'total and deterministic' (their statements: YtcgehmlhafjfkaaGreatDoorTotals.lean).
  GIVEN WITH THE SEED: the statements are not yours to turn. If you find one false, say at which input.
  Laid BY PROGRAM, IN A SANDBOX (cutbox-rows.mjs): the forced cells as the released guide's own fill.sh prints them over the translation fbd75451121ec877… (all of the seat's roots in one cut). By AI agents, Wed Nov 11 2026. No macro, syntax, notation, axiom, sorry.
-/
import Derived.Test.YtcgehmlhafjfkaaGreatDoorChecked
import GoSem.PinnedTables
import GoSem.Claim
import GoSem.ClaimJoined
import GoSem.ClaimMapViews
import Derived.JoinedTies
import Derived.KernelRfl
namespace Go.Proofs.YtcgehmlhafjfkaaGreatDoor
/- THE CELL 'sum', in the pinned program and in every row, IS THE sha256 OF THE DUMP (.gsa) THAT YtcgehmlhafjfkaaGreatDoorProg.lean LOADS. Nothing in Lean hashes anything: it is a label: what it is worth is what the hold of that sum in a sandbox is worth. -/
noncomputable def Tryz.pinned : Pinned := { name := "ytcgehmlhafjfkaagreatdoor", sum := "fbd75451121ec87754547f48587ff0b367386958863b5df4fb1d840d86927abf", checked := Tryz.checked }
namespace Rows
def none {H : Type} : Left H := { results := [], args := [] }

/- WHAT THE LISTED PACKAGE-LEVEL VARIABLES READ AS WHEN THE CALL BEGINS. Each datum BY PROGRAM (the guide's laid-datum.mjs) off the statement by which the dump's own 'gosem.cut.vars' lays the variable. In a bare row this is a premise. The card (YtcgehmlhafjfkaaGreatDoorCards.lean) ties it to the program's text. -/
def laid_unicode_utf8_acceptRanges {H : Type} : DataW H := .agg [.agg [.lit (.int .u8 128), .lit (.int .u8 191)], .agg [.lit (.int .u8 160), .lit (.int .u8 191)], .agg [.lit (.int .u8 128), .lit (.int .u8 159)], .agg [.lit (.int .u8 144), .lit (.int .u8 191)], .agg [.lit (.int .u8 128), .lit (.int .u8 143)], .agg [.lit (.int .u8 0), .lit (.int .u8 0)], .agg [.lit (.int .u8 0), .lit (.int .u8 0)], .agg [.lit (.int .u8 0), .lit (.int .u8 0)], .agg [.lit (.int .u8 0), .lit (.int .u8 0)], .agg [.lit (.int .u8 0), .lit (.int .u8 0)], .agg [.lit (.int .u8 0), .lit (.int .u8 0)], .agg [.lit (.int .u8 0), .lit (.int .u8 0)], .agg [.lit (.int .u8 0), .lit (.int .u8 0)], .agg [.lit (.int .u8 0), .lit (.int .u8 0)], .agg [.lit (.int .u8 0), .lit (.int .u8 0)], .agg [.lit (.int .u8 0), .lit (.int .u8 0)]]
def laid_invigilator_prims_numbers {H : Type} : DataW H := .slice [.lit (.string [105, 110, 105, 110]), .lit (.string [105, 48, 105, 110, 105, 110]), .lit (.string [105, 110, 105, 48, 105, 110]), .lit (.string [105, 110, 105, 110, 105, 110])] []
def laid_invigilator_prims_alike {H : Type} : DataW H := .slice [.lit (.string [107, 48, 107, 110, 105, 110]), .lit (.string [107, 110, 107, 48, 105, 110]), .lit (.string [107, 110, 107, 110, 105, 110])] []
/-- One of Go's own tables, pinned by name: the form's constant. -/
def laid_unicode_utf8_first : DataW Unit := Go.Pinned.utf8First

/-- 'invigilatorlaw31.ViewMore': WHATEVER THE INPUT: true; the input reads as it did. -/
def viewMoreSpec : ChangeSpec := { name := "viewMore", fn := fun _ => fun
  | [d1, d2] => { results := [.lit (.bool true)], args := [d1, d2] }
  | _ => none }
def viewMoreRow : OpenClaim := { program := "ytcgehmlhafjfkaagreatdoor", sum := "fbd75451121ec87754547f48587ff0b367386958863b5df4fb1d840d86927abf", func := "invigilator/invigilatorlaw31.ViewMore", spec := "viewMore", inPlace := ["internal/bytealg.IndexByteString", "internal/bytealg.IndexString"], unfollowed := true, recurses := true, named := ["unicode/utf8.first", "unicode/utf8.acceptRanges", "invigilator/prims.numbers", "invigilator/prims.alike", "internal/bytealg.MaxLen"], apart := false, laid := [("unicode/utf8.acceptRanges", laid_unicode_utf8_acceptRanges), ("invigilator/prims.numbers", laid_invigilator_prims_numbers), ("invigilator/prims.alike", laid_invigilator_prims_alike), ("unicode/utf8.first", laid_unicode_utf8_first)] }
def ViewMoreSaid : Prop := viewMoreRow.holds Tryz.pinned (OpenSpec.ofChange viewMoreSpec)

/-- ITS FALSE NEIGHBOUR: 'it returns false'. Refute it at one input. -/
def viewMoreWrong : ChangeSpec := { name := "viewMore", fn := fun _ => fun
  | [d1, d2] => { results := [.lit (.bool false)], args := [d1, d2] }
  | _ => none }
def ViewMoreWrongFalsely : Prop := viewMoreRow.holds Tryz.pinned (OpenSpec.ofChange viewMoreWrong)

/-- 'invigilatorlaw31.ViewKnown': WHATEVER THE INPUT: true; the input reads as it did. -/
def viewKnownSpec : ChangeSpec := { name := "viewKnown", fn := fun _ => fun
  | [] => { results := [.lit (.bool true)], args := [] }
  | _ => none }
def viewKnownRow : OpenClaim := { program := "ytcgehmlhafjfkaagreatdoor", sum := "fbd75451121ec87754547f48587ff0b367386958863b5df4fb1d840d86927abf", func := "invigilator/invigilatorlaw31.ViewKnown", spec := "viewKnown", inPlace := ["internal/bytealg.IndexByteString", "internal/bytealg.IndexString"], unfollowed := true, recurses := true, named := ["unicode/utf8.first", "unicode/utf8.acceptRanges", "invigilator/prims.numbers", "invigilator/prims.alike", "internal/bytealg.MaxLen"], apart := false, laid := [("unicode/utf8.acceptRanges", laid_unicode_utf8_acceptRanges), ("invigilator/prims.numbers", laid_invigilator_prims_numbers), ("invigilator/prims.alike", laid_invigilator_prims_alike), ("unicode/utf8.first", laid_unicode_utf8_first)] }
def ViewKnownSaid : Prop := viewKnownRow.holds Tryz.pinned (OpenSpec.ofChange viewKnownSpec)

/-- ITS FALSE NEIGHBOUR: 'it returns false'. Refute it at one input. -/
def viewKnownWrong : ChangeSpec := { name := "viewKnown", fn := fun _ => fun
  | [] => { results := [.lit (.bool false)], args := [] }
  | _ => none }
def ViewKnownWrongFalsely : Prop := viewKnownRow.holds Tryz.pinned (OpenSpec.ofChange viewKnownWrong)

/-- 'invigilatorlaw31.ViewEqual': WHATEVER THE INPUT: true; the input reads as it did. -/
def viewEqualSpec : ChangeSpec := { name := "viewEqual", fn := fun _ => fun
  | [d1, d2, d3] => { results := [.lit (.bool true)], args := [d1, d2, d3] }
  | _ => none }
def viewEqualRow : OpenClaim := { program := "ytcgehmlhafjfkaagreatdoor", sum := "fbd75451121ec87754547f48587ff0b367386958863b5df4fb1d840d86927abf", func := "invigilator/invigilatorlaw31.ViewEqual", spec := "viewEqual", inPlace := ["internal/bytealg.IndexByteString", "internal/bytealg.IndexString"], unfollowed := true, recurses := true, named := ["unicode/utf8.first", "unicode/utf8.acceptRanges", "invigilator/prims.numbers", "invigilator/prims.alike", "internal/bytealg.MaxLen"], apart := false, laid := [("unicode/utf8.acceptRanges", laid_unicode_utf8_acceptRanges), ("invigilator/prims.numbers", laid_invigilator_prims_numbers), ("invigilator/prims.alike", laid_invigilator_prims_alike), ("unicode/utf8.first", laid_unicode_utf8_first)] }
def ViewEqualSaid : Prop := viewEqualRow.holds Tryz.pinned (OpenSpec.ofChange viewEqualSpec)

/-- ITS FALSE NEIGHBOUR: 'it returns false'. Refute it at one input. -/
def viewEqualWrong : ChangeSpec := { name := "viewEqual", fn := fun _ => fun
  | [d1, d2, d3] => { results := [.lit (.bool false)], args := [d1, d2, d3] }
  | _ => none }
def ViewEqualWrongFalsely : Prop := viewEqualRow.holds Tryz.pinned (OpenSpec.ofChange viewEqualWrong)

/-- 'invigilatorlaw31.ViewCompares': WHATEVER THE INPUT: true; the input reads as it did. -/
def viewComparesSpec : ChangeSpec := { name := "viewCompares", fn := fun _ => fun
  | [d1, d2, d3] => { results := [.lit (.bool true)], args := [d1, d2, d3] }
  | _ => none }
def viewComparesRow : OpenClaim := { program := "ytcgehmlhafjfkaagreatdoor", sum := "fbd75451121ec87754547f48587ff0b367386958863b5df4fb1d840d86927abf", func := "invigilator/invigilatorlaw31.ViewCompares", spec := "viewCompares", inPlace := ["internal/bytealg.IndexByteString", "internal/bytealg.IndexString"], unfollowed := true, recurses := true, named := ["unicode/utf8.first", "unicode/utf8.acceptRanges", "invigilator/prims.numbers", "invigilator/prims.alike", "internal/bytealg.MaxLen"], apart := false, laid := [("unicode/utf8.acceptRanges", laid_unicode_utf8_acceptRanges), ("invigilator/prims.numbers", laid_invigilator_prims_numbers), ("invigilator/prims.alike", laid_invigilator_prims_alike), ("unicode/utf8.first", laid_unicode_utf8_first)] }
def ViewComparesSaid : Prop := viewComparesRow.holds Tryz.pinned (OpenSpec.ofChange viewComparesSpec)

/-- ITS FALSE NEIGHBOUR: 'it returns false'. Refute it at one input. -/
def viewComparesWrong : ChangeSpec := { name := "viewCompares", fn := fun _ => fun
  | [d1, d2, d3] => { results := [.lit (.bool false)], args := [d1, d2, d3] }
  | _ => none }
def ViewComparesWrongFalsely : Prop := viewComparesRow.holds Tryz.pinned (OpenSpec.ofChange viewComparesWrong)

/-- 'invigilatorlaw31.ViewChecks': WHATEVER THE INPUT: true; the input reads as it did. -/
def viewChecksSpec : ChangeSpec := { name := "viewChecks", fn := fun _ => fun
  | [d1, d2, d3] => { results := [.lit (.bool true)], args := [d1, d2, d3] }
  | _ => none }
def viewChecksRow : OpenClaim := { program := "ytcgehmlhafjfkaagreatdoor", sum := "fbd75451121ec87754547f48587ff0b367386958863b5df4fb1d840d86927abf", func := "invigilator/invigilatorlaw31.ViewChecks", spec := "viewChecks", inPlace := ["internal/bytealg.IndexByteString", "internal/bytealg.IndexString"], unfollowed := true, recurses := true, named := ["unicode/utf8.first", "unicode/utf8.acceptRanges", "invigilator/prims.numbers", "invigilator/prims.alike", "internal/bytealg.MaxLen"], apart := false, laid := [("unicode/utf8.acceptRanges", laid_unicode_utf8_acceptRanges), ("invigilator/prims.numbers", laid_invigilator_prims_numbers), ("invigilator/prims.alike", laid_invigilator_prims_alike), ("unicode/utf8.first", laid_unicode_utf8_first)] }
def ViewChecksSaid : Prop := viewChecksRow.holds Tryz.pinned (OpenSpec.ofChange viewChecksSpec)

/-- ITS FALSE NEIGHBOUR: 'it returns false'. Refute it at one input. -/
def viewChecksWrong : ChangeSpec := { name := "viewChecks", fn := fun _ => fun
  | [d1, d2, d3] => { results := [.lit (.bool false)], args := [d1, d2, d3] }
  | _ => none }
def ViewChecksWrongFalsely : Prop := viewChecksRow.holds Tryz.pinned (OpenSpec.ofChange viewChecksWrong)

/-- 'invigilatorlaw31.ViewChannels': WHATEVER THE INPUT: true; the input reads as it did. -/
def viewChannelsSpec : ChangeSpec := { name := "viewChannels", fn := fun _ => fun
  | [d1, d2, d3] => { results := [.lit (.bool true)], args := [d1, d2, d3] }
  | _ => none }
def viewChannelsRow : OpenClaim := { program := "ytcgehmlhafjfkaagreatdoor", sum := "fbd75451121ec87754547f48587ff0b367386958863b5df4fb1d840d86927abf", func := "invigilator/invigilatorlaw31.ViewChannels", spec := "viewChannels", inPlace := ["internal/bytealg.IndexByteString", "internal/bytealg.IndexString"], unfollowed := true, recurses := true, named := ["unicode/utf8.first", "unicode/utf8.acceptRanges", "invigilator/prims.numbers", "invigilator/prims.alike", "internal/bytealg.MaxLen"], apart := false, laid := [("unicode/utf8.acceptRanges", laid_unicode_utf8_acceptRanges), ("invigilator/prims.numbers", laid_invigilator_prims_numbers), ("invigilator/prims.alike", laid_invigilator_prims_alike), ("unicode/utf8.first", laid_unicode_utf8_first)] }
def ViewChannelsSaid : Prop := viewChannelsRow.holds Tryz.pinned (OpenSpec.ofChange viewChannelsSpec)

/-- ITS FALSE NEIGHBOUR: 'it returns false'. Refute it at one input. -/
def viewChannelsWrong : ChangeSpec := { name := "viewChannels", fn := fun _ => fun
  | [d1, d2, d3] => { results := [.lit (.bool false)], args := [d1, d2, d3] }
  | _ => none }
def ViewChannelsWrongFalsely : Prop := viewChannelsRow.holds Tryz.pinned (OpenSpec.ofChange viewChannelsWrong)

/- THE SECOND FORM. 'bulk': how many values and letters a reading holds, each counted each time it is reached (what is shared counts as often as it is met; a slice's spare places count too). A statement '..UptoSaid' is the law's where the arguments, and the package variables that the reading takes, are together of bulk at most 1048576: NARROWER than '..Said'. Prove '..Said' where nothing that the law and all that it calls make is longer than what came in: it says more and counts as full. Else prove '..UptoSaid'. A law counts once. -/
mutual
def uptoBulk {H : Type} : DataW H → Nat
  | .lit (.string bytes) => bytes.length + 1
  | .lit _ => 1
  | .nil => 1
  | .ptr d => uptoBulk d + 1
  | .slice elems spare => uptoBulkAll elems + uptoBulkAll spare + 1
  | .agg parts => uptoBulkAll parts + 1
  | .iface _ d => uptoBulk d + 1
  | .map entries => uptoBulkEntries entries + 1
  | .held _ => 1
def uptoBulkAll {H : Type} : List (DataW H) → Nat
  | [] => 0
  | d :: r => uptoBulk d + uptoBulkAll r
def uptoBulkEntries {H : Type} : List (Lit × DataW H) → Nat
  | [] => 0
  | x :: r => uptoBulkEntry x + uptoBulkEntries r
def uptoBulkEntry {H : Type} : Lit × DataW H → Nat
  | (.string bytes, d) => bytes.length + uptoBulk d + 1
  | (_, d) => uptoBulk d + 1
 end
def uptoSmall : (H : Type) → List (DataW H) → Bool := fun _ ds => decide (uptoBulkAll ds ≤ 1048576)
def OpenSpec.upto (s : _root_.Go.ChangeSpec) : _root_.Go.OpenSpec := { _root_.Go.OpenSpec.ofChange s with cond := some uptoSmall }

/-- 'invigilatorlaw31.ViewMore', WHERE WHAT IT READS IS OF BULK AT MOST 1048576: true; the input reads as it did. -/
def viewMoreUptoRow : OpenClaim := { program := "ytcgehmlhafjfkaagreatdoor", sum := "fbd75451121ec87754547f48587ff0b367386958863b5df4fb1d840d86927abf", func := "invigilator/invigilatorlaw31.ViewMore", spec := "viewMore", inPlace := ["internal/bytealg.IndexByteString", "internal/bytealg.IndexString"], unfollowed := true, recurses := true, named := ["unicode/utf8.first", "unicode/utf8.acceptRanges", "invigilator/prims.numbers", "invigilator/prims.alike", "internal/bytealg.MaxLen"], apart := false, laid := [("unicode/utf8.acceptRanges", laid_unicode_utf8_acceptRanges), ("invigilator/prims.numbers", laid_invigilator_prims_numbers), ("invigilator/prims.alike", laid_invigilator_prims_alike), ("unicode/utf8.first", laid_unicode_utf8_first)], narrowed := true }
def ViewMoreUptoSaid : Prop := viewMoreUptoRow.holds Tryz.pinned (OpenSpec.upto viewMoreSpec)

/-- 'invigilatorlaw31.ViewKnown', WHERE WHAT IT READS IS OF BULK AT MOST 1048576: true; the input reads as it did. -/
def viewKnownUptoRow : OpenClaim := { program := "ytcgehmlhafjfkaagreatdoor", sum := "fbd75451121ec87754547f48587ff0b367386958863b5df4fb1d840d86927abf", func := "invigilator/invigilatorlaw31.ViewKnown", spec := "viewKnown", inPlace := ["internal/bytealg.IndexByteString", "internal/bytealg.IndexString"], unfollowed := true, recurses := true, named := ["unicode/utf8.first", "unicode/utf8.acceptRanges", "invigilator/prims.numbers", "invigilator/prims.alike", "internal/bytealg.MaxLen"], apart := false, laid := [("unicode/utf8.acceptRanges", laid_unicode_utf8_acceptRanges), ("invigilator/prims.numbers", laid_invigilator_prims_numbers), ("invigilator/prims.alike", laid_invigilator_prims_alike), ("unicode/utf8.first", laid_unicode_utf8_first)], narrowed := true }
def ViewKnownUptoSaid : Prop := viewKnownUptoRow.holds Tryz.pinned (OpenSpec.upto viewKnownSpec)

/-- 'invigilatorlaw31.ViewEqual', WHERE WHAT IT READS IS OF BULK AT MOST 1048576: true; the input reads as it did. -/
def viewEqualUptoRow : OpenClaim := { program := "ytcgehmlhafjfkaagreatdoor", sum := "fbd75451121ec87754547f48587ff0b367386958863b5df4fb1d840d86927abf", func := "invigilator/invigilatorlaw31.ViewEqual", spec := "viewEqual", inPlace := ["internal/bytealg.IndexByteString", "internal/bytealg.IndexString"], unfollowed := true, recurses := true, named := ["unicode/utf8.first", "unicode/utf8.acceptRanges", "invigilator/prims.numbers", "invigilator/prims.alike", "internal/bytealg.MaxLen"], apart := false, laid := [("unicode/utf8.acceptRanges", laid_unicode_utf8_acceptRanges), ("invigilator/prims.numbers", laid_invigilator_prims_numbers), ("invigilator/prims.alike", laid_invigilator_prims_alike), ("unicode/utf8.first", laid_unicode_utf8_first)], narrowed := true }
def ViewEqualUptoSaid : Prop := viewEqualUptoRow.holds Tryz.pinned (OpenSpec.upto viewEqualSpec)

/-- 'invigilatorlaw31.ViewCompares', WHERE WHAT IT READS IS OF BULK AT MOST 1048576: true; the input reads as it did. -/
def viewComparesUptoRow : OpenClaim := { program := "ytcgehmlhafjfkaagreatdoor", sum := "fbd75451121ec87754547f48587ff0b367386958863b5df4fb1d840d86927abf", func := "invigilator/invigilatorlaw31.ViewCompares", spec := "viewCompares", inPlace := ["internal/bytealg.IndexByteString", "internal/bytealg.IndexString"], unfollowed := true, recurses := true, named := ["unicode/utf8.first", "unicode/utf8.acceptRanges", "invigilator/prims.numbers", "invigilator/prims.alike", "internal/bytealg.MaxLen"], apart := false, laid := [("unicode/utf8.acceptRanges", laid_unicode_utf8_acceptRanges), ("invigilator/prims.numbers", laid_invigilator_prims_numbers), ("invigilator/prims.alike", laid_invigilator_prims_alike), ("unicode/utf8.first", laid_unicode_utf8_first)], narrowed := true }
def ViewComparesUptoSaid : Prop := viewComparesUptoRow.holds Tryz.pinned (OpenSpec.upto viewComparesSpec)

/-- 'invigilatorlaw31.ViewChecks', WHERE WHAT IT READS IS OF BULK AT MOST 1048576: true; the input reads as it did. -/
def viewChecksUptoRow : OpenClaim := { program := "ytcgehmlhafjfkaagreatdoor", sum := "fbd75451121ec87754547f48587ff0b367386958863b5df4fb1d840d86927abf", func := "invigilator/invigilatorlaw31.ViewChecks", spec := "viewChecks", inPlace := ["internal/bytealg.IndexByteString", "internal/bytealg.IndexString"], unfollowed := true, recurses := true, named := ["unicode/utf8.first", "unicode/utf8.acceptRanges", "invigilator/prims.numbers", "invigilator/prims.alike", "internal/bytealg.MaxLen"], apart := false, laid := [("unicode/utf8.acceptRanges", laid_unicode_utf8_acceptRanges), ("invigilator/prims.numbers", laid_invigilator_prims_numbers), ("invigilator/prims.alike", laid_invigilator_prims_alike), ("unicode/utf8.first", laid_unicode_utf8_first)], narrowed := true }
def ViewChecksUptoSaid : Prop := viewChecksUptoRow.holds Tryz.pinned (OpenSpec.upto viewChecksSpec)

/-- 'invigilatorlaw31.ViewChannels', WHERE WHAT IT READS IS OF BULK AT MOST 1048576: true; the input reads as it did. -/
def viewChannelsUptoRow : OpenClaim := { program := "ytcgehmlhafjfkaagreatdoor", sum := "fbd75451121ec87754547f48587ff0b367386958863b5df4fb1d840d86927abf", func := "invigilator/invigilatorlaw31.ViewChannels", spec := "viewChannels", inPlace := ["internal/bytealg.IndexByteString", "internal/bytealg.IndexString"], unfollowed := true, recurses := true, named := ["unicode/utf8.first", "unicode/utf8.acceptRanges", "invigilator/prims.numbers", "invigilator/prims.alike", "internal/bytealg.MaxLen"], apart := false, laid := [("unicode/utf8.acceptRanges", laid_unicode_utf8_acceptRanges), ("invigilator/prims.numbers", laid_invigilator_prims_numbers), ("invigilator/prims.alike", laid_invigilator_prims_alike), ("unicode/utf8.first", laid_unicode_utf8_first)], narrowed := true }
def ViewChannelsUptoSaid : Prop := viewChannelsUptoRow.holds Tryz.pinned (OpenSpec.upto viewChannelsSpec)

end Rows
end Go.Proofs.YtcgehmlhafjfkaaGreatDoor
