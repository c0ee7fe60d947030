/-
  THE CLAIM. An own text.
-/
import Derived.Test.YthkckljhcihbmaaGreatDoorT1
namespace Go.Proofs.YthkckljhcihbmaaGreatDoor.printerKnown
theorem card : Rows.PrinterKnownCardSaid := Go.Sx.Tz.CPrinterKnown.card
end Go.Proofs.YthkckljhcihbmaaGreatDoor.printerKnown
