/-
  THE CLAIM. An own text.
-/
import Derived.Test.YtbhkopbgjnpcpaaGreatDoorT1
namespace Go.Proofs.YtbhkopbgjnpcpaaGreatDoor.programKnown
theorem card : Rows.ProgramKnownCardSaid := Go.Sx.Tz.CProgramKnown.card
end Go.Proofs.YtbhkopbgjnpcpaaGreatDoor.programKnown
