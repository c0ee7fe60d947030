/-
  THE CLAIM. An own text.
-/
import Derived.Test.YtefjegpcbdkckaaGreatDoorT1
namespace Go.Proofs.YtefjegpcbdkckaaGreatDoor.releaseMarks
theorem card : Rows.ReleaseMarksCardSaid := Go.Sx.Tz.CReleaseMarks.card
end Go.Proofs.YtefjegpcbdkckaaGreatDoor.releaseMarks
