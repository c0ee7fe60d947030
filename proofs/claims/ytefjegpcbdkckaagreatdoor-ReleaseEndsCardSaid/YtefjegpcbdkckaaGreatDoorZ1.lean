/-
  THE CLAIM. An own text.
-/
import Derived.Test.YtefjegpcbdkckaaGreatDoorT1
namespace Go.Proofs.YtefjegpcbdkckaaGreatDoor.releaseEnds
theorem card : Rows.ReleaseEndsCardSaid := Go.Sx.Tz.CReleaseEnds.card
end Go.Proofs.YtefjegpcbdkckaaGreatDoor.releaseEnds
