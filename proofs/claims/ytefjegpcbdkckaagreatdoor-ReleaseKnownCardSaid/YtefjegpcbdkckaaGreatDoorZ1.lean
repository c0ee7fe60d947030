/-
  THE CLAIM. An own text.
-/
import Derived.Test.YtefjegpcbdkckaaGreatDoorT1
namespace Go.Proofs.YtefjegpcbdkckaaGreatDoor.releaseKnown
theorem card : Rows.ReleaseKnownCardSaid := Go.Sx.Tz.CReleaseKnown.card
end Go.Proofs.YtefjegpcbdkckaaGreatDoor.releaseKnown
