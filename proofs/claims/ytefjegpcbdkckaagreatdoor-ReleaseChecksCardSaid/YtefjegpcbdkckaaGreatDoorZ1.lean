/-
  THE CLAIM. An own text.
-/
import Derived.Test.YtefjegpcbdkckaaGreatDoorT1
namespace Go.Proofs.YtefjegpcbdkckaaGreatDoor.releaseChecks
theorem card : Rows.ReleaseChecksCardSaid := Go.Sx.Tz.CReleaseChecks.card
end Go.Proofs.YtefjegpcbdkckaaGreatDoor.releaseChecks
