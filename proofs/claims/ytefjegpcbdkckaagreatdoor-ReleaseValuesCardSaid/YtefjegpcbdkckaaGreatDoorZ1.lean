/-
  THE CLAIM. An own text.
-/
import Derived.Test.YtefjegpcbdkckaaGreatDoorT1
namespace Go.Proofs.YtefjegpcbdkckaaGreatDoor.releaseValues
theorem card : Rows.ReleaseValuesCardSaid := Go.Sx.Tz.CReleaseValues.card
end Go.Proofs.YtefjegpcbdkckaaGreatDoor.releaseValues
