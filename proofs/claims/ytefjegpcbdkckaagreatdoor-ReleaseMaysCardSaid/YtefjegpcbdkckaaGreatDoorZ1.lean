/-
  THE CLAIM. An own text.
-/
import Derived.Test.YtefjegpcbdkckaaGreatDoorT1
namespace Go.Proofs.YtefjegpcbdkckaaGreatDoor.releaseMays
theorem card : Rows.ReleaseMaysCardSaid := Go.Sx.Tz.CReleaseMays.card
end Go.Proofs.YtefjegpcbdkckaaGreatDoor.releaseMays
