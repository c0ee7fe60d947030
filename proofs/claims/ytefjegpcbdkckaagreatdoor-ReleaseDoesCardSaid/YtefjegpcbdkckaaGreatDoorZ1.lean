/-
  THE CLAIM. An own text.
-/
import Derived.Test.YtefjegpcbdkckaaGreatDoorT1
namespace Go.Proofs.YtefjegpcbdkckaaGreatDoor.releaseDoes
theorem card : Rows.ReleaseDoesCardSaid := Go.Sx.Tz.CReleaseDoes.card
end Go.Proofs.YtefjegpcbdkckaaGreatDoor.releaseDoes
