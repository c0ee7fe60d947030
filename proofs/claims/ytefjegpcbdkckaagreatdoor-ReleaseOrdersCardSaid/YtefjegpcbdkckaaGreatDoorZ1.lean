/-
  THE CLAIM. An own text.
-/
import Derived.Test.YtefjegpcbdkckaaGreatDoorT1
namespace Go.Proofs.YtefjegpcbdkckaaGreatDoor.releaseOrders
theorem card : Rows.ReleaseOrdersCardSaid := Go.Sx.Tz.CReleaseOrders.card
end Go.Proofs.YtefjegpcbdkckaaGreatDoor.releaseOrders
