/-
  An own text of this claim.
-/
import Derived.Test.YteaennhfmipmgaaGreatDoorT1
namespace Go.Proofs.YteaennhfmipmgaaGreatDoor.pairsOrders
theorem card : Rows.PairsOrdersCardSaid := Go.Sx.Tz.CPairsOrders.card
end Go.Proofs.YteaennhfmipmgaaGreatDoor.pairsOrders
