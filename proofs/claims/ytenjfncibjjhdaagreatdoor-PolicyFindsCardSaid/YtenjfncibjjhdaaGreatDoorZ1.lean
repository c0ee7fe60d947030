/-
  An own text of this claim.
-/
import Derived.Test.YtenjfncibjjhdaaGreatDoorT1
namespace Go.Proofs.YtenjfncibjjhdaaGreatDoor.policyFinds
theorem card : Rows.PolicyFindsCardSaid := Go.Sx.Tz.CPolicyFinds.card
end Go.Proofs.YtenjfncibjjhdaaGreatDoor.policyFinds
