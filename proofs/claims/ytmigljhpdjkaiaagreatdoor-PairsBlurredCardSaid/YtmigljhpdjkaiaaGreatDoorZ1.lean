/-
  An own text of this claim.
-/
import Derived.Test.YtmigljhpdjkaiaaGreatDoorT1
namespace Go.Proofs.YtmigljhpdjkaiaaGreatDoor.pairsBlurred
theorem card : Rows.PairsBlurredCardSaid := Go.Sx.Tz.CPairsBlurred.card
end Go.Proofs.YtmigljhpdjkaiaaGreatDoor.pairsBlurred
