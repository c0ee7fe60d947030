/-
  An own text of this claim.
-/
import Derived.Test.YtnfgjdiebpoibaaGreatDoorT1
namespace Go.Proofs.YtnfgjdiebpoibaaGreatDoor.pairsMakes
theorem card : Rows.PairsMakesCardSaid := Go.Sx.Tz.CPairsMakes.card
end Go.Proofs.YtnfgjdiebpoibaaGreatDoor.pairsMakes
