/-
  THE CLAIM. An own text.
-/
import Derived.Test.YtnfgjdiebpoibaaGreatDoorT1k
namespace Go.Proofs.YtnfgjdiebpoibaaGreatDoor.pairsKnown
theorem card : Rows.PairsKnownCardSaid := Go.Sx.Tz.CPairsKnown.card
end Go.Proofs.YtnfgjdiebpoibaaGreatDoor.pairsKnown
