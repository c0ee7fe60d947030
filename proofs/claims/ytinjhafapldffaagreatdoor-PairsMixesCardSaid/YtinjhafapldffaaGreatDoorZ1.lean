/-
  An own text of this claim.
-/
import Derived.Test.YtinjhafapldffaaGreatDoorT1
namespace Go.Proofs.YtinjhafapldffaaGreatDoor.pairsMixes
theorem card : Rows.PairsMixesCardSaid := Go.Sx.Tz.CPairsMixes.card
end Go.Proofs.YtinjhafapldffaaGreatDoor.pairsMixes
