/-
  An own text of this claim.
-/
import Derived.Test.YtllpglmfggapmaaGreatDoorT1
namespace Go.Proofs.YtllpglmfggapmaaGreatDoor.pairsBlurs
theorem card : Rows.PairsBlursCardSaid := Go.Sx.Tz.CPairsBlurs.card
end Go.Proofs.YtllpglmfggapmaaGreatDoor.pairsBlurs
