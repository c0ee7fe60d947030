/-
  An own text of this claim.
-/
import Derived.Test.YtiiifbdejjhmiaaGreatDoorT1
namespace Go.Proofs.YtiiifbdejjhmiaaGreatDoor.pairsWhos
theorem card : Rows.PairsWhosCardSaid := Go.Sx.Tz.CPairsWhos.card
end Go.Proofs.YtiiifbdejjhmiaaGreatDoor.pairsWhos
