/-
  An own text of this claim.
-/
import Derived.Test.YtljdcgnbdomlhaaGreatDoorT1
namespace Go.Proofs.YtljdcgnbdomlhaaGreatDoor.pairsAgrees
theorem card : Rows.PairsAgreesCardSaid := Go.Sx.Tz.CPairsAgrees.card
end Go.Proofs.YtljdcgnbdomlhaaGreatDoor.pairsAgrees
