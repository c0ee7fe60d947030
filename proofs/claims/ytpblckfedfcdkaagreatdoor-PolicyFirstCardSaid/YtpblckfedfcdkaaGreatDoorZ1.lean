/-
  THE CLAIM. An own text.
-/
import Derived.Test.YtpblckfedfcdkaaGreatDoorT1
namespace Go.Proofs.YtpblckfedfcdkaaGreatDoor.policyFirst
theorem card : Rows.PolicyFirstCardSaid := Go.Sx.Tz.CPolicyFirst.card
end Go.Proofs.YtpblckfedfcdkaaGreatDoor.policyFirst
