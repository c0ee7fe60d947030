/-
  THE CLAIM. An own text.
-/
import Derived.Test.YtpblckfedfcdkaaGreatDoorT1
namespace Go.Proofs.YtpblckfedfcdkaaGreatDoor.policyKnown
theorem card : Rows.PolicyKnownCardSaid := Go.Sx.Tz.CPolicyKnown.card
end Go.Proofs.YtpblckfedfcdkaaGreatDoor.policyKnown
