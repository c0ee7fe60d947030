/-
  THE CLAIM. An own text.
-/
import Derived.Test.YtpblckfedfcdkaaGreatDoorT1
namespace Go.Proofs.YtpblckfedfcdkaaGreatDoor.policyChecks
theorem card : Rows.PolicyChecksCardSaid := Go.Sx.Tz.CPolicyChecks.card
end Go.Proofs.YtpblckfedfcdkaaGreatDoor.policyChecks
