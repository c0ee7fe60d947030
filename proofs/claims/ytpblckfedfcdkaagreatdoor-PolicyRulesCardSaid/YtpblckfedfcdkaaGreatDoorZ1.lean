/-
  An own text of this claim.
-/
import Derived.Test.YtpblckfedfcdkaaGreatDoorT1
namespace Go.Proofs.YtpblckfedfcdkaaGreatDoor.policyRules
theorem card : Rows.PolicyRulesCardSaid := Go.Sx.Tz.CPolicyRules.card
end Go.Proofs.YtpblckfedfcdkaaGreatDoor.policyRules
