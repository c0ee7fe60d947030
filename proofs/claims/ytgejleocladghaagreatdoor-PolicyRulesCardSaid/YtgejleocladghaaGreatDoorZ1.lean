/-
  An own text of this claim.
-/
import Derived.Test.YtgejleocladghaaGreatDoorT1
namespace Go.Proofs.YtgejleocladghaaGreatDoor.policyRules
theorem card : Rows.PolicyRulesCardSaid := Go.Sx.Tz.CPolicyRules.card
end Go.Proofs.YtgejleocladghaaGreatDoor.policyRules
