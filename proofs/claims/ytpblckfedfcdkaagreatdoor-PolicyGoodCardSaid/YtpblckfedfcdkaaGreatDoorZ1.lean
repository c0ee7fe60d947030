/-
  THE CLAIM. An own text.
-/
import Derived.Test.YtpblckfedfcdkaaGreatDoorT1
namespace Go.Proofs.YtpblckfedfcdkaaGreatDoor.policyGood
theorem card : Rows.PolicyGoodCardSaid := Go.Sx.Tz.CPolicyGood.card
end Go.Proofs.YtpblckfedfcdkaaGreatDoor.policyGood
