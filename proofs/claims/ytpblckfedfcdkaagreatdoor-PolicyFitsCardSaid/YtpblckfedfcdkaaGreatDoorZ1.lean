/-
  THE CLAIM. An own text.
-/
import Derived.Test.YtpblckfedfcdkaaGreatDoorT1
namespace Go.Proofs.YtpblckfedfcdkaaGreatDoor.policyFits
theorem card : Rows.PolicyFitsCardSaid := Go.Sx.Tz.CPolicyFits.card
end Go.Proofs.YtpblckfedfcdkaaGreatDoor.policyFits
