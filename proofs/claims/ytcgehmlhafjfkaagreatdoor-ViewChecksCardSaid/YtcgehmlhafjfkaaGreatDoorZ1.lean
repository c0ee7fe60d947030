/-
  THE LAW ViewChecks HOLDS: it returns true for whatever arguments, and they read as they did. The claim. An own text.
-/
import Derived.Test.YtcgehmlhafjfkaaGreatDoorT1
namespace Go.Proofs.YtcgehmlhafjfkaaGreatDoor.viewChecks
theorem card : Rows.ViewChecksCardSaid := Go.Sx.Tz.Checks.card
end Go.Proofs.YtcgehmlhafjfkaaGreatDoor.viewChecks
