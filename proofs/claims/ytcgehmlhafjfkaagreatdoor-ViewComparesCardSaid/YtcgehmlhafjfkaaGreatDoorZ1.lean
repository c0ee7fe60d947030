/-
  THE LAW ViewCompares HOLDS: it returns true for whatever arguments, and they read as they did. The claim. An own text.
-/
import Derived.Test.YtcgehmlhafjfkaaGreatDoorT1
namespace Go.Proofs.YtcgehmlhafjfkaaGreatDoor.viewCompares
theorem card : Rows.ViewComparesCardSaid := Go.Sx.Tz.Compares.card
end Go.Proofs.YtcgehmlhafjfkaaGreatDoor.viewCompares
