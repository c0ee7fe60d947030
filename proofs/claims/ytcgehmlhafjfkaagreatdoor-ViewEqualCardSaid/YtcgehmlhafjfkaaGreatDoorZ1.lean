/-
  THE LAW ViewEqual HOLDS: it returns true for whatever lattice, traces and observer, and they read as they did. The claim. An own text.
-/
import Derived.Test.YtcgehmlhafjfkaaGreatDoorT1
namespace Go.Proofs.YtcgehmlhafjfkaaGreatDoor.viewEqual
theorem card : Rows.ViewEqualCardSaid := Go.Sx.Tz.Equal.card
end Go.Proofs.YtcgehmlhafjfkaaGreatDoor.viewEqual
