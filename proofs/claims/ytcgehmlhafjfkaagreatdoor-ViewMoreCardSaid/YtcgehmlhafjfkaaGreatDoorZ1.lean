/-
  THE LAW ViewMore HOLDS: it returns true for whatever lattice and traces, and they read as they did. The claim. An own text.
-/
import Derived.Test.YtcgehmlhafjfkaaGreatDoorT1
namespace Go.Proofs.YtcgehmlhafjfkaaGreatDoor.viewMore
theorem card : Rows.ViewMoreCardSaid := Go.Sx.Tz.More.card
end Go.Proofs.YtcgehmlhafjfkaaGreatDoor.viewMore
