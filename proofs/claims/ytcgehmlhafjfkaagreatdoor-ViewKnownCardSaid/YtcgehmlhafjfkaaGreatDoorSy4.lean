/-
  THE EXAMPLES OF THE DOCUMENT HOLD: the law ViewKnown returns true. The claim. An own text.
-/
import Derived.Test.YtcgehmlhafjfkaaGreatDoorSy3
namespace Go.Proofs.YtcgehmlhafjfkaaGreatDoor.viewKnown
theorem card : Rows.ViewKnownCardSaid := Go.Sx.Tz.Known.card
end Go.Proofs.YtcgehmlhafjfkaaGreatDoor.viewKnown
