/-
  THE LAW ViewChannels HOLDS: it returns true for whatever arguments, and they read as they did. The claim. An own text.
-/
import Derived.Test.YtcgehmlhafjfkaaGreatDoorT1
namespace Go.Proofs.YtcgehmlhafjfkaaGreatDoor.viewChannels
theorem card : Rows.ViewChannelsCardSaid := Go.Sx.Tz.Channels.card
end Go.Proofs.YtcgehmlhafjfkaaGreatDoor.viewChannels
