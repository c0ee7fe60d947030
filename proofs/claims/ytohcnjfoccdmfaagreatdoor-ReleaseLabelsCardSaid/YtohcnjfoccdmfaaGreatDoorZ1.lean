/-
  THE CLAIM. An own text.
-/
import Derived.Test.YtohcnjfoccdmfaaGreatDoorT1
namespace Go.Proofs.YtohcnjfoccdmfaaGreatDoor.releaseLabels
theorem card : Rows.ReleaseLabelsCardSaid := Go.Sx.Tz.CReleaseLabels.card
end Go.Proofs.YtohcnjfoccdmfaaGreatDoor.releaseLabels
