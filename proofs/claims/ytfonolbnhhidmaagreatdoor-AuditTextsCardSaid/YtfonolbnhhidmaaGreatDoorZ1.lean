/-
  An own text of this claim.
-/
import Derived.Test.YtfonolbnhhidmaaGreatDoorT1
namespace Go.Proofs.YtfonolbnhhidmaaGreatDoor.auditTexts
theorem card : Rows.AuditTextsCardSaid := Go.Sx.Tz.CAuditTexts.card
end Go.Proofs.YtfonolbnhhidmaaGreatDoor.auditTexts
