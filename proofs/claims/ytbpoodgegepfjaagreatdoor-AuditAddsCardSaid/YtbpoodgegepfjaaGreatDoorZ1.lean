/-
  An own text of this claim.
-/
import Derived.Test.YtbpoodgegepfjaaGreatDoorT1
namespace Go.Proofs.YtbpoodgegepfjaaGreatDoor.auditAdds
theorem card : Rows.AuditAddsCardSaid := Go.Sx.Tz.CAuditAdds.card
end Go.Proofs.YtbpoodgegepfjaaGreatDoor.auditAdds
