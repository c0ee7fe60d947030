/-
  An own text of this claim.
-/
import Derived.Test.YtkmifafghlbeaaaGreatDoorT1
namespace Go.Proofs.YtkmifafghlbeaaaGreatDoor.auditTotals
theorem card : Rows.AuditTotalsCardSaid := Go.Sx.Tz.CAuditTotals.card
end Go.Proofs.YtkmifafghlbeaaaGreatDoor.auditTotals
