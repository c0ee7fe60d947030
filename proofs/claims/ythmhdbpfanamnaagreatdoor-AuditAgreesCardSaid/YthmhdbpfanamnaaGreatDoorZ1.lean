/-
  THE CLAIM. An own text.
-/
import Derived.Test.YthmhdbpfanamnaaGreatDoorT1
namespace Go.Proofs.YthmhdbpfanamnaaGreatDoor.auditAgrees
theorem card : Rows.AuditAgreesCardSaid := Go.Sx.Tz.CAuditAgrees.card
end Go.Proofs.YthmhdbpfanamnaaGreatDoor.auditAgrees
