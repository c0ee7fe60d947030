/-
  THE CLAIM. An own text.
-/
import Derived.Test.YthmhdbpfanamnaaGreatDoorT1
namespace Go.Proofs.YthmhdbpfanamnaaGreatDoor.auditKnown
theorem card : Rows.AuditKnownCardSaid := Go.Sx.Tz.CAuditKnown.card
end Go.Proofs.YthmhdbpfanamnaaGreatDoor.auditKnown
