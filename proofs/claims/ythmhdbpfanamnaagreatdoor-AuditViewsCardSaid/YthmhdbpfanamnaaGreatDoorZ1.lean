/-
  THE CLAIM. An own text.
-/
import Derived.Test.YthmhdbpfanamnaaGreatDoorT1
namespace Go.Proofs.YthmhdbpfanamnaaGreatDoor.auditViews
theorem card : Rows.AuditViewsCardSaid := Go.Sx.Tz.CAuditViews.card
end Go.Proofs.YthmhdbpfanamnaaGreatDoor.auditViews
