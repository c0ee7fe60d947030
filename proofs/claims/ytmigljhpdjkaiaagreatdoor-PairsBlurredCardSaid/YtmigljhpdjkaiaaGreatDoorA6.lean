/-
  An own text of this claim.
-/
import Derived.Test.YtmigljhpdjkaiaaGreatDoorA5
import Derived.Laws.AppendOwn
import Derived.Shelf.Slices.Clone
namespace Go.Sx
open Go.RowKit (Below)
section
variable {c : Cx} {h : Heap} {n : Nat} {F : Nat -> Prop} {β : Beta} {Y : Nat -> Prop} {w : World}
end
open Go Go.Proofs Go.Shelf Go.RowKit Go.Lib
variable {P : Program} {ρ : Ren}
end Go.Sx
