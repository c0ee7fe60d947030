/-
  A CLONE: the copy of a slice is a row of the caller's own. Generic. An own text.
  slices.Clone OF INTS, WHATEVER CELLS: the shelf's walk, turned. An own text.
-/
import Derived.Test.YtnfgjdiebpoibaaGreatDoorA5k
import Derived.Laws.AppendOwn
import Derived.Shelf.Slices.Clone
namespace Go.Sx
open Go.RowKit (Below)
section
variable {c : Cx} {h : Heap} {n : Nat} {F : Nat → Prop} {β : Beta} {Y : Nat → Prop} {w : World}
end
end Go.Sx
namespace Go.Sx
open Go Go.Proofs Go.Shelf Go.RowKit Go.Lib
variable {P : Program} {ρ : Ren}
end Go.Sx
