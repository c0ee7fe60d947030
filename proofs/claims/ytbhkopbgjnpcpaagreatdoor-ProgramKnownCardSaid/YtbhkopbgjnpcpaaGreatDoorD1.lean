/-
  A BUILDER OF STRINGS IN THE MEMORY OF A RUNNING FUNCTION: what a write does to it. Generic: no program in sight. An own text.
-/
import Derived.Test.YtbhkopbgjnpcpaaGreatDoorC9
set_option linter.unusedVariables false
namespace Go.Sx
open Go.RowKit (Below)
section
variable {c : Cx} {h : Heap} {n : Nat} {F : Nat → Prop} {β : Beta} {Y : Nat → Prop} {w w' : World}
end
end Go.Sx
