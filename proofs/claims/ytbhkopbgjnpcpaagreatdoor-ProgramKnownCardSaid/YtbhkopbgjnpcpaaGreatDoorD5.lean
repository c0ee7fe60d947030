/-
  strings.Builder's Len AS A HOOK OF CLOSED RUNS. Generic: over any program that bears the shelf's layings. An own text.
-/
import Derived.Test.YtbhkopbgjnpcpaaGreatDoorD4
set_option linter.unusedVariables false
namespace Go.Sx
open Go.RowKit (Below)
open Go.Shelf Go.Proofs
variable {P : Program} {ρ : Ren}
end Go.Sx
