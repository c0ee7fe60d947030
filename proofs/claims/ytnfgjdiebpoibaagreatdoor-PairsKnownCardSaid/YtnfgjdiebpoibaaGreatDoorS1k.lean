/-
  CONSTANT TABLES that functions return. Printed by a program. An own text.
  VALUES OF THE SEAT's TYPES ARE DATA. Printed by a program. An own text.
-/
import Derived.Test.YtnfgjdiebpoibaaGreatDoorR1k
import Derived.WalkKit
import Derived.Lib.Bytealg
import Derived.Laws.Externs
namespace Go.Sx.Tz
end Go.Sx.Tz
namespace Go.Sx.Tz
open Go.Sx.O
end Go.Sx.Tz
