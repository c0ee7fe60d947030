/-
  THE EXAMPLES OF THE DOCUMENT, RUN. An own text.
-/
import Derived.Test.YtcgehmlhafjfkaaGreatDoorSy1
namespace Go.Sx.Tz
open Go.Proofs
set_option maxRecDepth 100000 in
theorem known_run : runD E ft 1000 60 (.ret F.invigilatorlaw31_ViewKnown []) = some (.bool true) := by kernel_rfl
theorem known_ret : Ret E F.invigilatorlaw31_ViewKnown [] (.bool true) := ret_of_run ok ft_ok known_run
end Go.Sx.Tz
