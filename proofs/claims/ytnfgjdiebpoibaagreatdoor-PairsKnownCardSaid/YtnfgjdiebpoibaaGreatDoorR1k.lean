/-
  TOLD RESULTS FOR THE CLOSED RUN OF PairsKnown. An own text.
  THE CLOSED RUN OF THE LAW PairsKnown. An own text.
-/
import Derived.Test.YtnfgjdiebpoibaaGreatDoorQ1k
namespace Go.Sx.Tz
open Go.Proofs
set_option maxRecDepth 100000
def lAwake : List (List SV × SV) := [([], .bool true)]
noncomputable def ftK : List (Nat × Func) := without [F.prims_table, F.lattice_Check, F.policy_Check, F.invigilatorlaw32_awake] ft
noncomputable def hkK : Hk := ⟨(F.invigilatorlaw32_awake, look lAwake) :: hkM2.x, []⟩
theorem hkK_ok : HkOK E hkK := ⟨hkX_cons (fun az r h => toldL_look (l := lAwake) ⟨L_invigilatorlaw32_awake, trivial⟩ az r h) hkM2_ok.x, fun _ _ _ _ _ _ _ _ h => (by cases h)⟩
end Go.Sx.Tz
namespace Go.Sx.Tz
open Go.Proofs
set_option maxRecDepth 100000
theorem L_invigilatorlaw32_PairsKnown : Ret E F.invigilatorlaw32_PairsKnown [] (.bool true) := ret_of_run ok (ftOK_without ft_ok) hkK_ok (show runD E ftK hkK 1000 60 (.ret F.invigilatorlaw32_PairsKnown []) = some (.bool true) by kernel_rfl)
end Go.Sx.Tz
