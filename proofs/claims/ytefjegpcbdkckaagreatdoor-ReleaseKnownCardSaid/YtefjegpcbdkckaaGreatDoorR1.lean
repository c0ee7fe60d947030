/-
  THE CLOSED RUN OF ReleaseKnown. Printed by a program. An own text.
-/
import Derived.Test.YtefjegpcbdkckaaGreatDoorQ1
namespace Go.Sx.Tz
def KA_lattice_Check_1 : List SV := [.agg [.sl 1 [.str [108, 111, 119], .str [97, 110, 110], .str [98, 111, 98], .str [116, 111, 112]], .sl 1 [.int .u8 15, .int .u8 10, .int .u8 12, .int .u8 8]]]
def KC_lattice_Check_1 : SV := .tup [.int .i64 0, .int .i64 0]
theorem KM_lattice_Check_1 : Ret E F.lattice_Check KA_lattice_Check_1 KC_lattice_Check_1 := M_lattice_Check_1
noncomputable def KftM1 : List (Nat × Func) := without [F.lattice_Check] ft
noncomputable def KhkM1 : Hk := memoH [(F.lattice_Check, [(KA_lattice_Check_1, KC_lattice_Check_1)])]
theorem KhkM1_ok : HkOK E KhkM1 := HkOK.memo ⟨⟨KM_lattice_Check_1, trivial⟩, trivial⟩
def KA_policy_Check_1 : List SV := [.agg [.agg [.sl 1 [.str [108, 111, 119], .str [97, 110, 110], .str [98, 111, 98], .str [116, 111, 112]], .sl 1 [.int .u8 15, .int .u8 10, .int .u8 12, .int .u8 8]], .sl 2 [.agg [.str [98, 111, 97, 114, 100], .int .i64 0]], .sl 6 [.agg [.str [109, 97, 114, 107, 115], .agg [.int .i64 1, .int .i64 1, .arr 2 1 [.int .i64 0, .int .i64 0], .int .i64 3]], .agg [.str [110, 97, 109, 101, 115], .agg [.int .i64 2, .int .i64 1, .arr 2 1 [.int .i64 1, .int .i64 0], .int .i64 3]]], .sl 3 [.agg [.int .i64 3, .int .i64 1, .int .i64 5]]]]
def KC_policy_Check_1 : SV := .tup [.int .i64 0, .int .i64 0, .int .i64 0]
theorem KM_policy_Check_1 : Ret E F.policy_Check KA_policy_Check_1 KC_policy_Check_1 := M_policy_Check_1
noncomputable def KftM2 : List (Nat × Func) := without [F.lattice_Check, F.policy_Check] ft
noncomputable def KhkM2 : Hk := memoH [(F.lattice_Check, [(KA_lattice_Check_1, KC_lattice_Check_1)]), (F.policy_Check, [(KA_policy_Check_1, KC_policy_Check_1)])]
theorem KhkM2_ok : HkOK E KhkM2 := HkOK.memo ⟨⟨KM_lattice_Check_1, trivial⟩, ⟨KM_policy_Check_1, trivial⟩, trivial⟩
def KA_invigilatorlaw28_awake_1 : List SV := []
def KC_invigilatorlaw28_awake_1 : SV := .bool true
theorem KM_invigilatorlaw28_awake_1 : Ret E F.invigilatorlaw28_awake KA_invigilatorlaw28_awake_1 KC_invigilatorlaw28_awake_1 := L_invigilatorlaw28_awake
noncomputable def KftM3 : List (Nat × Func) := without [F.lattice_Check, F.policy_Check, F.invigilatorlaw28_awake] ft
noncomputable def KhkM3 : Hk := memoH [(F.lattice_Check, [(KA_lattice_Check_1, KC_lattice_Check_1)]), (F.policy_Check, [(KA_policy_Check_1, KC_policy_Check_1)]), (F.invigilatorlaw28_awake, [(KA_invigilatorlaw28_awake_1, KC_invigilatorlaw28_awake_1)])]
theorem KhkM3_ok : HkOK E KhkM3 := HkOK.memo ⟨⟨KM_lattice_Check_1, trivial⟩, ⟨KM_policy_Check_1, trivial⟩, ⟨KM_invigilatorlaw28_awake_1, trivial⟩, trivial⟩
def V_invigilatorlaw28_ReleaseKnown : SV := .bool true
set_option maxRecDepth 100000 in
theorem L_invigilatorlaw28_ReleaseKnown : Ret E F.invigilatorlaw28_ReleaseKnown [] V_invigilatorlaw28_ReleaseKnown := ret_of_run ok (ftOK_without ft_ok) KhkM3_ok (show runD E KftM3 KhkM3 1000 60 (.ret F.invigilatorlaw28_ReleaseKnown []) = some V_invigilatorlaw28_ReleaseKnown by kernel_rfl)
end Go.Sx.Tz
