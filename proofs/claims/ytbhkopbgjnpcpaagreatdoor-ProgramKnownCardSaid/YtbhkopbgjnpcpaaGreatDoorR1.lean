/-
  THE CLOSED RUN OF invigilatorlaw17_ProgramKnown, in told parts. Printed by a program. An own text.
-/
import Derived.Test.YtbhkopbgjnpcpaaGreatDoorQ3
namespace Go.Sx.Tz
set_option maxRecDepth 100000
def A84_0 : List SV := [.int .i64 100]
def C84_0 : SV := .tup [.int .i64 8, .int .i64 0]
theorem M84_0 : Ret E 84 A84_0 C84_0 := ret_of_runE ok ft_ok fd_ok hk_ok (show runE E ft fd hk 1000 60 (.old (.ret 84 A84_0)) = some C84_0 by kernel_rfl)
def A84_1 : List SV := [.int .i64 101]
def C84_1 : SV := .tup [.int .i64 8, .int .i64 0]
theorem M84_1 : Ret E 84 A84_1 C84_1 := ret_of_runE ok ft_ok fd_ok hk_ok (show runE E ft fd hk 1000 60 (.old (.ret 84 A84_1)) = some C84_1 by kernel_rfl)
def A84_2 : List SV := [.int .i64 102]
def C84_2 : SV := .tup [.int .i64 8, .int .i64 0]
theorem M84_2 : Ret E 84 A84_2 C84_2 := ret_of_runE ok ft_ok fd_ok hk_ok (show runE E ft fd hk 1000 60 (.old (.ret 84 A84_2)) = some C84_2 by kernel_rfl)
def A84_3 : List SV := [.int .i64 32]
def C84_3 : SV := .tup [.int .i64 1, .int .i64 0]
theorem M84_3 : Ret E 84 A84_3 C84_3 := ret_of_runE ok ft_ok fd_ok hk_ok (show runE E ft fd hk 1000 60 (.old (.ret 84 A84_3)) = some C84_3 by kernel_rfl)
def A84_4 : List SV := [.int .i64 120]
def C84_4 : SV := .tup [.int .i64 8, .int .i64 0]
theorem M84_4 : Ret E 84 A84_4 C84_4 := ret_of_runE ok ft_ok fd_ok hk_ok (show runE E ft fd hk 1000 60 (.old (.ret 84 A84_4)) = some C84_4 by kernel_rfl)
def A84_5 : List SV := [.int .i64 61]
def C84_5 : SV := .tup [.int .i64 9, .int .i64 0]
theorem M84_5 : Ret E 84 A84_5 C84_5 := ret_of_runE ok ft_ok fd_ok hk_ok (show runE E ft fd hk 1000 60 (.old (.ret 84 A84_5)) = some C84_5 by kernel_rfl)
def A84_6 : List SV := [.int .i64 97]
def C84_6 : SV := .tup [.int .i64 8, .int .i64 0]
theorem M84_6 : Ret E 84 A84_6 C84_6 := ret_of_runE ok ft_ok fd_ok hk_ok (show runE E ft fd hk 1000 60 (.old (.ret 84 A84_6)) = some C84_6 by kernel_rfl)
def A84_7 : List SV := [.int .i64 49]
def C84_7 : SV := .tup [.int .i64 6, .int .i64 0]
theorem M84_7 : Ret E 84 A84_7 C84_7 := ret_of_runE ok ft_ok fd_ok hk_ok (show runE E ft fd hk 1000 60 (.old (.ret 84 A84_7)) = some C84_7 by kernel_rfl)
def A84_8 : List SV := [.int .i64 121]
def C84_8 : SV := .tup [.int .i64 8, .int .i64 0]
theorem M84_8 : Ret E 84 A84_8 C84_8 := ret_of_runE ok ft_ok fd_ok hk_ok (show runE E ft fd hk 1000 60 (.old (.ret 84 A84_8)) = some C84_8 by kernel_rfl)
def A84_9 : List SV := [.int .i64 60]
def C84_9 : SV := .tup [.int .i64 9, .int .i64 0]
theorem M84_9 : Ret E 84 A84_9 C84_9 := ret_of_runE ok ft_ok fd_ok hk_ok (show runE E ft fd hk 1000 60 (.old (.ret 84 A84_9)) = some C84_9 by kernel_rfl)
def A84_10 : List SV := [.int .i64 50]
def C84_10 : SV := .tup [.int .i64 6, .int .i64 0]
theorem M84_10 : Ret E 84 A84_10 C84_10 := ret_of_runE ok ft_ok fd_ok hk_ok (show runE E ft fd hk 1000 60 (.old (.ret 84 A84_10)) = some C84_10 by kernel_rfl)
def A84_11 : List SV := [.int .i64 105]
def C84_11 : SV := .tup [.int .i64 8, .int .i64 0]
theorem M84_11 : Ret E 84 A84_11 C84_11 := ret_of_runE ok ft_ok fd_ok hk_ok (show runE E ft fd hk 1000 60 (.old (.ret 84 A84_11)) = some C84_11 by kernel_rfl)
def A84_12 : List SV := [.int .i64 103]
def C84_12 : SV := .tup [.int .i64 8, .int .i64 0]
theorem M84_12 : Ret E 84 A84_12 C84_12 := ret_of_runE ok ft_ok fd_ok hk_ok (show runE E ft fd hk 1000 60 (.old (.ret 84 A84_12)) = some C84_12 by kernel_rfl)
def A84_13 : List SV := [.int .i64 116]
def C84_13 : SV := .tup [.int .i64 8, .int .i64 0]
theorem M84_13 : Ret E 84 A84_13 C84_13 := ret_of_runE ok ft_ok fd_ok hk_ok (show runE E ft fd hk 1000 60 (.old (.ret 84 A84_13)) = some C84_13 by kernel_rfl)
def A84_14 : List SV := [.int .i64 51]
def C84_14 : SV := .tup [.int .i64 6, .int .i64 0]
theorem M84_14 : Ret E 84 A84_14 C84_14 := ret_of_runE ok ft_ok fd_ok hk_ok (show runE E ft fd hk 1000 60 (.old (.ret 84 A84_14)) = some C84_14 by kernel_rfl)
def A84_15 : List SV := [.int .i64 111]
def C84_15 : SV := .tup [.int .i64 8, .int .i64 0]
theorem M84_15 : Ret E 84 A84_15 C84_15 := ret_of_runE ok ft_ok fd_ok hk_ok (show runE E ft fd hk 1000 60 (.old (.ret 84 A84_15)) = some C84_15 by kernel_rfl)
def A84_16 : List SV := [.int .i64 117]
def C84_16 : SV := .tup [.int .i64 8, .int .i64 0]
theorem M84_16 : Ret E 84 A84_16 C84_16 := ret_of_runE ok ft_ok fd_ok hk_ok (show runE E ft fd hk 1000 60 (.old (.ret 84 A84_16)) = some C84_16 by kernel_rfl)
def A84_17 : List SV := [.int .i64 99]
def C84_17 : SV := .tup [.int .i64 8, .int .i64 0]
theorem M84_17 : Ret E 84 A84_17 C84_17 := ret_of_runE ok ft_ok fd_ok hk_ok (show runE E ft fd hk 1000 60 (.old (.ret 84 A84_17)) = some C84_17 by kernel_rfl)
def A84_18 : List SV := [.int .i64 108]
def C84_18 : SV := .tup [.int .i64 8, .int .i64 0]
theorem M84_18 : Ret E 84 A84_18 C84_18 := ret_of_runE ok ft_ok fd_ok hk_ok (show runE E ft fd hk 1000 60 (.old (.ret 84 A84_18)) = some C84_18 by kernel_rfl)
def A84_19 : List SV := [.int .i64 115]
def C84_19 : SV := .tup [.int .i64 8, .int .i64 0]
theorem M84_19 : Ret E 84 A84_19 C84_19 := ret_of_runE ok ft_ok fd_ok hk_ok (show runE E ft fd hk 1000 60 (.old (.ret 84 A84_19)) = some C84_19 by kernel_rfl)
def A84_20 : List SV := [.int .i64 110]
def C84_20 : SV := .tup [.int .i64 8, .int .i64 0]
theorem M84_20 : Ret E 84 A84_20 C84_20 := ret_of_runE ok ft_ok fd_ok hk_ok (show runE E ft fd hk 1000 60 (.old (.ret 84 A84_20)) = some C84_20 by kernel_rfl)
def A84_21 : List SV := [.int .i64 118]
def C84_21 : SV := .tup [.int .i64 8, .int .i64 0]
theorem M84_21 : Ret E 84 A84_21 C84_21 := ret_of_runE ok ft_ok fd_ok hk_ok (show runE E ft fd hk 1000 60 (.old (.ret 84 A84_21)) = some C84_21 by kernel_rfl)
def A84_22 : List SV := [.int .i64 114]
def C84_22 : SV := .tup [.int .i64 8, .int .i64 0]
theorem M84_22 : Ret E 84 A84_22 C84_22 := ret_of_runE ok ft_ok fd_ok hk_ok (show runE E ft fd hk 1000 60 (.old (.ret 84 A84_22)) = some C84_22 by kernel_rfl)
def l84 : List (List SV × SV) := [(A84_0, C84_0), (A84_1, C84_1), (A84_2, C84_2), (A84_3, C84_3), (A84_4, C84_4), (A84_5, C84_5), (A84_6, C84_6), (A84_7, C84_7), (A84_8, C84_8), (A84_9, C84_9), (A84_10, C84_10), (A84_11, C84_11), (A84_12, C84_12), (A84_13, C84_13), (A84_14, C84_14), (A84_15, C84_15), (A84_16, C84_16), (A84_17, C84_17), (A84_18, C84_18), (A84_19, C84_19), (A84_20, C84_20), (A84_21, C84_21), (A84_22, C84_22)]
abbrev g1 : List Nat := [84]
noncomputable def hk1 : Hk := ⟨(84, look l84) :: hk.x, hk.s⟩
theorem hk1_ok : HkOK E hk1 := ⟨hkX_cons (fun az r h => toldL_look (l := l84) ⟨M84_0, M84_1, M84_2, M84_3, M84_4, M84_5, M84_6, M84_7, M84_8, M84_9, M84_10, M84_11, M84_12, M84_13, M84_14, M84_15, M84_16, M84_17, M84_18, M84_19, M84_20, M84_21, M84_22, trivial⟩ az r h) hk_ok.x, hk_ok.s⟩
def A204_0 : List SV := [.str [97, 100, 100], .sl 1 [.int .i64 12]]
def C204_0 : SV := .agg [.str [97, 100, 100], .sl 1 [.str [105, 48, 105, 110, 105, 110], .str [105, 110, 105, 48, 105, 110], .str [105, 110, 105, 110, 105, 110]], .sl 1 [.int .i64 11, .int .i64 12], .nilf, .nilf]
theorem M204_0 : Ret E 204 A204_0 C204_0 := ret_of_runE ok (ftP_without ft_ok) (fd_without fd_ok) hk1_ok (show runE E (without g1 ft) (withoutD g1 fd) hk1 1000 60 (.old (.ret 204 A204_0)) = some C204_0 by kernel_rfl)
def A204_1 : List SV := [.str [115, 117, 98], .sl 1 [.int .i64 12]]
def C204_1 : SV := .agg [.str [115, 117, 98], .sl 1 [.str [105, 48, 105, 110, 105, 110], .str [105, 110, 105, 48, 105, 110], .str [105, 110, 105, 110, 105, 110]], .sl 1 [.int .i64 11, .int .i64 12], .nilf, .nilf]
theorem M204_1 : Ret E 204 A204_1 C204_1 := ret_of_runE ok (ftP_without ft_ok) (fd_without fd_ok) hk1_ok (show runE E (without g1 ft) (withoutD g1 fd) hk1 1000 60 (.old (.ret 204 A204_1)) = some C204_1 by kernel_rfl)
def A204_2 : List SV := [.str [109, 117, 108], .sl 1 [.int .i64 12]]
def C204_2 : SV := .agg [.str [109, 117, 108], .sl 1 [.str [105, 48, 105, 110, 105, 110], .str [105, 110, 105, 48, 105, 110], .str [105, 110, 105, 110, 105, 110]], .sl 1 [.int .i64 11, .int .i64 12], .nilf, .nilf]
theorem M204_2 : Ret E 204 A204_2 C204_2 := ret_of_runE ok (ftP_without ft_ok) (fd_without fd_ok) hk1_ok (show runE E (without g1 ft) (withoutD g1 fd) hk1 1000 60 (.old (.ret 204 A204_2)) = some C204_2 by kernel_rfl)
def A204_3 : List SV := [.str [100, 105, 118], .sl 1 [.int .i64 12, .int .i64 13]]
def C204_3 : SV := .agg [.str [100, 105, 118], .sl 1 [.str [105, 48, 105, 110, 105, 110], .str [105, 110, 105, 48, 105, 110], .str [105, 110, 105, 110, 105, 110]], .sl 1 [.int .i64 11, .int .i64 12, .int .i64 13], .nilf, .nilf]
theorem M204_3 : Ret E 204 A204_3 C204_3 := ret_of_runE ok (ftP_without ft_ok) (fd_without fd_ok) hk1_ok (show runE E (without g1 ft) (withoutD g1 fd) hk1 1000 60 (.old (.ret 204 A204_3)) = some C204_3 by kernel_rfl)
def A204_4 : List SV := [.str [109, 111, 100], .sl 1 [.int .i64 13]]
def C204_4 : SV := .agg [.str [109, 111, 100], .sl 1 [.str [105, 48, 105, 110, 105, 110], .str [105, 110, 105, 48, 105, 110], .str [105, 110, 105, 110, 105, 110]], .sl 1 [.int .i64 11, .int .i64 13], .nilf, .nilf]
theorem M204_4 : Ret E 204 A204_4 C204_4 := ret_of_runE ok (ftP_without ft_ok) (fd_without fd_ok) hk1_ok (show runE E (without g1 ft) (withoutD g1 fd) hk1 1000 60 (.old (.ret 204 A204_4)) = some C204_4 by kernel_rfl)
def A204_5 : List SV := [.str [112, 108, 117, 115], .nils]
def C204_5 : SV := .agg [.str [112, 108, 117, 115], .sl 1 [.str [105, 48, 105, 110, 105, 110], .str [105, 110, 105, 48, 105, 110], .str [105, 110, 105, 110, 105, 110]], .sl 1 [.int .i64 11], .nilf, .nilf]
theorem M204_5 : Ret E 204 A204_5 C204_5 := ret_of_runE ok (ftP_without ft_ok) (fd_without fd_ok) hk1_ok (show runE E (without g1 ft) (withoutD g1 fd) hk1 1000 60 (.old (.ret 204 A204_5)) = some C204_5 by kernel_rfl)
def A204_6 : List SV := [.str [109, 105, 110, 117, 115], .nils]
def C204_6 : SV := .agg [.str [109, 105, 110, 117, 115], .sl 1 [.str [105, 48, 105, 110, 105, 110], .str [105, 110, 105, 48, 105, 110], .str [105, 110, 105, 110, 105, 110]], .sl 1 [.int .i64 11], .nilf, .nilf]
theorem M204_6 : Ret E 204 A204_6 C204_6 := ret_of_runE ok (ftP_without ft_ok) (fd_without fd_ok) hk1_ok (show runE E (without g1 ft) (withoutD g1 fd) hk1 1000 60 (.old (.ret 204 A204_6)) = some C204_6 by kernel_rfl)
def A204_7 : List SV := [.str [116, 105, 109, 101, 115], .nils]
def C204_7 : SV := .agg [.str [116, 105, 109, 101, 115], .sl 1 [.str [105, 48, 105, 110, 105, 110], .str [105, 110, 105, 48, 105, 110], .str [105, 110, 105, 110, 105, 110]], .sl 1 [.int .i64 11], .nilf, .nilf]
theorem M204_7 : Ret E 204 A204_7 C204_7 := ret_of_runE ok (ftP_without ft_ok) (fd_without fd_ok) hk1_ok (show runE E (without g1 ft) (withoutD g1 fd) hk1 1000 60 (.old (.ret 204 A204_7)) = some C204_7 by kernel_rfl)
def A204_8 : List SV := [.str [108, 116], .nils]
def C204_8 : SV := .agg [.str [108, 116], .sl 1 [.str [105, 48, 105, 110, 105, 110], .str [105, 110, 105, 48, 105, 110], .str [105, 110, 105, 110, 105, 110]], .sl 1 [.int .i64 11], .nilf, .nilf]
theorem M204_8 : Ret E 204 A204_8 C204_8 := ret_of_runE ok (ftP_without ft_ok) (fd_without fd_ok) hk1_ok (show runE E (without g1 ft) (withoutD g1 fd) hk1 1000 60 (.old (.ret 204 A204_8)) = some C204_8 by kernel_rfl)
def A204_9 : List SV := [.str [108, 101], .nils]
def C204_9 : SV := .agg [.str [108, 101], .sl 1 [.str [105, 48, 105, 110, 105, 110], .str [105, 110, 105, 48, 105, 110], .str [105, 110, 105, 110, 105, 110]], .sl 1 [.int .i64 11], .nilf, .nilf]
theorem M204_9 : Ret E 204 A204_9 C204_9 := ret_of_runE ok (ftP_without ft_ok) (fd_without fd_ok) hk1_ok (show runE E (without g1 ft) (withoutD g1 fd) hk1 1000 60 (.old (.ret 204 A204_9)) = some C204_9 by kernel_rfl)
def A204_10 : List SV := [.str [103, 116], .nils]
def C204_10 : SV := .agg [.str [103, 116], .sl 1 [.str [105, 48, 105, 110, 105, 110], .str [105, 110, 105, 48, 105, 110], .str [105, 110, 105, 110, 105, 110]], .sl 1 [.int .i64 11], .nilf, .nilf]
theorem M204_10 : Ret E 204 A204_10 C204_10 := ret_of_runE ok (ftP_without ft_ok) (fd_without fd_ok) hk1_ok (show runE E (without g1 ft) (withoutD g1 fd) hk1 1000 60 (.old (.ret 204 A204_10)) = some C204_10 by kernel_rfl)
def A204_11 : List SV := [.str [103, 101], .nils]
def C204_11 : SV := .agg [.str [103, 101], .sl 1 [.str [105, 48, 105, 110, 105, 110], .str [105, 110, 105, 48, 105, 110], .str [105, 110, 105, 110, 105, 110]], .sl 1 [.int .i64 11], .nilf, .nilf]
theorem M204_11 : Ret E 204 A204_11 C204_11 := ret_of_runE ok (ftP_without ft_ok) (fd_without fd_ok) hk1_ok (show runE E (without g1 ft) (withoutD g1 fd) hk1 1000 60 (.old (.ret 204 A204_11)) = some C204_11 by kernel_rfl)
def A204_12 : List SV := [.str [97, 110, 100], .nils]
def C204_12 : SV := .agg [.str [97, 110, 100], .sl 1 [.str [105, 48, 105, 110, 105, 110], .str [105, 110, 105, 48, 105, 110], .str [105, 110, 105, 110, 105, 110]], .sl 1 [.int .i64 11], .nilf, .nilf]
theorem M204_12 : Ret E 204 A204_12 C204_12 := ret_of_runE ok (ftP_without ft_ok) (fd_without fd_ok) hk1_ok (show runE E (without g1 ft) (withoutD g1 fd) hk1 1000 60 (.old (.ret 204 A204_12)) = some C204_12 by kernel_rfl)
def A204_13 : List SV := [.str [111, 114], .nils]
def C204_13 : SV := .agg [.str [111, 114], .sl 1 [.str [105, 48, 105, 110, 105, 110], .str [105, 110, 105, 48, 105, 110], .str [105, 110, 105, 110, 105, 110]], .sl 1 [.int .i64 11], .nilf, .nilf]
theorem M204_13 : Ret E 204 A204_13 C204_13 := ret_of_runE ok (ftP_without ft_ok) (fd_without fd_ok) hk1_ok (show runE E (without g1 ft) (withoutD g1 fd) hk1 1000 60 (.old (.ret 204 A204_13)) = some C204_13 by kernel_rfl)
def A204_14 : List SV := [.str [109, 105, 110], .nils]
def C204_14 : SV := .agg [.str [109, 105, 110], .sl 1 [.str [105, 48, 105, 110, 105, 110], .str [105, 110, 105, 48, 105, 110], .str [105, 110, 105, 110, 105, 110]], .sl 1 [.int .i64 11], .nilf, .nilf]
theorem M204_14 : Ret E 204 A204_14 C204_14 := ret_of_runE ok (ftP_without ft_ok) (fd_without fd_ok) hk1_ok (show runE E (without g1 ft) (withoutD g1 fd) hk1 1000 60 (.old (.ret 204 A204_14)) = some C204_14 by kernel_rfl)
def A204_15 : List SV := [.str [109, 97, 120], .nils]
def C204_15 : SV := .agg [.str [109, 97, 120], .sl 1 [.str [105, 48, 105, 110, 105, 110], .str [105, 110, 105, 48, 105, 110], .str [105, 110, 105, 110, 105, 110]], .sl 1 [.int .i64 11], .nilf, .nilf]
theorem M204_15 : Ret E 204 A204_15 C204_15 := ret_of_runE ok (ftP_without ft_ok) (fd_without fd_ok) hk1_ok (show runE E (without g1 ft) (withoutD g1 fd) hk1 1000 60 (.old (.ret 204 A204_15)) = some C204_15 by kernel_rfl)
def l204 : List (List SV × SV) := [(A204_0, C204_0), (A204_1, C204_1), (A204_2, C204_2), (A204_3, C204_3), (A204_4, C204_4), (A204_5, C204_5), (A204_6, C204_6), (A204_7, C204_7), (A204_8, C204_8), (A204_9, C204_9), (A204_10, C204_10), (A204_11, C204_11), (A204_12, C204_12), (A204_13, C204_13), (A204_14, C204_14), (A204_15, C204_15)]
abbrev g2 : List Nat := [84, 204]
noncomputable def hk2 : Hk := ⟨(204, look l204) :: hk1.x, hk.s⟩
theorem hk2_ok : HkOK E hk2 := ⟨hkX_cons (fun az r h => toldL_look (l := l204) ⟨M204_0, M204_1, M204_2, M204_3, M204_4, M204_5, M204_6, M204_7, M204_8, M204_9, M204_10, M204_11, M204_12, M204_13, M204_14, M204_15, trivial⟩ az r h) hk1_ok.x, hk_ok.s⟩
def A170_0 : List SV := []
def C170_0 : SV := .sl 5 [.agg [.str [], .nils, .nils, .nilf, .nilf], .agg [.str [110, 101, 103], .sl 1 [.str [105, 110, 105, 110]], .sl 1 [.int .i64 12], .nilf, .nilf], .agg [.str [97, 98, 115], .sl 1 [.str [105, 110, 105, 110]], .sl 1 [.int .i64 12], .nilf, .nilf], .agg [.str [110, 111, 116], .sl 1 [.str [105, 110, 105, 110]], .nils, .nilf, .nilf], .agg [.str [115, 104, 97, 112, 101], .sl 1 [.str [107, 110, 105, 49]], .nils, .fn 193 [], .nilf], .agg [.str [114, 97, 118, 101, 108], .sl 1 [.str [107, 110, 107, 49]], .nils, .fn 194 [], .nilf], .agg [.str [114, 101, 118, 101, 114, 115, 101], .sl 1 [.str [107, 49, 107, 49], .str [107, 50, 107, 50]], .nils, .fn 195 [], .nilf], .agg [.str [102, 108, 105, 112], .sl 1 [.str [107, 50, 107, 50]], .nils, .fn 196 [], .nilf], .agg [.str [105, 111, 116, 97], .sl 1 [.str [105, 48, 105, 49]], .sl 1 [.int .i64 13, .int .i64 15], .fn 197 [], .nilf], .agg [.str [115, 117, 109], .sl 1 [.str [105, 49, 105, 48], .str [105, 50, 105, 49]], .sl 1 [.int .i64 12], .fn 198 [], .nilf], .agg [.str [108, 101, 97, 115, 116], .sl 1 [.str [105, 49, 105, 48], .str [105, 50, 105, 49]], .sl 1 [.int .i64 13], .fn 199 [], .nilf], .agg [.str [109, 111, 115, 116], .sl 1 [.str [105, 49, 105, 48], .str [105, 50, 105, 49]], .sl 1 [.int .i64 13], .fn 200 [], .nilf], .agg [.str [99, 111, 117, 110, 116], .sl 1 [.str [107, 49, 105, 48], .str [107, 50, 105, 49]], .nils, .fn 201 [], .nilf], .agg [.str [115, 99, 97, 110], .sl 1 [.str [105, 49, 105, 49], .str [105, 50, 105, 50]], .sl 1 [.int .i64 12], .fn 202 [], .nilf], .agg [.str [103, 114, 97, 100, 101], .sl 1 [.str [105, 49, 105, 49]], .nils, .fn 203 [], .nilf], .agg [.str [97, 100, 100], .sl 1 [.str [105, 48, 105, 110, 105, 110], .str [105, 110, 105, 48, 105, 110], .str [105, 110, 105, 110, 105, 110]], .sl 1 [.int .i64 11, .int .i64 12], .nilf, .nilf], .agg [.str [115, 117, 98], .sl 1 [.str [105, 48, 105, 110, 105, 110], .str [105, 110, 105, 48, 105, 110], .str [105, 110, 105, 110, 105, 110]], .sl 1 [.int .i64 11, .int .i64 12], .nilf, .nilf], .agg [.str [109, 117, 108], .sl 1 [.str [105, 48, 105, 110, 105, 110], .str [105, 110, 105, 48, 105, 110], .str [105, 110, 105, 110, 105, 110]], .sl 1 [.int .i64 11, .int .i64 12], .nilf, .nilf], .agg [.str [100, 105, 118], .sl 1 [.str [105, 48, 105, 110, 105, 110], .str [105, 110, 105, 48, 105, 110], .str [105, 110, 105, 110, 105, 110]], .sl 1 [.int .i64 11, .int .i64 12, .int .i64 13], .nilf, .nilf], .agg [.str [109, 111, 100], .sl 1 [.str [105, 48, 105, 110, 105, 110], .str [105, 110, 105, 48, 105, 110], .str [105, 110, 105, 110, 105, 110]], .sl 1 [.int .i64 11, .int .i64 13], .nilf, .nilf], .agg [.str [112, 108, 117, 115], .sl 1 [.str [105, 48, 105, 110, 105, 110], .str [105, 110, 105, 48, 105, 110], .str [105, 110, 105, 110, 105, 110]], .sl 1 [.int .i64 11], .nilf, .nilf], .agg [.str [109, 105, 110, 117, 115], .sl 1 [.str [105, 48, 105, 110, 105, 110], .str [105, 110, 105, 48, 105, 110], .str [105, 110, 105, 110, 105, 110]], .sl 1 [.int .i64 11], .nilf, .nilf], .agg [.str [116, 105, 109, 101, 115], .sl 1 [.str [105, 48, 105, 110, 105, 110], .str [105, 110, 105, 48, 105, 110], .str [105, 110, 105, 110, 105, 110]], .sl 1 [.int .i64 11], .nilf, .nilf], .agg [.str [101, 113], .sl 1 [.str [107, 48, 107, 110, 105, 110], .str [107, 110, 107, 48, 105, 110], .str [107, 110, 107, 110, 105, 110]], .sl 1 [.int .i64 11], .nilf, .nilf], .agg [.str [110, 101], .sl 1 [.str [107, 48, 107, 110, 105, 110], .str [107, 110, 107, 48, 105, 110], .str [107, 110, 107, 110, 105, 110]], .sl 1 [.int .i64 11], .nilf, .nilf], .agg [.str [108, 116], .sl 1 [.str [105, 48, 105, 110, 105, 110], .str [105, 110, 105, 48, 105, 110], .str [105, 110, 105, 110, 105, 110]], .sl 1 [.int .i64 11], .nilf, .nilf], .agg [.str [108, 101], .sl 1 [.str [105, 48, 105, 110, 105, 110], .str [105, 110, 105, 48, 105, 110], .str [105, 110, 105, 110, 105, 110]], .sl 1 [.int .i64 11], .nilf, .nilf], .agg [.str [103, 116], .sl 1 [.str [105, 48, 105, 110, 105, 110], .str [105, 110, 105, 48, 105, 110], .str [105, 110, 105, 110, 105, 110]], .sl 1 [.int .i64 11], .nilf, .nilf], .agg [.str [103, 101], .sl 1 [.str [105, 48, 105, 110, 105, 110], .str [105, 110, 105, 48, 105, 110], .str [105, 110, 105, 110, 105, 110]], .sl 1 [.int .i64 11], .nilf, .nilf], .agg [.str [97, 110, 100], .sl 1 [.str [105, 48, 105, 110, 105, 110], .str [105, 110, 105, 48, 105, 110], .str [105, 110, 105, 110, 105, 110]], .sl 1 [.int .i64 11], .nilf, .nilf], .agg [.str [111, 114], .sl 1 [.str [105, 48, 105, 110, 105, 110], .str [105, 110, 105, 48, 105, 110], .str [105, 110, 105, 110, 105, 110]], .sl 1 [.int .i64 11], .nilf, .nilf], .agg [.str [109, 105, 110], .sl 1 [.str [105, 48, 105, 110, 105, 110], .str [105, 110, 105, 48, 105, 110], .str [105, 110, 105, 110, 105, 110]], .sl 1 [.int .i64 11], .nilf, .nilf], .agg [.str [109, 97, 120], .sl 1 [.str [105, 48, 105, 110, 105, 110], .str [105, 110, 105, 48, 105, 110], .str [105, 110, 105, 110, 105, 110]], .sl 1 [.int .i64 11], .nilf, .nilf], .agg [.str [116, 97, 107, 101], .sl 1 [.str [105, 48, 107, 49, 107, 49]], .nils, .nilf, .fn 205 []], .agg [.str [100, 114, 111, 112], .sl 1 [.str [105, 48, 107, 49, 107, 49]], .nils, .nilf, .fn 206 []], .agg [.str [102, 105, 108, 108], .sl 1 [.str [105, 48, 107, 48, 107, 49]], .sl 1 [.int .i64 13, .int .i64 15], .nilf, .fn 207 []], .agg [.str [103, 114, 105, 100], .sl 1 [.str [105, 49, 107, 49, 107, 50]], .sl 1 [.int .i64 11, .int .i64 13, .int .i64 15], .nilf, .fn 208 []], .agg [.str [99, 97, 116], .sl 1 [.str [107, 49, 107, 49, 107, 49], .str [107, 50, 107, 50, 107, 50]], .sl 1 [.int .i64 11, .int .i64 15], .nilf, .fn 209 []], .agg [.str [97, 116], .sl 1 [.str [107, 49, 105, 48, 107, 48], .str [107, 49, 105, 49, 107, 49]], .sl 1 [.int .i64 14], .nilf, .fn 210 []], .agg [.str [105, 110], .sl 1 [.str [107, 110, 107, 49, 105, 110]], .nils, .nilf, .fn 211 []], .agg [.str [112, 105, 99, 107], .sl 1 [.str [105, 49, 107, 49, 107, 49]], .sl 1 [.int .i64 11], .nilf, .fn 212 []]]
theorem M170_0 : Ret E 170 A170_0 C170_0 := ret_of_runE ok (ftP_without ft_ok) (fd_without fd_ok) hk2_ok (show runE E (without g2 ft) (withoutD g2 fd) hk2 1000 60 (.old (.ret 170 A170_0)) = some C170_0 by kernel_rfl)
def l170 : List (List SV × SV) := [(A170_0, C170_0)]
abbrev g3 : List Nat := [84, 204, 170]
noncomputable def hk3 : Hk := ⟨(170, look l170) :: hk2.x, hk.s⟩
theorem hk3_ok : HkOK E hk3 := ⟨hkX_cons (fun az r h => toldL_look (l := l170) ⟨M170_0, trivial⟩ az r h) hk2_ok.x, hk_ok.s⟩
def A134_0 : List SV := [.str [102]]
def C134_0 : SV := .tup [.int .i64 0, .int .i64 4]
theorem M134_0 : Ret E 134 A134_0 C134_0 := ret_of_runE ok (ftP_without ft_ok) (fd_without fd_ok) hk3_ok (show runE E (without g3 ft) (withoutD g3 fd) hk3 1000 60 (.old (.ret 134 A134_0)) = some C134_0 by kernel_rfl)
def A134_1 : List SV := [.str [120]]
def C134_1 : SV := .tup [.int .i64 0, .int .i64 4]
theorem M134_1 : Ret E 134 A134_1 C134_1 := ret_of_runE ok (ftP_without ft_ok) (fd_without fd_ok) hk3_ok (show runE E (without g3 ft) (withoutD g3 fd) hk3 1000 60 (.old (.ret 134 A134_1)) = some C134_1 by kernel_rfl)
def A134_2 : List SV := [.str [97, 100, 100]]
def C134_2 : SV := .tup [.int .i64 15, .int .i64 0]
theorem M134_2 : Ret E 134 A134_2 C134_2 := ret_of_runE ok (ftP_without ft_ok) (fd_without fd_ok) hk3_ok (show runE E (without g3 ft) (withoutD g3 fd) hk3 1000 60 (.old (.ret 134 A134_2)) = some C134_2 by kernel_rfl)
def A134_3 : List SV := [.str [121]]
def C134_3 : SV := .tup [.int .i64 0, .int .i64 4]
theorem M134_3 : Ret E 134 A134_3 C134_3 := ret_of_runE ok (ftP_without ft_ok) (fd_without fd_ok) hk3_ok (show runE E (without g3 ft) (withoutD g3 fd) hk3 1000 60 (.old (.ret 134 A134_3)) = some C134_3 by kernel_rfl)
def A134_4 : List SV := [.str [103, 116]]
def C134_4 : SV := .tup [.int .i64 27, .int .i64 0]
theorem M134_4 : Ret E 134 A134_4 C134_4 := ret_of_runE ok (ftP_without ft_ok) (fd_without fd_ok) hk3_ok (show runE E (without g3 ft) (withoutD g3 fd) hk3 1000 60 (.old (.ret 134 A134_4)) = some C134_4 by kernel_rfl)
def l134 : List (List SV × SV) := [(A134_0, C134_0), (A134_1, C134_1), (A134_2, C134_2), (A134_3, C134_3), (A134_4, C134_4)]
abbrev g4 : List Nat := [84, 204, 170, 134]
noncomputable def hk4 : Hk := ⟨(134, look l134) :: hk3.x, hk.s⟩
theorem hk4_ok : HkOK E hk4 := ⟨hkX_cons (fun az r h => toldL_look (l := l134) ⟨M134_0, M134_1, M134_2, M134_3, M134_4, trivial⟩ az r h) hk3_ok.x, hk_ok.s⟩
def A94_0 : List SV := [.str [102]]
def C94_0 : SV := .bool true
theorem M94_0 : Ret E 94 A94_0 C94_0 := ret_of_runE ok (ftP_without ft_ok) (fd_without fd_ok) hk4_ok (show runE E (without g4 ft) (withoutD g4 fd) hk4 1000 60 (.old (.ret 94 A94_0)) = some C94_0 by kernel_rfl)
def A94_1 : List SV := [.str [120]]
def C94_1 : SV := .bool true
theorem M94_1 : Ret E 94 A94_1 C94_1 := ret_of_runE ok (ftP_without ft_ok) (fd_without fd_ok) hk4_ok (show runE E (without g4 ft) (withoutD g4 fd) hk4 1000 60 (.old (.ret 94 A94_1)) = some C94_1 by kernel_rfl)
def A94_2 : List SV := [.str [121]]
def C94_2 : SV := .bool true
theorem M94_2 : Ret E 94 A94_2 C94_2 := ret_of_runE ok (ftP_without ft_ok) (fd_without fd_ok) hk4_ok (show runE E (without g4 ft) (withoutD g4 fd) hk4 1000 60 (.old (.ret 94 A94_2)) = some C94_2 by kernel_rfl)
def l94 : List (List SV × SV) := [(A94_0, C94_0), (A94_1, C94_1), (A94_2, C94_2)]
abbrev g5 : List Nat := [84, 204, 170, 134, 94]
noncomputable def hk5 : Hk := ⟨(94, look l94) :: hk4.x, hk.s⟩
theorem hk5_ok : HkOK E hk5 := ⟨hkX_cons (fun az r h => toldL_look (l := l94) ⟨M94_0, M94_1, M94_2, trivial⟩ az r h) hk4_ok.x, hk_ok.s⟩
def A111_0 : List SV := [.agg [.int .i64 5, .int .i64 15, .int .i64 2, .str [], .str [], .int .i64 0, .int .i64 0]]
def C111_0 : SV := .tup [.agg [.int .i64 0, .int .i64 0, .int .i64 0, .str [], .str [], .int .i64 0, .int .i64 0], .bool true]
theorem M111_0 : Ret E 111 A111_0 C111_0 := ret_of_runE ok (ftP_without ft_ok) (fd_without fd_ok) hk5_ok (show runE E (without g5 ft) (withoutD g5 fd) hk5 1000 60 (.old (.ret 111 A111_0)) = some C111_0 by kernel_rfl)
def A111_1 : List SV := [.agg [.int .i64 4, .int .i64 0, .int .i64 0, .str [120], .str [], .int .i64 0, .int .i64 0]]
def C111_1 : SV := .tup [.agg [.int .i64 0, .int .i64 0, .int .i64 0, .str [], .str [], .int .i64 0, .int .i64 0], .bool false]
theorem M111_1 : Ret E 111 A111_1 C111_1 := ret_of_runE ok (ftP_without ft_ok) (fd_without fd_ok) hk5_ok (show runE E (without g5 ft) (withoutD g5 fd) hk5 1000 60 (.old (.ret 111 A111_1)) = some C111_1 by kernel_rfl)
def A111_2 : List SV := [.agg [.int .i64 1, .int .i64 0, .int .i64 0, .str [], .str [], .int .i64 1, .int .i64 0]]
def C111_2 : SV := .tup [.agg [.int .i64 0, .int .i64 0, .int .i64 0, .str [], .str [], .int .i64 0, .int .i64 0], .bool false]
theorem M111_2 : Ret E 111 A111_2 C111_2 := ret_of_runE ok (ftP_without ft_ok) (fd_without fd_ok) hk5_ok (show runE E (without g5 ft) (withoutD g5 fd) hk5 1000 60 (.old (.ret 111 A111_2)) = some C111_2 by kernel_rfl)
def A111_3 : List SV := [.agg [.int .i64 6, .int .i64 0, .int .i64 1, .str [102], .str [], .int .i64 0, .int .i64 0]]
def C111_3 : SV := .tup [.agg [.int .i64 0, .int .i64 0, .int .i64 0, .str [], .str [], .int .i64 0, .int .i64 0], .bool true]
theorem M111_3 : Ret E 111 A111_3 C111_3 := ret_of_runE ok (ftP_without ft_ok) (fd_without fd_ok) hk5_ok (show runE E (without g5 ft) (withoutD g5 fd) hk5 1000 60 (.old (.ret 111 A111_3)) = some C111_3 by kernel_rfl)
def A111_4 : List SV := [.agg [.int .i64 1, .int .i64 0, .int .i64 0, .str [], .str [], .int .i64 2, .int .i64 0]]
def C111_4 : SV := .tup [.agg [.int .i64 0, .int .i64 0, .int .i64 0, .str [], .str [], .int .i64 0, .int .i64 0], .bool false]
theorem M111_4 : Ret E 111 A111_4 C111_4 := ret_of_runE ok (ftP_without ft_ok) (fd_without fd_ok) hk5_ok (show runE E (without g5 ft) (withoutD g5 fd) hk5 1000 60 (.old (.ret 111 A111_4)) = some C111_4 by kernel_rfl)
def A111_5 : List SV := [.agg [.int .i64 5, .int .i64 27, .int .i64 2, .str [], .str [], .int .i64 0, .int .i64 0]]
def C111_5 : SV := .tup [.agg [.int .i64 0, .int .i64 0, .int .i64 0, .str [], .str [], .int .i64 0, .int .i64 0], .bool true]
theorem M111_5 : Ret E 111 A111_5 C111_5 := ret_of_runE ok (ftP_without ft_ok) (fd_without fd_ok) hk5_ok (show runE E (without g5 ft) (withoutD g5 fd) hk5 1000 60 (.old (.ret 111 A111_5)) = some C111_5 by kernel_rfl)
def A111_6 : List SV := [.agg [.int .i64 4, .int .i64 0, .int .i64 0, .str [121], .str [], .int .i64 0, .int .i64 0]]
def C111_6 : SV := .tup [.agg [.int .i64 0, .int .i64 0, .int .i64 0, .str [], .str [], .int .i64 0, .int .i64 0], .bool false]
theorem M111_6 : Ret E 111 A111_6 C111_6 := ret_of_runE ok (ftP_without ft_ok) (fd_without fd_ok) hk5_ok (show runE E (without g5 ft) (withoutD g5 fd) hk5 1000 60 (.old (.ret 111 A111_6)) = some C111_6 by kernel_rfl)
def A111_7 : List SV := [.agg [.int .i64 1, .int .i64 0, .int .i64 0, .str [], .str [], .int .i64 3, .int .i64 0]]
def C111_7 : SV := .tup [.agg [.int .i64 0, .int .i64 0, .int .i64 0, .str [], .str [], .int .i64 0, .int .i64 0], .bool false]
theorem M111_7 : Ret E 111 A111_7 C111_7 := ret_of_runE ok (ftP_without ft_ok) (fd_without fd_ok) hk5_ok (show runE E (without g5 ft) (withoutD g5 fd) hk5 1000 60 (.old (.ret 111 A111_7)) = some C111_7 by kernel_rfl)
def l111 : List (List SV × SV) := [(A111_0, C111_0), (A111_1, C111_1), (A111_2, C111_2), (A111_3, C111_3), (A111_4, C111_4), (A111_5, C111_5), (A111_6, C111_6), (A111_7, C111_7)]
abbrev g6 : List Nat := [84, 204, 170, 134, 94, 111]
noncomputable def hk6 : Hk := ⟨(111, look l111) :: hk5.x, hk.s⟩
theorem hk6_ok : HkOK E hk6 := ⟨hkX_cons (fun az r h => toldL_look (l := l111) ⟨M111_0, M111_1, M111_2, M111_3, M111_4, M111_5, M111_6, M111_7, trivial⟩ az r h) hk5_ok.x, hk_ok.s⟩
def A96_0 : List SV := [.agg [.int .i64 1, .int .i64 0, .int .i64 0, .int .i64 0, .str [102]]]
def C96_0 : SV := .int .i64 0
theorem M96_0 : Ret E 96 A96_0 C96_0 := ret_of_runE ok (ftP_without ft_ok) (fd_without fd_ok) hk6_ok (show runE E (without g6 ft) (withoutD g6 fd) hk6 1000 60 (.old (.ret 96 A96_0)) = some C96_0 by kernel_rfl)
def A96_1 : List SV := [.agg [.int .i64 1, .int .i64 0, .int .i64 0, .int .i64 0, .str [120]]]
def C96_1 : SV := .int .i64 0
theorem M96_1 : Ret E 96 A96_1 C96_1 := ret_of_runE ok (ftP_without ft_ok) (fd_without fd_ok) hk6_ok (show runE E (without g6 ft) (withoutD g6 fd) hk6 1000 60 (.old (.ret 96 A96_1)) = some C96_1 by kernel_rfl)
def A96_2 : List SV := [.agg [.int .i64 1, .int .i64 10, .int .i64 11, .int .i64 0, .str [120]]]
def C96_2 : SV := .int .i64 0
theorem M96_2 : Ret E 96 A96_2 C96_2 := ret_of_runE ok (ftP_without ft_ok) (fd_without fd_ok) hk6_ok (show runE E (without g6 ft) (withoutD g6 fd) hk6 1000 60 (.old (.ret 96 A96_2)) = some C96_2 by kernel_rfl)
def A96_3 : List SV := [.agg [.int .i64 1, .int .i64 12, .int .i64 15, .int .i64 0, .str [97, 100, 100]]]
def C96_3 : SV := .int .i64 0
theorem M96_3 : Ret E 96 A96_3 C96_3 := ret_of_runE ok (ftP_without ft_ok) (fd_without fd_ok) hk6_ok (show runE E (without g6 ft) (withoutD g6 fd) hk6 1000 60 (.old (.ret 96 A96_3)) = some C96_3 by kernel_rfl)
def A96_4 : List SV := [.agg [.int .i64 2, .int .i64 16, .int .i64 17, .int .i64 1, .str []]]
def C96_4 : SV := .int .i64 0
theorem M96_4 : Ret E 96 A96_4 C96_4 := ret_of_runE ok (ftP_without ft_ok) (fd_without fd_ok) hk6_ok (show runE E (without g6 ft) (withoutD g6 fd) hk6 1000 60 (.old (.ret 96 A96_4)) = some C96_4 by kernel_rfl)
def A96_5 : List SV := [.agg [.int .i64 1, .int .i64 0, .int .i64 0, .int .i64 0, .str [121]]]
def C96_5 : SV := .int .i64 0
theorem M96_5 : Ret E 96 A96_5 C96_5 := ret_of_runE ok (ftP_without ft_ok) (fd_without fd_ok) hk6_ok (show runE E (without g6 ft) (withoutD g6 fd) hk6 1000 60 (.old (.ret 96 A96_5)) = some C96_5 by kernel_rfl)
def A96_6 : List SV := [.agg [.int .i64 1, .int .i64 5, .int .i64 6, .int .i64 0, .str [102]]]
def C96_6 : SV := .int .i64 0
theorem M96_6 : Ret E 96 A96_6 C96_6 := ret_of_runE ok (ftP_without ft_ok) (fd_without fd_ok) hk6_ok (show runE E (without g6 ft) (withoutD g6 fd) hk6 1000 60 (.old (.ret 96 A96_6)) = some C96_6 by kernel_rfl)
def A96_7 : List SV := [.agg [.int .i64 2, .int .i64 7, .int .i64 8, .int .i64 2, .str []]]
def C96_7 : SV := .int .i64 0
theorem M96_7 : Ret E 96 A96_7 C96_7 := ret_of_runE ok (ftP_without ft_ok) (fd_without fd_ok) hk6_ok (show runE E (without g6 ft) (withoutD g6 fd) hk6 1000 60 (.old (.ret 96 A96_7)) = some C96_7 by kernel_rfl)
def A96_8 : List SV := [.agg [.int .i64 1, .int .i64 3, .int .i64 4, .int .i64 0, .str [121]]]
def C96_8 : SV := .int .i64 0
theorem M96_8 : Ret E 96 A96_8 C96_8 := ret_of_runE ok (ftP_without ft_ok) (fd_without fd_ok) hk6_ok (show runE E (without g6 ft) (withoutD g6 fd) hk6 1000 60 (.old (.ret 96 A96_8)) = some C96_8 by kernel_rfl)
def A96_9 : List SV := [.agg [.int .i64 1, .int .i64 5, .int .i64 7, .int .i64 0, .str [103, 116]]]
def C96_9 : SV := .int .i64 0
theorem M96_9 : Ret E 96 A96_9 C96_9 := ret_of_runE ok (ftP_without ft_ok) (fd_without fd_ok) hk6_ok (show runE E (without g6 ft) (withoutD g6 fd) hk6 1000 60 (.old (.ret 96 A96_9)) = some C96_9 by kernel_rfl)
def A96_10 : List SV := [.agg [.int .i64 2, .int .i64 8, .int .i64 9, .int .i64 3, .str []]]
def C96_10 : SV := .int .i64 0
theorem M96_10 : Ret E 96 A96_10 C96_10 := ret_of_runE ok (ftP_without ft_ok) (fd_without fd_ok) hk6_ok (show runE E (without g6 ft) (withoutD g6 fd) hk6 1000 60 (.old (.ret 96 A96_10)) = some C96_10 by kernel_rfl)
def A96_11 : List SV := [.agg [.int .i64 1, .int .i64 8, .int .i64 9, .int .i64 0, .str [121]]]
def C96_11 : SV := .int .i64 0
theorem M96_11 : Ret E 96 A96_11 C96_11 := ret_of_runE ok (ftP_without ft_ok) (fd_without fd_ok) hk6_ok (show runE E (without g6 ft) (withoutD g6 fd) hk6 1000 60 (.old (.ret 96 A96_11)) = some C96_11 by kernel_rfl)
def A96_12 : List SV := [.agg [.int .i64 1, .int .i64 0, .int .i64 0, .int .i64 0, .str [99]]]
def C96_12 : SV := .int .i64 0
theorem M96_12 : Ret E 96 A96_12 C96_12 := ret_of_runE ok (ftP_without ft_ok) (fd_without fd_ok) hk6_ok (show runE E (without g6 ft) (withoutD g6 fd) hk6 1000 60 (.old (.ret 96 A96_12)) = some C96_12 by kernel_rfl)
def A96_13 : List SV := [.agg [.int .i64 2, .int .i64 3, .int .i64 4, .int .i64 1, .str []]]
def C96_13 : SV := .int .i64 0
theorem M96_13 : Ret E 96 A96_13 C96_13 := ret_of_runE ok (ftP_without ft_ok) (fd_without fd_ok) hk6_ok (show runE E (without g6 ft) (withoutD g6 fd) hk6 1000 60 (.old (.ret 96 A96_13)) = some C96_13 by kernel_rfl)
def l96 : List (List SV × SV) := [(A96_0, C96_0), (A96_1, C96_1), (A96_2, C96_2), (A96_3, C96_3), (A96_4, C96_4), (A96_5, C96_5), (A96_6, C96_6), (A96_7, C96_7), (A96_8, C96_8), (A96_9, C96_9), (A96_10, C96_10), (A96_11, C96_11), (A96_12, C96_12), (A96_13, C96_13)]
abbrev g7 : List Nat := [84, 204, 170, 134, 94, 111, 96]
noncomputable def hk7 : Hk := ⟨(96, look l96) :: hk6.x, hk.s⟩
theorem hk7_ok : HkOK E hk7 := ⟨hkX_cons (fun az r h => toldL_look (l := l96) ⟨M96_0, M96_1, M96_2, M96_3, M96_4, M96_5, M96_6, M96_7, M96_8, M96_9, M96_10, M96_11, M96_12, M96_13, trivial⟩ az r h) hk6_ok.x, hk_ok.s⟩
def A107_0 : List SV := [.agg [.int .i64 5, .int .i64 15, .int .i64 2, .str [], .str [], .int .i64 0, .int .i64 0]]
def C107_0 : SV := .int .i64 0
theorem M107_0 : Ret E 107 A107_0 C107_0 := ret_of_runE ok (ftP_without ft_ok) (fd_without fd_ok) hk7_ok (show runE E (without g7 ft) (withoutD g7 fd) hk7 1000 60 (.old (.ret 107 A107_0)) = some C107_0 by kernel_rfl)
def A107_1 : List SV := [.agg [.int .i64 4, .int .i64 0, .int .i64 0, .str [120], .str [], .int .i64 0, .int .i64 0]]
def C107_1 : SV := .int .i64 0
theorem M107_1 : Ret E 107 A107_1 C107_1 := ret_of_runE ok (ftP_without ft_ok) (fd_without fd_ok) hk7_ok (show runE E (without g7 ft) (withoutD g7 fd) hk7 1000 60 (.old (.ret 107 A107_1)) = some C107_1 by kernel_rfl)
def A107_2 : List SV := [.agg [.int .i64 1, .int .i64 0, .int .i64 0, .str [], .str [], .int .i64 1, .int .i64 0]]
def C107_2 : SV := .int .i64 0
theorem M107_2 : Ret E 107 A107_2 C107_2 := ret_of_runE ok (ftP_without ft_ok) (fd_without fd_ok) hk7_ok (show runE E (without g7 ft) (withoutD g7 fd) hk7 1000 60 (.old (.ret 107 A107_2)) = some C107_2 by kernel_rfl)
def A107_3 : List SV := [.agg [.int .i64 6, .int .i64 0, .int .i64 1, .str [102], .str [], .int .i64 0, .int .i64 0]]
def C107_3 : SV := .int .i64 0
theorem M107_3 : Ret E 107 A107_3 C107_3 := ret_of_runE ok (ftP_without ft_ok) (fd_without fd_ok) hk7_ok (show runE E (without g7 ft) (withoutD g7 fd) hk7 1000 60 (.old (.ret 107 A107_3)) = some C107_3 by kernel_rfl)
def A107_4 : List SV := [.agg [.int .i64 1, .int .i64 0, .int .i64 0, .str [], .str [], .int .i64 2, .int .i64 0]]
def C107_4 : SV := .int .i64 0
theorem M107_4 : Ret E 107 A107_4 C107_4 := ret_of_runE ok (ftP_without ft_ok) (fd_without fd_ok) hk7_ok (show runE E (without g7 ft) (withoutD g7 fd) hk7 1000 60 (.old (.ret 107 A107_4)) = some C107_4 by kernel_rfl)
def A107_5 : List SV := [.agg [.int .i64 5, .int .i64 27, .int .i64 2, .str [], .str [], .int .i64 0, .int .i64 0]]
def C107_5 : SV := .int .i64 0
theorem M107_5 : Ret E 107 A107_5 C107_5 := ret_of_runE ok (ftP_without ft_ok) (fd_without fd_ok) hk7_ok (show runE E (without g7 ft) (withoutD g7 fd) hk7 1000 60 (.old (.ret 107 A107_5)) = some C107_5 by kernel_rfl)
def A107_6 : List SV := [.agg [.int .i64 4, .int .i64 0, .int .i64 0, .str [121], .str [], .int .i64 0, .int .i64 0]]
def C107_6 : SV := .int .i64 0
theorem M107_6 : Ret E 107 A107_6 C107_6 := ret_of_runE ok (ftP_without ft_ok) (fd_without fd_ok) hk7_ok (show runE E (without g7 ft) (withoutD g7 fd) hk7 1000 60 (.old (.ret 107 A107_6)) = some C107_6 by kernel_rfl)
def A107_7 : List SV := [.agg [.int .i64 1, .int .i64 0, .int .i64 0, .str [], .str [], .int .i64 3, .int .i64 0]]
def C107_7 : SV := .int .i64 0
theorem M107_7 : Ret E 107 A107_7 C107_7 := ret_of_runE ok (ftP_without ft_ok) (fd_without fd_ok) hk7_ok (show runE E (without g7 ft) (withoutD g7 fd) hk7 1000 60 (.old (.ret 107 A107_7)) = some C107_7 by kernel_rfl)
def l107 : List (List SV × SV) := [(A107_0, C107_0), (A107_1, C107_1), (A107_2, C107_2), (A107_3, C107_3), (A107_4, C107_4), (A107_5, C107_5), (A107_6, C107_6), (A107_7, C107_7)]
abbrev g8 : List Nat := [84, 204, 170, 134, 94, 111, 96, 107]
noncomputable def hk8 : Hk := ⟨(107, look l107) :: hk7.x, hk.s⟩
theorem hk8_ok : HkOK E hk8 := ⟨hkX_cons (fun az r h => toldL_look (l := l107) ⟨M107_0, M107_1, M107_2, M107_3, M107_4, M107_5, M107_6, M107_7, trivial⟩ az r h) hk7_ok.x, hk_ok.s⟩
def A71_0 : List SV := [.sl 7 [.agg [.int .i64 5, .int .i64 15, .int .i64 2, .str [], .str [], .int .i64 0, .int .i64 0], .agg [.int .i64 4, .int .i64 0, .int .i64 0, .str [120], .str [], .int .i64 0, .int .i64 0], .agg [.int .i64 1, .int .i64 0, .int .i64 0, .str [], .str [], .int .i64 1, .int .i64 0]]]
def C71_0 : SV := .tup [.agg [.sl 1 [.int .i64 3, .int .i64 2, .int .i64 3], .sl 1 [.int .i64 2, .int .i64 1, .int .i64 1], .any, .sl 1 [.fls, .fls, .fls]], .int .i64 0, .int .i64 0]
theorem M71_0 : Ret E 71 A71_0 C71_0 := ret_of_runE ok (ftP_without ft_ok) (fd_without fd_ok) hk8_ok (show runE E (without g8 ft) (withoutD g8 fd) hk8 1000 60 (.old (.ret 71 A71_0)) = some C71_0 by kernel_rfl)
def A71_1 : List SV := [.sl 7 [.agg [.int .i64 6, .int .i64 0, .int .i64 1, .str [102], .str [], .int .i64 0, .int .i64 0], .agg [.int .i64 1, .int .i64 0, .int .i64 0, .str [], .str [], .int .i64 2, .int .i64 0]]]
def C71_1 : SV := .tup [.agg [.sl 1 [.int .i64 2, .int .i64 2], .sl 1 [.int .i64 2, .int .i64 1], .any, .sl 1 [.fls, .fls]], .int .i64 0, .int .i64 0]
theorem M71_1 : Ret E 71 A71_1 C71_1 := ret_of_runE ok (ftP_without ft_ok) (fd_without fd_ok) hk8_ok (show runE E (without g8 ft) (withoutD g8 fd) hk8 1000 60 (.old (.ret 71 A71_1)) = some C71_1 by kernel_rfl)
def A71_2 : List SV := [.sl 7 [.agg [.int .i64 5, .int .i64 27, .int .i64 2, .str [], .str [], .int .i64 0, .int .i64 0], .agg [.int .i64 4, .int .i64 0, .int .i64 0, .str [121], .str [], .int .i64 0, .int .i64 0], .agg [.int .i64 1, .int .i64 0, .int .i64 0, .str [], .str [], .int .i64 3, .int .i64 0]]]
def C71_2 : SV := .tup [.agg [.sl 1 [.int .i64 3, .int .i64 2, .int .i64 3], .sl 1 [.int .i64 2, .int .i64 1, .int .i64 1], .any, .sl 1 [.fls, .fls, .fls]], .int .i64 0, .int .i64 0]
theorem M71_2 : Ret E 71 A71_2 C71_2 := ret_of_runE ok (ftP_without ft_ok) (fd_without fd_ok) hk8_ok (show runE E (without g8 ft) (withoutD g8 fd) hk8 1000 60 (.old (.ret 71 A71_2)) = some C71_2 by kernel_rfl)
def A71_3 : List SV := [.sl 7 [.agg [.int .i64 4, .int .i64 0, .int .i64 0, .str [121], .str [], .int .i64 0, .int .i64 0]]]
def C71_3 : SV := .tup [.agg [.sl 1 [.int .i64 1], .sl 1 [.int .i64 1], .any, .sl 1 [.fls]], .int .i64 0, .int .i64 0]
theorem M71_3 : Ret E 71 A71_3 C71_3 := ret_of_runE ok (ftP_without ft_ok) (fd_without fd_ok) hk8_ok (show runE E (without g8 ft) (withoutD g8 fd) hk8 1000 60 (.old (.ret 71 A71_3)) = some C71_3 by kernel_rfl)
def A71_4 : List SV := [.sl 7 [.agg [.int .i64 1, .int .i64 0, .int .i64 0, .str [], .str [], .int .i64 1, .int .i64 0]]]
def C71_4 : SV := .tup [.agg [.sl 1 [.int .i64 1], .sl 1 [.int .i64 1], .any, .sl 1 [.fls]], .int .i64 0, .int .i64 0]
theorem M71_4 : Ret E 71 A71_4 C71_4 := ret_of_runE ok (ftP_without ft_ok) (fd_without fd_ok) hk8_ok (show runE E (without g8 ft) (withoutD g8 fd) hk8 1000 60 (.old (.ret 71 A71_4)) = some C71_4 by kernel_rfl)
def l71 : List (List SV × SV) := [(A71_0, C71_0), (A71_1, C71_1), (A71_2, C71_2), (A71_3, C71_3), (A71_4, C71_4)]
abbrev g9 : List Nat := [84, 204, 170, 134, 94, 111, 96, 107, 71]
noncomputable def hk9 : Hk := ⟨(71, look l71) :: hk8.x, hk.s⟩
theorem hk9_ok : HkOK E hk9 := ⟨hkX_cons (fun az r h => toldL_look (l := l71) ⟨M71_0, M71_1, M71_2, M71_3, M71_4, trivial⟩ az r h) hk8_ok.x, hk_ok.s⟩
def A61_0 : List SV := [.nils]
def C61_0 : SV := .tup [.int .i64 0, .int .i64 0]
theorem M61_0 : Ret E 61 A61_0 C61_0 := ret_of_runE ok (ftP_without ft_ok) (fd_without fd_ok) hk9_ok (show runE E (without g9 ft) (withoutD g9 fd) hk9 1000 60 (.old (.ret 61 A61_0)) = some C61_0 by kernel_rfl)
def A61_1 : List SV := [.sl 2 [.agg [.str [102], .int .i64 1]]]
def C61_1 : SV := .tup [.int .i64 0, .int .i64 0]
theorem M61_1 : Ret E 61 A61_1 C61_1 := ret_of_runE ok (ftP_without ft_ok) (fd_without fd_ok) hk9_ok (show runE E (without g9 ft) (withoutD g9 fd) hk9 1000 60 (.old (.ret 61 A61_1)) = some C61_1 by kernel_rfl)
def l61 : List (List SV × SV) := [(A61_0, C61_0), (A61_1, C61_1)]
abbrev g10 : List Nat := [84, 204, 170, 134, 94, 111, 96, 107, 71, 61]
noncomputable def hk10 : Hk := ⟨(61, look l61) :: hk9.x, hk.s⟩
theorem hk10_ok : HkOK E hk10 := ⟨hkX_cons (fun az r h => toldL_look (l := l61) ⟨M61_0, M61_1, trivial⟩ az r h) hk9_ok.x, hk_ok.s⟩
def A102_0 : List SV := [.sl 7 [.agg [.int .i64 5, .int .i64 15, .int .i64 2, .str [], .str [], .int .i64 0, .int .i64 0], .agg [.int .i64 4, .int .i64 0, .int .i64 0, .str [120], .str [], .int .i64 0, .int .i64 0], .agg [.int .i64 1, .int .i64 0, .int .i64 0, .str [], .str [], .int .i64 1, .int .i64 0]], .nils]
def C102_0 : SV := .tup [.int .i64 0, .int .i64 0]
theorem M102_0 : Ret E 102 A102_0 C102_0 := ret_of_runE ok (ftP_without ft_ok) (fd_without fd_ok) hk10_ok (show runE E (without g10 ft) (withoutD g10 fd) hk10 1000 60 (.old (.ret 102 A102_0)) = some C102_0 by kernel_rfl)
def A102_1 : List SV := [.sl 7 [.agg [.int .i64 6, .int .i64 0, .int .i64 1, .str [102], .str [], .int .i64 0, .int .i64 0], .agg [.int .i64 1, .int .i64 0, .int .i64 0, .str [], .str [], .int .i64 2, .int .i64 0]], .sl 2 [.agg [.str [102], .int .i64 1]]]
def C102_1 : SV := .tup [.int .i64 0, .int .i64 0]
theorem M102_1 : Ret E 102 A102_1 C102_1 := ret_of_runE ok (ftP_without ft_ok) (fd_without fd_ok) hk10_ok (show runE E (without g10 ft) (withoutD g10 fd) hk10 1000 60 (.old (.ret 102 A102_1)) = some C102_1 by kernel_rfl)
def A102_2 : List SV := [.sl 7 [.agg [.int .i64 5, .int .i64 27, .int .i64 2, .str [], .str [], .int .i64 0, .int .i64 0], .agg [.int .i64 4, .int .i64 0, .int .i64 0, .str [121], .str [], .int .i64 0, .int .i64 0], .agg [.int .i64 1, .int .i64 0, .int .i64 0, .str [], .str [], .int .i64 3, .int .i64 0]], .sl 2 [.agg [.str [102], .int .i64 1]]]
def C102_2 : SV := .tup [.int .i64 0, .int .i64 0]
theorem M102_2 : Ret E 102 A102_2 C102_2 := ret_of_runE ok (ftP_without ft_ok) (fd_without fd_ok) hk10_ok (show runE E (without g10 ft) (withoutD g10 fd) hk10 1000 60 (.old (.ret 102 A102_2)) = some C102_2 by kernel_rfl)
def A102_3 : List SV := [.sl 7 [.agg [.int .i64 4, .int .i64 0, .int .i64 0, .str [121], .str [], .int .i64 0, .int .i64 0]], .sl 2 [.agg [.str [102], .int .i64 1]]]
def C102_3 : SV := .tup [.int .i64 0, .int .i64 0]
theorem M102_3 : Ret E 102 A102_3 C102_3 := ret_of_runE ok (ftP_without ft_ok) (fd_without fd_ok) hk10_ok (show runE E (without g10 ft) (withoutD g10 fd) hk10 1000 60 (.old (.ret 102 A102_3)) = some C102_3 by kernel_rfl)
def l102 : List (List SV × SV) := [(A102_0, C102_0), (A102_1, C102_1), (A102_2, C102_2), (A102_3, C102_3)]
abbrev g11 : List Nat := [84, 204, 170, 134, 94, 111, 96, 107, 71, 61, 102]
noncomputable def hk11 : Hk := ⟨(102, look l102) :: hk10.x, hk.s⟩
theorem hk11_ok : HkOK E hk11 := ⟨hkX_cons (fun az r h => toldL_look (l := l102) ⟨M102_0, M102_1, M102_2, M102_3, trivial⟩ az r h) hk10_ok.x, hk_ok.s⟩
def A37_0 : List SV := [.agg [.nils, .sl 3 [.agg [.str [102], .sl 1 [.str [120]], .sl 7 [.agg [.int .i64 5, .int .i64 15, .int .i64 2, .str [], .str [], .int .i64 0, .int .i64 0], .agg [.int .i64 4, .int .i64 0, .int .i64 0, .str [120], .str [], .int .i64 0, .int .i64 0], .agg [.int .i64 1, .int .i64 0, .int .i64 0, .str [], .str [], .int .i64 1, .int .i64 0]]]], .sl 10 [.agg [.int .i64 1, .str [121], .str [], .str [], .str [], .str [], .int .i64 0, .int .i64 0, .sl 7 [.agg [.int .i64 6, .int .i64 0, .int .i64 1, .str [102], .str [], .int .i64 0, .int .i64 0], .agg [.int .i64 1, .int .i64 0, .int .i64 0, .str [], .str [], .int .i64 2, .int .i64 0]], .int .i64 0], .agg [.int .i64 3, .str [], .str [], .str [], .str [], .str [], .int .i64 1, .int .i64 0, .sl 7 [.agg [.int .i64 5, .int .i64 27, .int .i64 2, .str [], .str [], .int .i64 0, .int .i64 0], .agg [.int .i64 4, .int .i64 0, .int .i64 0, .str [121], .str [], .int .i64 0, .int .i64 0], .agg [.int .i64 1, .int .i64 0, .int .i64 0, .str [], .str [], .int .i64 3, .int .i64 0]], .int .i64 0], .agg [.int .i64 2, .str [], .str [99], .str [], .str [], .str [], .int .i64 0, .int .i64 0, .sl 7 [.agg [.int .i64 4, .int .i64 0, .int .i64 0, .str [121], .str [], .int .i64 0, .int .i64 0]], .int .i64 0]]]]
def C37_0 : SV := .tup [.agg [.any, .sl 2 [.agg [.str [102], .int .i64 1]]], .agg [.sl 1 [.int .i64 1, .int .i64 3, .int .i64 3], .sl 1 [.int .i64 1, .int .i64 1, .int .i64 2], .sl 1 [.sl 1 [], .sl 1 [.int .i64 2], .sl 1 []], .sl 1 [.sl 1 [], .sl 1 [], .sl 1 []], .sl 1 [.int .i64 0, .int .i64 1]], .agg [.int .i64 0, .int .i64 0, .int .i64 0], .int .i64 0]
theorem M37_0 : Ret E 37 A37_0 C37_0 := ret_of_runE ok (ftP_without ft_ok) (fd_without fd_ok) hk11_ok (show runE E (without g11 ft) (withoutD g11 fd) hk11 1000 60 (.old (.ret 37 A37_0)) = some C37_0 by kernel_rfl)
def l37 : List (List SV × SV) := [(A37_0, C37_0)]
abbrev g12 : List Nat := [84, 204, 170, 134, 94, 111, 96, 107, 71, 61, 102, 37]
noncomputable def hk12 : Hk := ⟨(37, look l37) :: hk11.x, hk.s⟩
theorem hk12_ok : HkOK E hk12 := ⟨hkX_cons (fun az r h => toldL_look (l := l37) ⟨M37_0, trivial⟩ az r h) hk11_ok.x, hk_ok.s⟩
def A62_0 : List SV := [.sl 5 [.agg [.int .i64 1, .int .i64 10, .int .i64 11, .int .i64 0, .str [120]], .agg [.int .i64 1, .int .i64 12, .int .i64 15, .int .i64 0, .str [97, 100, 100]], .agg [.int .i64 2, .int .i64 16, .int .i64 17, .int .i64 1, .str []]], .nils]
def C62_0 : SV := .tup [.sl 7 [.agg [.int .i64 5, .int .i64 15, .int .i64 2, .str [], .str [], .int .i64 0, .int .i64 0], .agg [.int .i64 4, .int .i64 0, .int .i64 0, .str [120], .str [], .int .i64 0, .int .i64 0], .agg [.int .i64 1, .int .i64 0, .int .i64 0, .str [], .str [], .int .i64 1, .int .i64 0]], .int .i64 0, .int .i64 0]
theorem M62_0 : Ret E 62 A62_0 C62_0 := ret_of_runE ok (ftP_without ft_ok) (fd_without fd_ok) hk12_ok (show runE E (without g12 ft) (withoutD g12 fd) hk12 1000 60 (.old (.ret 62 A62_0)) = some C62_0 by kernel_rfl)
def A62_1 : List SV := [.sl 5 [.agg [.int .i64 1, .int .i64 5, .int .i64 6, .int .i64 0, .str [102]], .agg [.int .i64 2, .int .i64 7, .int .i64 8, .int .i64 2, .str []]], .sl 2 [.agg [.str [102], .int .i64 1]]]
def C62_1 : SV := .tup [.sl 7 [.agg [.int .i64 6, .int .i64 0, .int .i64 1, .str [102], .str [], .int .i64 0, .int .i64 0], .agg [.int .i64 1, .int .i64 0, .int .i64 0, .str [], .str [], .int .i64 2, .int .i64 0]], .int .i64 0, .int .i64 0]
theorem M62_1 : Ret E 62 A62_1 C62_1 := ret_of_runE ok (ftP_without ft_ok) (fd_without fd_ok) hk12_ok (show runE E (without g12 ft) (withoutD g12 fd) hk12 1000 60 (.old (.ret 62 A62_1)) = some C62_1 by kernel_rfl)
def A62_2 : List SV := [.sl 5 [.agg [.int .i64 1, .int .i64 3, .int .i64 4, .int .i64 0, .str [121]], .agg [.int .i64 1, .int .i64 5, .int .i64 7, .int .i64 0, .str [103, 116]], .agg [.int .i64 2, .int .i64 8, .int .i64 9, .int .i64 3, .str []]], .sl 2 [.agg [.str [102], .int .i64 1]]]
def C62_2 : SV := .tup [.sl 7 [.agg [.int .i64 5, .int .i64 27, .int .i64 2, .str [], .str [], .int .i64 0, .int .i64 0], .agg [.int .i64 4, .int .i64 0, .int .i64 0, .str [121], .str [], .int .i64 0, .int .i64 0], .agg [.int .i64 1, .int .i64 0, .int .i64 0, .str [], .str [], .int .i64 3, .int .i64 0]], .int .i64 0, .int .i64 0]
theorem M62_2 : Ret E 62 A62_2 C62_2 := ret_of_runE ok (ftP_without ft_ok) (fd_without fd_ok) hk12_ok (show runE E (without g12 ft) (withoutD g12 fd) hk12 1000 60 (.old (.ret 62 A62_2)) = some C62_2 by kernel_rfl)
def A62_3 : List SV := [.sl 5 [.agg [.int .i64 1, .int .i64 8, .int .i64 9, .int .i64 0, .str [121]]], .sl 2 [.agg [.str [102], .int .i64 1]]]
def C62_3 : SV := .tup [.sl 7 [.agg [.int .i64 4, .int .i64 0, .int .i64 0, .str [121], .str [], .int .i64 0, .int .i64 0]], .int .i64 0, .int .i64 0]
theorem M62_3 : Ret E 62 A62_3 C62_3 := ret_of_runE ok (ftP_without ft_ok) (fd_without fd_ok) hk12_ok (show runE E (without g12 ft) (withoutD g12 fd) hk12 1000 60 (.old (.ret 62 A62_3)) = some C62_3 by kernel_rfl)
def A62_4 : List SV := [.sl 5 [.agg [.int .i64 2, .int .i64 3, .int .i64 4, .int .i64 1, .str []]], .nils]
def C62_4 : SV := .tup [.sl 7 [.agg [.int .i64 1, .int .i64 0, .int .i64 0, .str [], .str [], .int .i64 1, .int .i64 0]], .int .i64 0, .int .i64 0]
theorem M62_4 : Ret E 62 A62_4 C62_4 := ret_of_runE ok (ftP_without ft_ok) (fd_without fd_ok) hk12_ok (show runE E (without g12 ft) (withoutD g12 fd) hk12 1000 60 (.old (.ret 62 A62_4)) = some C62_4 by kernel_rfl)
def A62_5 : List SV := [.sl 5 [.agg [.int .i64 1, .int .i64 5, .int .i64 6, .int .i64 0, .str [102]], .agg [.int .i64 2, .int .i64 7, .int .i64 8, .int .i64 2, .str []]], .nils]
def C62_5 : SV := .tup [.nils, .int .i64 1, .int .i64 6]
theorem M62_5 : Ret E 62 A62_5 C62_5 := ret_of_runE ok (ftP_without ft_ok) (fd_without fd_ok) hk12_ok (show runE E (without g12 ft) (withoutD g12 fd) hk12 1000 60 (.old (.ret 62 A62_5)) = some C62_5 by kernel_rfl)
def l62 : List (List SV × SV) := [(A62_0, C62_0), (A62_1, C62_1), (A62_2, C62_2), (A62_3, C62_3), (A62_4, C62_4), (A62_5, C62_5)]
abbrev g13 : List Nat := [84, 204, 170, 134, 94, 111, 96, 107, 71, 61, 102, 37, 62]
noncomputable def hk13 : Hk := ⟨(62, look l62) :: hk12.x, hk.s⟩
theorem hk13_ok : HkOK E hk13 := ⟨hkX_cons (fun az r h => toldL_look (l := l62) ⟨M62_0, M62_1, M62_2, M62_3, M62_4, M62_5, trivial⟩ az r h) hk12_ok.x, hk_ok.s⟩
def A4_0 : List SV := [.str [100, 101, 102, 32, 102, 32, 120, 32, 61, 32, 120, 32, 97, 100, 100, 32, 49, 10, 121, 32, 60, 45, 32, 102, 32, 50, 10, 105, 102, 32, 121, 32, 103, 116, 32, 51, 10, 32, 32, 111, 117, 116, 32, 99, 32, 121, 10, 101, 108, 115, 101, 10, 101, 110, 100, 10]]
def C4_0 : SV := .tup [.agg [.nils, .sl 3 [.agg [.str [102], .sl 1 [.str [120]], .sl 7 [.agg [.int .i64 5, .int .i64 15, .int .i64 2, .str [], .str [], .int .i64 0, .int .i64 0], .agg [.int .i64 4, .int .i64 0, .int .i64 0, .str [120], .str [], .int .i64 0, .int .i64 0], .agg [.int .i64 1, .int .i64 0, .int .i64 0, .str [], .str [], .int .i64 1, .int .i64 0]]]], .sl 10 [.agg [.int .i64 1, .str [121], .str [], .str [], .str [], .str [], .int .i64 0, .int .i64 0, .sl 7 [.agg [.int .i64 6, .int .i64 0, .int .i64 1, .str [102], .str [], .int .i64 0, .int .i64 0], .agg [.int .i64 1, .int .i64 0, .int .i64 0, .str [], .str [], .int .i64 2, .int .i64 0]], .int .i64 0], .agg [.int .i64 3, .str [], .str [], .str [], .str [], .str [], .int .i64 1, .int .i64 0, .sl 7 [.agg [.int .i64 5, .int .i64 27, .int .i64 2, .str [], .str [], .int .i64 0, .int .i64 0], .agg [.int .i64 4, .int .i64 0, .int .i64 0, .str [121], .str [], .int .i64 0, .int .i64 0], .agg [.int .i64 1, .int .i64 0, .int .i64 0, .str [], .str [], .int .i64 3, .int .i64 0]], .int .i64 0], .agg [.int .i64 2, .str [], .str [99], .str [], .str [], .str [], .int .i64 0, .int .i64 0, .sl 7 [.agg [.int .i64 4, .int .i64 0, .int .i64 0, .str [121], .str [], .int .i64 0, .int .i64 0]], .int .i64 0]]], .int .i64 0, .int .i64 0, .int .i64 0]
theorem M4_0 : Ret E 4 A4_0 C4_0 := ret_of_runE ok (ftP_without ft_ok) (fd_without fd_ok) hk13_ok (show runE E (without g13 ft) (withoutD g13 fd) hk13 1000 60 (.old (.ret 4 A4_0)) = some C4_0 by kernel_rfl)
def A4_1 : List SV := [.str [101, 110, 100, 10]]
def C4_1 : SV := .tup [.agg [.nils, .nils, .nils], .int .i64 1, .int .i64 0, .int .i64 6]
theorem M4_1 : Ret E 4 A4_1 C4_1 := ret_of_runE ok (ftP_without ft_ok) (fd_without fd_ok) hk13_ok (show runE E (without g13 ft) (withoutD g13 fd) hk13 1000 60 (.old (.ret 4 A4_1)) = some C4_1 by kernel_rfl)
def A4_2 : List SV := [.str [105, 102, 32, 49, 10]]
def C4_2 : SV := .tup [.agg [.nils, .nils, .nils], .int .i64 2, .int .i64 0, .int .i64 6]
theorem M4_2 : Ret E 4 A4_2 C4_2 := ret_of_runE ok (ftP_without ft_ok) (fd_without fd_ok) hk13_ok (show runE E (without g13 ft) (withoutD g13 fd) hk13 1000 60 (.old (.ret 4 A4_2)) = some C4_2 by kernel_rfl)
def A4_3 : List SV := [.str [118, 97, 114, 32, 120, 32, 105, 110, 116, 32, 51, 32, 97, 10]]
def C4_3 : SV := .tup [.agg [.nils, .nils, .nils], .int .i64 1, .int .i64 10, .int .i64 7]
theorem M4_3 : Ret E 4 A4_3 C4_3 := ret_of_runE ok (ftP_without ft_ok) (fd_without fd_ok) hk13_ok (show runE E (without g13 ft) (withoutD g13 fd) hk13 1000 60 (.old (.ret 4 A4_3)) = some C4_3 by kernel_rfl)
def A4_4 : List SV := [.str [121, 32, 60, 45, 32, 102, 32, 50, 10]]
def C4_4 : SV := .tup [.agg [.nils, .nils, .nils], .int .i64 1, .int .i64 7, .int .i64 6]
theorem M4_4 : Ret E 4 A4_4 C4_4 := ret_of_runE ok (ftP_without ft_ok) (fd_without fd_ok) hk13_ok (show runE E (without g13 ft) (withoutD g13 fd) hk13 1000 60 (.old (.ret 4 A4_4)) = some C4_4 by kernel_rfl)
def l4 : List (List SV × SV) := [(A4_0, C4_0), (A4_1, C4_1), (A4_2, C4_2), (A4_3, C4_3), (A4_4, C4_4)]
abbrev g14 : List Nat := [84, 204, 170, 134, 94, 111, 96, 107, 71, 61, 102, 37, 62, 4]
noncomputable def hk14 : Hk := ⟨(4, look l4) :: hk13.x, hk.s⟩
theorem hk14_ok : HkOK E hk14 := ⟨hkX_cons (fun az r h => toldL_look (l := l4) ⟨M4_0, M4_1, M4_2, M4_3, M4_4, trivial⟩ az r h) hk13_ok.x, hk_ok.s⟩
theorem L_invigilatorlaw17_ProgramKnown : Ret E 3 [] (.bool true) := ret_of_runE ok (ftP_without ft_ok) (fd_without fd_ok) hk14_ok (show runE E (without g14 ft) (withoutD g14 fd) hk14 1000 60 (.old (.ret 3 [])) = some (.bool true) by kernel_rfl)
end Go.Sx.Tz
