/-
  THE CLOSED RUN OF invigilatorlaw18_PrinterKnown, in told parts. Printed by a program. An own text.
-/
import Derived.Test.YthkckljhcihbmaaGreatDoorQ3
namespace Go.Sx.Tz
set_option maxRecDepth 100000
def A94_0 : List SV := [.int .i64 100]
def C94_0 : SV := .tup [.int .i64 8, .int .i64 0]
theorem M94_0 : Ret E 94 A94_0 C94_0 := ret_of_runE ok ft_ok fd_ok hk_ok (show runE E ft fd hk 1000 60 (.old (.ret 94 A94_0)) = some C94_0 by kernel_rfl)
def A94_1 : List SV := [.int .i64 101]
def C94_1 : SV := .tup [.int .i64 8, .int .i64 0]
theorem M94_1 : Ret E 94 A94_1 C94_1 := ret_of_runE ok ft_ok fd_ok hk_ok (show runE E ft fd hk 1000 60 (.old (.ret 94 A94_1)) = some C94_1 by kernel_rfl)
def A94_2 : List SV := [.int .i64 102]
def C94_2 : SV := .tup [.int .i64 8, .int .i64 0]
theorem M94_2 : Ret E 94 A94_2 C94_2 := ret_of_runE ok ft_ok fd_ok hk_ok (show runE E ft fd hk 1000 60 (.old (.ret 94 A94_2)) = some C94_2 by kernel_rfl)
def A94_3 : List SV := [.int .i64 32]
def C94_3 : SV := .tup [.int .i64 1, .int .i64 0]
theorem M94_3 : Ret E 94 A94_3 C94_3 := ret_of_runE ok ft_ok fd_ok hk_ok (show runE E ft fd hk 1000 60 (.old (.ret 94 A94_3)) = some C94_3 by kernel_rfl)
def A94_4 : List SV := [.int .i64 120]
def C94_4 : SV := .tup [.int .i64 8, .int .i64 0]
theorem M94_4 : Ret E 94 A94_4 C94_4 := ret_of_runE ok ft_ok fd_ok hk_ok (show runE E ft fd hk 1000 60 (.old (.ret 94 A94_4)) = some C94_4 by kernel_rfl)
def A94_5 : List SV := [.int .i64 61]
def C94_5 : SV := .tup [.int .i64 9, .int .i64 0]
theorem M94_5 : Ret E 94 A94_5 C94_5 := ret_of_runE ok ft_ok fd_ok hk_ok (show runE E ft fd hk 1000 60 (.old (.ret 94 A94_5)) = some C94_5 by kernel_rfl)
def A94_6 : List SV := [.int .i64 40]
def C94_6 : SV := .tup [.int .i64 3, .int .i64 0]
theorem M94_6 : Ret E 94 A94_6 C94_6 := ret_of_runE ok ft_ok fd_ok hk_ok (show runE E ft fd hk 1000 60 (.old (.ret 94 A94_6)) = some C94_6 by kernel_rfl)
def A94_7 : List SV := [.int .i64 97]
def C94_7 : SV := .tup [.int .i64 8, .int .i64 0]
theorem M94_7 : Ret E 94 A94_7 C94_7 := ret_of_runE ok ft_ok fd_ok hk_ok (show runE E ft fd hk 1000 60 (.old (.ret 94 A94_7)) = some C94_7 by kernel_rfl)
def A94_8 : List SV := [.int .i64 49]
def C94_8 : SV := .tup [.int .i64 6, .int .i64 0]
theorem M94_8 : Ret E 94 A94_8 C94_8 := ret_of_runE ok ft_ok fd_ok hk_ok (show runE E ft fd hk 1000 60 (.old (.ret 94 A94_8)) = some C94_8 by kernel_rfl)
def A94_9 : List SV := [.int .i64 41]
def C94_9 : SV := .tup [.int .i64 4, .int .i64 0]
theorem M94_9 : Ret E 94 A94_9 C94_9 := ret_of_runE ok ft_ok fd_ok hk_ok (show runE E ft fd hk 1000 60 (.old (.ret 94 A94_9)) = some C94_9 by kernel_rfl)
def A94_10 : List SV := [.int .i64 121]
def C94_10 : SV := .tup [.int .i64 8, .int .i64 0]
theorem M94_10 : Ret E 94 A94_10 C94_10 := ret_of_runE ok ft_ok fd_ok hk_ok (show runE E ft fd hk 1000 60 (.old (.ret 94 A94_10)) = some C94_10 by kernel_rfl)
def A94_11 : List SV := [.int .i64 60]
def C94_11 : SV := .tup [.int .i64 9, .int .i64 0]
theorem M94_11 : Ret E 94 A94_11 C94_11 := ret_of_runE ok ft_ok fd_ok hk_ok (show runE E ft fd hk 1000 60 (.old (.ret 94 A94_11)) = some C94_11 by kernel_rfl)
def A94_12 : List SV := [.int .i64 50]
def C94_12 : SV := .tup [.int .i64 6, .int .i64 0]
theorem M94_12 : Ret E 94 A94_12 C94_12 := ret_of_runE ok ft_ok fd_ok hk_ok (show runE E ft fd hk 1000 60 (.old (.ret 94 A94_12)) = some C94_12 by kernel_rfl)
def A94_13 : List SV := [.int .i64 105]
def C94_13 : SV := .tup [.int .i64 8, .int .i64 0]
theorem M94_13 : Ret E 94 A94_13 C94_13 := ret_of_runE ok ft_ok fd_ok hk_ok (show runE E ft fd hk 1000 60 (.old (.ret 94 A94_13)) = some C94_13 by kernel_rfl)
def A94_14 : List SV := [.int .i64 103]
def C94_14 : SV := .tup [.int .i64 8, .int .i64 0]
theorem M94_14 : Ret E 94 A94_14 C94_14 := ret_of_runE ok ft_ok fd_ok hk_ok (show runE E ft fd hk 1000 60 (.old (.ret 94 A94_14)) = some C94_14 by kernel_rfl)
def A94_15 : List SV := [.int .i64 116]
def C94_15 : SV := .tup [.int .i64 8, .int .i64 0]
theorem M94_15 : Ret E 94 A94_15 C94_15 := ret_of_runE ok ft_ok fd_ok hk_ok (show runE E ft fd hk 1000 60 (.old (.ret 94 A94_15)) = some C94_15 by kernel_rfl)
def A94_16 : List SV := [.int .i64 51]
def C94_16 : SV := .tup [.int .i64 6, .int .i64 0]
theorem M94_16 : Ret E 94 A94_16 C94_16 := ret_of_runE ok ft_ok fd_ok hk_ok (show runE E ft fd hk 1000 60 (.old (.ret 94 A94_16)) = some C94_16 by kernel_rfl)
def A94_17 : List SV := [.int .i64 111]
def C94_17 : SV := .tup [.int .i64 8, .int .i64 0]
theorem M94_17 : Ret E 94 A94_17 C94_17 := ret_of_runE ok ft_ok fd_ok hk_ok (show runE E ft fd hk 1000 60 (.old (.ret 94 A94_17)) = some C94_17 by kernel_rfl)
def A94_18 : List SV := [.int .i64 117]
def C94_18 : SV := .tup [.int .i64 8, .int .i64 0]
theorem M94_18 : Ret E 94 A94_18 C94_18 := ret_of_runE ok ft_ok fd_ok hk_ok (show runE E ft fd hk 1000 60 (.old (.ret 94 A94_18)) = some C94_18 by kernel_rfl)
def A94_19 : List SV := [.int .i64 99]
def C94_19 : SV := .tup [.int .i64 8, .int .i64 0]
theorem M94_19 : Ret E 94 A94_19 C94_19 := ret_of_runE ok ft_ok fd_ok hk_ok (show runE E ft fd hk 1000 60 (.old (.ret 94 A94_19)) = some C94_19 by kernel_rfl)
def A94_20 : List SV := [.int .i64 108]
def C94_20 : SV := .tup [.int .i64 8, .int .i64 0]
theorem M94_20 : Ret E 94 A94_20 C94_20 := ret_of_runE ok ft_ok fd_ok hk_ok (show runE E ft fd hk 1000 60 (.old (.ret 94 A94_20)) = some C94_20 by kernel_rfl)
def A94_21 : List SV := [.int .i64 115]
def C94_21 : SV := .tup [.int .i64 8, .int .i64 0]
theorem M94_21 : Ret E 94 A94_21 C94_21 := ret_of_runE ok ft_ok fd_ok hk_ok (show runE E ft fd hk 1000 60 (.old (.ret 94 A94_21)) = some C94_21 by kernel_rfl)
def A94_22 : List SV := [.int .i64 110]
def C94_22 : SV := .tup [.int .i64 8, .int .i64 0]
theorem M94_22 : Ret E 94 A94_22 C94_22 := ret_of_runE ok ft_ok fd_ok hk_ok (show runE E ft fd hk 1000 60 (.old (.ret 94 A94_22)) = some C94_22 by kernel_rfl)
def A94_23 : List SV := [.int .i64 98]
def C94_23 : SV := .tup [.int .i64 8, .int .i64 0]
theorem M94_23 : Ret E 94 A94_23 C94_23 := ret_of_runE ok ft_ok fd_ok hk_ok (show runE E ft fd hk 1000 60 (.old (.ret 94 A94_23)) = some C94_23 by kernel_rfl)
def l94 : List (List SV × SV) := [(A94_0, C94_0), (A94_1, C94_1), (A94_2, C94_2), (A94_3, C94_3), (A94_4, C94_4), (A94_5, C94_5), (A94_6, C94_6), (A94_7, C94_7), (A94_8, C94_8), (A94_9, C94_9), (A94_10, C94_10), (A94_11, C94_11), (A94_12, C94_12), (A94_13, C94_13), (A94_14, C94_14), (A94_15, C94_15), (A94_16, C94_16), (A94_17, C94_17), (A94_18, C94_18), (A94_19, C94_19), (A94_20, C94_20), (A94_21, C94_21), (A94_22, C94_22), (A94_23, C94_23)]
abbrev g1 : List Nat := [94]
noncomputable def hk1 : Hk := ⟨(94, look l94) :: hk.x, hk.s⟩
theorem hk1_ok : HkOK E hk1 := ⟨hkX_cons (fun az r h => toldL_look (l := l94) ⟨M94_0, M94_1, M94_2, M94_3, M94_4, M94_5, M94_6, M94_7, M94_8, M94_9, M94_10, M94_11, M94_12, M94_13, M94_14, M94_15, M94_16, M94_17, M94_18, M94_19, M94_20, M94_21, M94_22, M94_23, trivial⟩ az r h) hk_ok.x, hk_ok.s⟩
def A191_0 : List SV := [.str [97, 100, 100], .sl 1 [.int .i64 12]]
def C191_0 : SV := .agg [.str [97, 100, 100], .sl 1 [.str [105, 48, 105, 110, 105, 110], .str [105, 110, 105, 48, 105, 110], .str [105, 110, 105, 110, 105, 110]], .sl 1 [.int .i64 11, .int .i64 12], .nilf, .nilf]
theorem M191_0 : Ret E 191 A191_0 C191_0 := ret_of_runE ok (ftP_without ft_ok) (fd_without fd_ok) hk1_ok (show runE E (without g1 ft) (withoutD g1 fd) hk1 1000 60 (.old (.ret 191 A191_0)) = some C191_0 by kernel_rfl)
def A191_1 : List SV := [.str [115, 117, 98], .sl 1 [.int .i64 12]]
def C191_1 : SV := .agg [.str [115, 117, 98], .sl 1 [.str [105, 48, 105, 110, 105, 110], .str [105, 110, 105, 48, 105, 110], .str [105, 110, 105, 110, 105, 110]], .sl 1 [.int .i64 11, .int .i64 12], .nilf, .nilf]
theorem M191_1 : Ret E 191 A191_1 C191_1 := ret_of_runE ok (ftP_without ft_ok) (fd_without fd_ok) hk1_ok (show runE E (without g1 ft) (withoutD g1 fd) hk1 1000 60 (.old (.ret 191 A191_1)) = some C191_1 by kernel_rfl)
def A191_2 : List SV := [.str [109, 117, 108], .sl 1 [.int .i64 12]]
def C191_2 : SV := .agg [.str [109, 117, 108], .sl 1 [.str [105, 48, 105, 110, 105, 110], .str [105, 110, 105, 48, 105, 110], .str [105, 110, 105, 110, 105, 110]], .sl 1 [.int .i64 11, .int .i64 12], .nilf, .nilf]
theorem M191_2 : Ret E 191 A191_2 C191_2 := ret_of_runE ok (ftP_without ft_ok) (fd_without fd_ok) hk1_ok (show runE E (without g1 ft) (withoutD g1 fd) hk1 1000 60 (.old (.ret 191 A191_2)) = some C191_2 by kernel_rfl)
def A191_3 : List SV := [.str [100, 105, 118], .sl 1 [.int .i64 12, .int .i64 13]]
def C191_3 : SV := .agg [.str [100, 105, 118], .sl 1 [.str [105, 48, 105, 110, 105, 110], .str [105, 110, 105, 48, 105, 110], .str [105, 110, 105, 110, 105, 110]], .sl 1 [.int .i64 11, .int .i64 12, .int .i64 13], .nilf, .nilf]
theorem M191_3 : Ret E 191 A191_3 C191_3 := ret_of_runE ok (ftP_without ft_ok) (fd_without fd_ok) hk1_ok (show runE E (without g1 ft) (withoutD g1 fd) hk1 1000 60 (.old (.ret 191 A191_3)) = some C191_3 by kernel_rfl)
def A191_4 : List SV := [.str [109, 111, 100], .sl 1 [.int .i64 13]]
def C191_4 : SV := .agg [.str [109, 111, 100], .sl 1 [.str [105, 48, 105, 110, 105, 110], .str [105, 110, 105, 48, 105, 110], .str [105, 110, 105, 110, 105, 110]], .sl 1 [.int .i64 11, .int .i64 13], .nilf, .nilf]
theorem M191_4 : Ret E 191 A191_4 C191_4 := ret_of_runE ok (ftP_without ft_ok) (fd_without fd_ok) hk1_ok (show runE E (without g1 ft) (withoutD g1 fd) hk1 1000 60 (.old (.ret 191 A191_4)) = some C191_4 by kernel_rfl)
def A191_5 : List SV := [.str [112, 108, 117, 115], .nils]
def C191_5 : SV := .agg [.str [112, 108, 117, 115], .sl 1 [.str [105, 48, 105, 110, 105, 110], .str [105, 110, 105, 48, 105, 110], .str [105, 110, 105, 110, 105, 110]], .sl 1 [.int .i64 11], .nilf, .nilf]
theorem M191_5 : Ret E 191 A191_5 C191_5 := ret_of_runE ok (ftP_without ft_ok) (fd_without fd_ok) hk1_ok (show runE E (without g1 ft) (withoutD g1 fd) hk1 1000 60 (.old (.ret 191 A191_5)) = some C191_5 by kernel_rfl)
def A191_6 : List SV := [.str [109, 105, 110, 117, 115], .nils]
def C191_6 : SV := .agg [.str [109, 105, 110, 117, 115], .sl 1 [.str [105, 48, 105, 110, 105, 110], .str [105, 110, 105, 48, 105, 110], .str [105, 110, 105, 110, 105, 110]], .sl 1 [.int .i64 11], .nilf, .nilf]
theorem M191_6 : Ret E 191 A191_6 C191_6 := ret_of_runE ok (ftP_without ft_ok) (fd_without fd_ok) hk1_ok (show runE E (without g1 ft) (withoutD g1 fd) hk1 1000 60 (.old (.ret 191 A191_6)) = some C191_6 by kernel_rfl)
def A191_7 : List SV := [.str [116, 105, 109, 101, 115], .nils]
def C191_7 : SV := .agg [.str [116, 105, 109, 101, 115], .sl 1 [.str [105, 48, 105, 110, 105, 110], .str [105, 110, 105, 48, 105, 110], .str [105, 110, 105, 110, 105, 110]], .sl 1 [.int .i64 11], .nilf, .nilf]
theorem M191_7 : Ret E 191 A191_7 C191_7 := ret_of_runE ok (ftP_without ft_ok) (fd_without fd_ok) hk1_ok (show runE E (without g1 ft) (withoutD g1 fd) hk1 1000 60 (.old (.ret 191 A191_7)) = some C191_7 by kernel_rfl)
def A191_8 : List SV := [.str [108, 116], .nils]
def C191_8 : SV := .agg [.str [108, 116], .sl 1 [.str [105, 48, 105, 110, 105, 110], .str [105, 110, 105, 48, 105, 110], .str [105, 110, 105, 110, 105, 110]], .sl 1 [.int .i64 11], .nilf, .nilf]
theorem M191_8 : Ret E 191 A191_8 C191_8 := ret_of_runE ok (ftP_without ft_ok) (fd_without fd_ok) hk1_ok (show runE E (without g1 ft) (withoutD g1 fd) hk1 1000 60 (.old (.ret 191 A191_8)) = some C191_8 by kernel_rfl)
def A191_9 : List SV := [.str [108, 101], .nils]
def C191_9 : SV := .agg [.str [108, 101], .sl 1 [.str [105, 48, 105, 110, 105, 110], .str [105, 110, 105, 48, 105, 110], .str [105, 110, 105, 110, 105, 110]], .sl 1 [.int .i64 11], .nilf, .nilf]
theorem M191_9 : Ret E 191 A191_9 C191_9 := ret_of_runE ok (ftP_without ft_ok) (fd_without fd_ok) hk1_ok (show runE E (without g1 ft) (withoutD g1 fd) hk1 1000 60 (.old (.ret 191 A191_9)) = some C191_9 by kernel_rfl)
def A191_10 : List SV := [.str [103, 116], .nils]
def C191_10 : SV := .agg [.str [103, 116], .sl 1 [.str [105, 48, 105, 110, 105, 110], .str [105, 110, 105, 48, 105, 110], .str [105, 110, 105, 110, 105, 110]], .sl 1 [.int .i64 11], .nilf, .nilf]
theorem M191_10 : Ret E 191 A191_10 C191_10 := ret_of_runE ok (ftP_without ft_ok) (fd_without fd_ok) hk1_ok (show runE E (without g1 ft) (withoutD g1 fd) hk1 1000 60 (.old (.ret 191 A191_10)) = some C191_10 by kernel_rfl)
def A191_11 : List SV := [.str [103, 101], .nils]
def C191_11 : SV := .agg [.str [103, 101], .sl 1 [.str [105, 48, 105, 110, 105, 110], .str [105, 110, 105, 48, 105, 110], .str [105, 110, 105, 110, 105, 110]], .sl 1 [.int .i64 11], .nilf, .nilf]
theorem M191_11 : Ret E 191 A191_11 C191_11 := ret_of_runE ok (ftP_without ft_ok) (fd_without fd_ok) hk1_ok (show runE E (without g1 ft) (withoutD g1 fd) hk1 1000 60 (.old (.ret 191 A191_11)) = some C191_11 by kernel_rfl)
def A191_12 : List SV := [.str [97, 110, 100], .nils]
def C191_12 : SV := .agg [.str [97, 110, 100], .sl 1 [.str [105, 48, 105, 110, 105, 110], .str [105, 110, 105, 48, 105, 110], .str [105, 110, 105, 110, 105, 110]], .sl 1 [.int .i64 11], .nilf, .nilf]
theorem M191_12 : Ret E 191 A191_12 C191_12 := ret_of_runE ok (ftP_without ft_ok) (fd_without fd_ok) hk1_ok (show runE E (without g1 ft) (withoutD g1 fd) hk1 1000 60 (.old (.ret 191 A191_12)) = some C191_12 by kernel_rfl)
def A191_13 : List SV := [.str [111, 114], .nils]
def C191_13 : SV := .agg [.str [111, 114], .sl 1 [.str [105, 48, 105, 110, 105, 110], .str [105, 110, 105, 48, 105, 110], .str [105, 110, 105, 110, 105, 110]], .sl 1 [.int .i64 11], .nilf, .nilf]
theorem M191_13 : Ret E 191 A191_13 C191_13 := ret_of_runE ok (ftP_without ft_ok) (fd_without fd_ok) hk1_ok (show runE E (without g1 ft) (withoutD g1 fd) hk1 1000 60 (.old (.ret 191 A191_13)) = some C191_13 by kernel_rfl)
def A191_14 : List SV := [.str [109, 105, 110], .nils]
def C191_14 : SV := .agg [.str [109, 105, 110], .sl 1 [.str [105, 48, 105, 110, 105, 110], .str [105, 110, 105, 48, 105, 110], .str [105, 110, 105, 110, 105, 110]], .sl 1 [.int .i64 11], .nilf, .nilf]
theorem M191_14 : Ret E 191 A191_14 C191_14 := ret_of_runE ok (ftP_without ft_ok) (fd_without fd_ok) hk1_ok (show runE E (without g1 ft) (withoutD g1 fd) hk1 1000 60 (.old (.ret 191 A191_14)) = some C191_14 by kernel_rfl)
def A191_15 : List SV := [.str [109, 97, 120], .nils]
def C191_15 : SV := .agg [.str [109, 97, 120], .sl 1 [.str [105, 48, 105, 110, 105, 110], .str [105, 110, 105, 48, 105, 110], .str [105, 110, 105, 110, 105, 110]], .sl 1 [.int .i64 11], .nilf, .nilf]
theorem M191_15 : Ret E 191 A191_15 C191_15 := ret_of_runE ok (ftP_without ft_ok) (fd_without fd_ok) hk1_ok (show runE E (without g1 ft) (withoutD g1 fd) hk1 1000 60 (.old (.ret 191 A191_15)) = some C191_15 by kernel_rfl)
def l191 : List (List SV × SV) := [(A191_0, C191_0), (A191_1, C191_1), (A191_2, C191_2), (A191_3, C191_3), (A191_4, C191_4), (A191_5, C191_5), (A191_6, C191_6), (A191_7, C191_7), (A191_8, C191_8), (A191_9, C191_9), (A191_10, C191_10), (A191_11, C191_11), (A191_12, C191_12), (A191_13, C191_13), (A191_14, C191_14), (A191_15, C191_15)]
abbrev g2 : List Nat := [94, 191]
noncomputable def hk2 : Hk := ⟨(191, look l191) :: hk1.x, hk.s⟩
theorem hk2_ok : HkOK E hk2 := ⟨hkX_cons (fun az r h => toldL_look (l := l191) ⟨M191_0, M191_1, M191_2, M191_3, M191_4, M191_5, M191_6, M191_7, M191_8, M191_9, M191_10, M191_11, M191_12, M191_13, M191_14, M191_15, trivial⟩ az r h) hk1_ok.x, hk_ok.s⟩
def A152_0 : List SV := []
def C152_0 : SV := .sl 5 [.agg [.str [], .nils, .nils, .nilf, .nilf], .agg [.str [110, 101, 103], .sl 1 [.str [105, 110, 105, 110]], .sl 1 [.int .i64 12], .nilf, .nilf], .agg [.str [97, 98, 115], .sl 1 [.str [105, 110, 105, 110]], .sl 1 [.int .i64 12], .nilf, .nilf], .agg [.str [110, 111, 116], .sl 1 [.str [105, 110, 105, 110]], .nils, .nilf, .nilf], .agg [.str [115, 104, 97, 112, 101], .sl 1 [.str [107, 110, 105, 49]], .nils, .fn 180 [], .nilf], .agg [.str [114, 97, 118, 101, 108], .sl 1 [.str [107, 110, 107, 49]], .nils, .fn 181 [], .nilf], .agg [.str [114, 101, 118, 101, 114, 115, 101], .sl 1 [.str [107, 49, 107, 49], .str [107, 50, 107, 50]], .nils, .fn 182 [], .nilf], .agg [.str [102, 108, 105, 112], .sl 1 [.str [107, 50, 107, 50]], .nils, .fn 183 [], .nilf], .agg [.str [105, 111, 116, 97], .sl 1 [.str [105, 48, 105, 49]], .sl 1 [.int .i64 13, .int .i64 15], .fn 184 [], .nilf], .agg [.str [115, 117, 109], .sl 1 [.str [105, 49, 105, 48], .str [105, 50, 105, 49]], .sl 1 [.int .i64 12], .fn 185 [], .nilf], .agg [.str [108, 101, 97, 115, 116], .sl 1 [.str [105, 49, 105, 48], .str [105, 50, 105, 49]], .sl 1 [.int .i64 13], .fn 186 [], .nilf], .agg [.str [109, 111, 115, 116], .sl 1 [.str [105, 49, 105, 48], .str [105, 50, 105, 49]], .sl 1 [.int .i64 13], .fn 187 [], .nilf], .agg [.str [99, 111, 117, 110, 116], .sl 1 [.str [107, 49, 105, 48], .str [107, 50, 105, 49]], .nils, .fn 188 [], .nilf], .agg [.str [115, 99, 97, 110], .sl 1 [.str [105, 49, 105, 49], .str [105, 50, 105, 50]], .sl 1 [.int .i64 12], .fn 189 [], .nilf], .agg [.str [103, 114, 97, 100, 101], .sl 1 [.str [105, 49, 105, 49]], .nils, .fn 190 [], .nilf], .agg [.str [97, 100, 100], .sl 1 [.str [105, 48, 105, 110, 105, 110], .str [105, 110, 105, 48, 105, 110], .str [105, 110, 105, 110, 105, 110]], .sl 1 [.int .i64 11, .int .i64 12], .nilf, .nilf], .agg [.str [115, 117, 98], .sl 1 [.str [105, 48, 105, 110, 105, 110], .str [105, 110, 105, 48, 105, 110], .str [105, 110, 105, 110, 105, 110]], .sl 1 [.int .i64 11, .int .i64 12], .nilf, .nilf], .agg [.str [109, 117, 108], .sl 1 [.str [105, 48, 105, 110, 105, 110], .str [105, 110, 105, 48, 105, 110], .str [105, 110, 105, 110, 105, 110]], .sl 1 [.int .i64 11, .int .i64 12], .nilf, .nilf], .agg [.str [100, 105, 118], .sl 1 [.str [105, 48, 105, 110, 105, 110], .str [105, 110, 105, 48, 105, 110], .str [105, 110, 105, 110, 105, 110]], .sl 1 [.int .i64 11, .int .i64 12, .int .i64 13], .nilf, .nilf], .agg [.str [109, 111, 100], .sl 1 [.str [105, 48, 105, 110, 105, 110], .str [105, 110, 105, 48, 105, 110], .str [105, 110, 105, 110, 105, 110]], .sl 1 [.int .i64 11, .int .i64 13], .nilf, .nilf], .agg [.str [112, 108, 117, 115], .sl 1 [.str [105, 48, 105, 110, 105, 110], .str [105, 110, 105, 48, 105, 110], .str [105, 110, 105, 110, 105, 110]], .sl 1 [.int .i64 11], .nilf, .nilf], .agg [.str [109, 105, 110, 117, 115], .sl 1 [.str [105, 48, 105, 110, 105, 110], .str [105, 110, 105, 48, 105, 110], .str [105, 110, 105, 110, 105, 110]], .sl 1 [.int .i64 11], .nilf, .nilf], .agg [.str [116, 105, 109, 101, 115], .sl 1 [.str [105, 48, 105, 110, 105, 110], .str [105, 110, 105, 48, 105, 110], .str [105, 110, 105, 110, 105, 110]], .sl 1 [.int .i64 11], .nilf, .nilf], .agg [.str [101, 113], .sl 1 [.str [107, 48, 107, 110, 105, 110], .str [107, 110, 107, 48, 105, 110], .str [107, 110, 107, 110, 105, 110]], .sl 1 [.int .i64 11], .nilf, .nilf], .agg [.str [110, 101], .sl 1 [.str [107, 48, 107, 110, 105, 110], .str [107, 110, 107, 48, 105, 110], .str [107, 110, 107, 110, 105, 110]], .sl 1 [.int .i64 11], .nilf, .nilf], .agg [.str [108, 116], .sl 1 [.str [105, 48, 105, 110, 105, 110], .str [105, 110, 105, 48, 105, 110], .str [105, 110, 105, 110, 105, 110]], .sl 1 [.int .i64 11], .nilf, .nilf], .agg [.str [108, 101], .sl 1 [.str [105, 48, 105, 110, 105, 110], .str [105, 110, 105, 48, 105, 110], .str [105, 110, 105, 110, 105, 110]], .sl 1 [.int .i64 11], .nilf, .nilf], .agg [.str [103, 116], .sl 1 [.str [105, 48, 105, 110, 105, 110], .str [105, 110, 105, 48, 105, 110], .str [105, 110, 105, 110, 105, 110]], .sl 1 [.int .i64 11], .nilf, .nilf], .agg [.str [103, 101], .sl 1 [.str [105, 48, 105, 110, 105, 110], .str [105, 110, 105, 48, 105, 110], .str [105, 110, 105, 110, 105, 110]], .sl 1 [.int .i64 11], .nilf, .nilf], .agg [.str [97, 110, 100], .sl 1 [.str [105, 48, 105, 110, 105, 110], .str [105, 110, 105, 48, 105, 110], .str [105, 110, 105, 110, 105, 110]], .sl 1 [.int .i64 11], .nilf, .nilf], .agg [.str [111, 114], .sl 1 [.str [105, 48, 105, 110, 105, 110], .str [105, 110, 105, 48, 105, 110], .str [105, 110, 105, 110, 105, 110]], .sl 1 [.int .i64 11], .nilf, .nilf], .agg [.str [109, 105, 110], .sl 1 [.str [105, 48, 105, 110, 105, 110], .str [105, 110, 105, 48, 105, 110], .str [105, 110, 105, 110, 105, 110]], .sl 1 [.int .i64 11], .nilf, .nilf], .agg [.str [109, 97, 120], .sl 1 [.str [105, 48, 105, 110, 105, 110], .str [105, 110, 105, 48, 105, 110], .str [105, 110, 105, 110, 105, 110]], .sl 1 [.int .i64 11], .nilf, .nilf], .agg [.str [116, 97, 107, 101], .sl 1 [.str [105, 48, 107, 49, 107, 49]], .nils, .nilf, .fn 192 []], .agg [.str [100, 114, 111, 112], .sl 1 [.str [105, 48, 107, 49, 107, 49]], .nils, .nilf, .fn 193 []], .agg [.str [102, 105, 108, 108], .sl 1 [.str [105, 48, 107, 48, 107, 49]], .sl 1 [.int .i64 13, .int .i64 15], .nilf, .fn 194 []], .agg [.str [103, 114, 105, 100], .sl 1 [.str [105, 49, 107, 49, 107, 50]], .sl 1 [.int .i64 11, .int .i64 13, .int .i64 15], .nilf, .fn 195 []], .agg [.str [99, 97, 116], .sl 1 [.str [107, 49, 107, 49, 107, 49], .str [107, 50, 107, 50, 107, 50]], .sl 1 [.int .i64 11, .int .i64 15], .nilf, .fn 196 []], .agg [.str [97, 116], .sl 1 [.str [107, 49, 105, 48, 107, 48], .str [107, 49, 105, 49, 107, 49]], .sl 1 [.int .i64 14], .nilf, .fn 197 []], .agg [.str [105, 110], .sl 1 [.str [107, 110, 107, 49, 105, 110]], .nils, .nilf, .fn 198 []], .agg [.str [112, 105, 99, 107], .sl 1 [.str [105, 49, 107, 49, 107, 49]], .sl 1 [.int .i64 11], .nilf, .fn 199 []]]
theorem M152_0 : Ret E 152 A152_0 C152_0 := ret_of_runE ok (ftP_without ft_ok) (fd_without fd_ok) hk2_ok (show runE E (without g2 ft) (withoutD g2 fd) hk2 1000 60 (.old (.ret 152 A152_0)) = some C152_0 by kernel_rfl)
def l152 : List (List SV × SV) := [(A152_0, C152_0)]
abbrev g3 : List Nat := [94, 191, 152]
noncomputable def hk3 : Hk := ⟨(152, look l152) :: hk2.x, hk.s⟩
theorem hk3_ok : HkOK E hk3 := ⟨hkX_cons (fun az r h => toldL_look (l := l152) ⟨M152_0, trivial⟩ az r h) hk2_ok.x, hk_ok.s⟩
def A140_0 : List SV := [.str [102]]
def C140_0 : SV := .tup [.int .i64 0, .int .i64 4]
theorem M140_0 : Ret E 140 A140_0 C140_0 := ret_of_runE ok (ftP_without ft_ok) (fd_without fd_ok) hk3_ok (show runE E (without g3 ft) (withoutD g3 fd) hk3 1000 60 (.old (.ret 140 A140_0)) = some C140_0 by kernel_rfl)
def A140_1 : List SV := [.str [120]]
def C140_1 : SV := .tup [.int .i64 0, .int .i64 4]
theorem M140_1 : Ret E 140 A140_1 C140_1 := ret_of_runE ok (ftP_without ft_ok) (fd_without fd_ok) hk3_ok (show runE E (without g3 ft) (withoutD g3 fd) hk3 1000 60 (.old (.ret 140 A140_1)) = some C140_1 by kernel_rfl)
def A140_2 : List SV := [.str [97, 100, 100]]
def C140_2 : SV := .tup [.int .i64 15, .int .i64 0]
theorem M140_2 : Ret E 140 A140_2 C140_2 := ret_of_runE ok (ftP_without ft_ok) (fd_without fd_ok) hk3_ok (show runE E (without g3 ft) (withoutD g3 fd) hk3 1000 60 (.old (.ret 140 A140_2)) = some C140_2 by kernel_rfl)
def A140_3 : List SV := [.str [121]]
def C140_3 : SV := .tup [.int .i64 0, .int .i64 4]
theorem M140_3 : Ret E 140 A140_3 C140_3 := ret_of_runE ok (ftP_without ft_ok) (fd_without fd_ok) hk3_ok (show runE E (without g3 ft) (withoutD g3 fd) hk3 1000 60 (.old (.ret 140 A140_3)) = some C140_3 by kernel_rfl)
def A140_4 : List SV := [.str [103, 116]]
def C140_4 : SV := .tup [.int .i64 27, .int .i64 0]
theorem M140_4 : Ret E 140 A140_4 C140_4 := ret_of_runE ok (ftP_without ft_ok) (fd_without fd_ok) hk3_ok (show runE E (without g3 ft) (withoutD g3 fd) hk3 1000 60 (.old (.ret 140 A140_4)) = some C140_4 by kernel_rfl)
def l140 : List (List SV × SV) := [(A140_0, C140_0), (A140_1, C140_1), (A140_2, C140_2), (A140_3, C140_3), (A140_4, C140_4)]
abbrev g4 : List Nat := [94, 191, 152, 140]
noncomputable def hk4 : Hk := ⟨(140, look l140) :: hk3.x, hk.s⟩
theorem hk4_ok : HkOK E hk4 := ⟨hkX_cons (fun az r h => toldL_look (l := l140) ⟨M140_0, M140_1, M140_2, M140_3, M140_4, trivial⟩ az r h) hk3_ok.x, hk_ok.s⟩
def A102_0 : List SV := [.str [102]]
def C102_0 : SV := .bool true
theorem M102_0 : Ret E 102 A102_0 C102_0 := ret_of_runE ok (ftP_without ft_ok) (fd_without fd_ok) hk4_ok (show runE E (without g4 ft) (withoutD g4 fd) hk4 1000 60 (.old (.ret 102 A102_0)) = some C102_0 by kernel_rfl)
def A102_1 : List SV := [.str [120]]
def C102_1 : SV := .bool true
theorem M102_1 : Ret E 102 A102_1 C102_1 := ret_of_runE ok (ftP_without ft_ok) (fd_without fd_ok) hk4_ok (show runE E (without g4 ft) (withoutD g4 fd) hk4 1000 60 (.old (.ret 102 A102_1)) = some C102_1 by kernel_rfl)
def A102_2 : List SV := [.str [121]]
def C102_2 : SV := .bool true
theorem M102_2 : Ret E 102 A102_2 C102_2 := ret_of_runE ok (ftP_without ft_ok) (fd_without fd_ok) hk4_ok (show runE E (without g4 ft) (withoutD g4 fd) hk4 1000 60 (.old (.ret 102 A102_2)) = some C102_2 by kernel_rfl)
def l102 : List (List SV × SV) := [(A102_0, C102_0), (A102_1, C102_1), (A102_2, C102_2)]
abbrev g5 : List Nat := [94, 191, 152, 140, 102]
noncomputable def hk5 : Hk := ⟨(102, look l102) :: hk4.x, hk.s⟩
theorem hk5_ok : HkOK E hk5 := ⟨hkX_cons (fun az r h => toldL_look (l := l102) ⟨M102_0, M102_1, M102_2, trivial⟩ az r h) hk4_ok.x, hk_ok.s⟩
def A120_0 : List SV := [.agg [.int .i64 5, .int .i64 15, .int .i64 2, .str [], .str [], .int .i64 0, .int .i64 0]]
def C120_0 : SV := .tup [.agg [.int .i64 0, .int .i64 0, .int .i64 0, .str [], .str [], .int .i64 0, .int .i64 0], .bool true]
theorem M120_0 : Ret E 120 A120_0 C120_0 := ret_of_runE ok (ftP_without ft_ok) (fd_without fd_ok) hk5_ok (show runE E (without g5 ft) (withoutD g5 fd) hk5 1000 60 (.old (.ret 120 A120_0)) = some C120_0 by kernel_rfl)
def A120_1 : List SV := [.agg [.int .i64 4, .int .i64 0, .int .i64 0, .str [120], .str [], .int .i64 0, .int .i64 0]]
def C120_1 : SV := .tup [.agg [.int .i64 0, .int .i64 0, .int .i64 0, .str [], .str [], .int .i64 0, .int .i64 0], .bool false]
theorem M120_1 : Ret E 120 A120_1 C120_1 := ret_of_runE ok (ftP_without ft_ok) (fd_without fd_ok) hk5_ok (show runE E (without g5 ft) (withoutD g5 fd) hk5 1000 60 (.old (.ret 120 A120_1)) = some C120_1 by kernel_rfl)
def A120_2 : List SV := [.agg [.int .i64 1, .int .i64 0, .int .i64 0, .str [], .str [], .int .i64 1, .int .i64 0]]
def C120_2 : SV := .tup [.agg [.int .i64 0, .int .i64 0, .int .i64 0, .str [], .str [], .int .i64 0, .int .i64 0], .bool false]
theorem M120_2 : Ret E 120 A120_2 C120_2 := ret_of_runE ok (ftP_without ft_ok) (fd_without fd_ok) hk5_ok (show runE E (without g5 ft) (withoutD g5 fd) hk5 1000 60 (.old (.ret 120 A120_2)) = some C120_2 by kernel_rfl)
def A120_3 : List SV := [.agg [.int .i64 6, .int .i64 0, .int .i64 1, .str [102], .str [], .int .i64 0, .int .i64 0]]
def C120_3 : SV := .tup [.agg [.int .i64 0, .int .i64 0, .int .i64 0, .str [], .str [], .int .i64 0, .int .i64 0], .bool true]
theorem M120_3 : Ret E 120 A120_3 C120_3 := ret_of_runE ok (ftP_without ft_ok) (fd_without fd_ok) hk5_ok (show runE E (without g5 ft) (withoutD g5 fd) hk5 1000 60 (.old (.ret 120 A120_3)) = some C120_3 by kernel_rfl)
def A120_4 : List SV := [.agg [.int .i64 1, .int .i64 0, .int .i64 0, .str [], .str [], .int .i64 2, .int .i64 0]]
def C120_4 : SV := .tup [.agg [.int .i64 0, .int .i64 0, .int .i64 0, .str [], .str [], .int .i64 0, .int .i64 0], .bool false]
theorem M120_4 : Ret E 120 A120_4 C120_4 := ret_of_runE ok (ftP_without ft_ok) (fd_without fd_ok) hk5_ok (show runE E (without g5 ft) (withoutD g5 fd) hk5 1000 60 (.old (.ret 120 A120_4)) = some C120_4 by kernel_rfl)
def A120_5 : List SV := [.agg [.int .i64 5, .int .i64 27, .int .i64 2, .str [], .str [], .int .i64 0, .int .i64 0]]
def C120_5 : SV := .tup [.agg [.int .i64 0, .int .i64 0, .int .i64 0, .str [], .str [], .int .i64 0, .int .i64 0], .bool true]
theorem M120_5 : Ret E 120 A120_5 C120_5 := ret_of_runE ok (ftP_without ft_ok) (fd_without fd_ok) hk5_ok (show runE E (without g5 ft) (withoutD g5 fd) hk5 1000 60 (.old (.ret 120 A120_5)) = some C120_5 by kernel_rfl)
def A120_6 : List SV := [.agg [.int .i64 4, .int .i64 0, .int .i64 0, .str [121], .str [], .int .i64 0, .int .i64 0]]
def C120_6 : SV := .tup [.agg [.int .i64 0, .int .i64 0, .int .i64 0, .str [], .str [], .int .i64 0, .int .i64 0], .bool false]
theorem M120_6 : Ret E 120 A120_6 C120_6 := ret_of_runE ok (ftP_without ft_ok) (fd_without fd_ok) hk5_ok (show runE E (without g5 ft) (withoutD g5 fd) hk5 1000 60 (.old (.ret 120 A120_6)) = some C120_6 by kernel_rfl)
def A120_7 : List SV := [.agg [.int .i64 1, .int .i64 0, .int .i64 0, .str [], .str [], .int .i64 3, .int .i64 0]]
def C120_7 : SV := .tup [.agg [.int .i64 0, .int .i64 0, .int .i64 0, .str [], .str [], .int .i64 0, .int .i64 0], .bool false]
theorem M120_7 : Ret E 120 A120_7 C120_7 := ret_of_runE ok (ftP_without ft_ok) (fd_without fd_ok) hk5_ok (show runE E (without g5 ft) (withoutD g5 fd) hk5 1000 60 (.old (.ret 120 A120_7)) = some C120_7 by kernel_rfl)
def A120_8 : List SV := [.agg [.int .i64 5, .int .i64 16, .int .i64 2, .str [], .str [], .int .i64 0, .int .i64 0]]
def C120_8 : SV := .tup [.agg [.int .i64 0, .int .i64 0, .int .i64 0, .str [], .str [], .int .i64 0, .int .i64 0], .bool true]
theorem M120_8 : Ret E 120 A120_8 C120_8 := ret_of_runE ok (ftP_without ft_ok) (fd_without fd_ok) hk5_ok (show runE E (without g5 ft) (withoutD g5 fd) hk5 1000 60 (.old (.ret 120 A120_8)) = some C120_8 by kernel_rfl)
def l120 : List (List SV × SV) := [(A120_0, C120_0), (A120_1, C120_1), (A120_2, C120_2), (A120_3, C120_3), (A120_4, C120_4), (A120_5, C120_5), (A120_6, C120_6), (A120_7, C120_7), (A120_8, C120_8)]
abbrev g6 : List Nat := [94, 191, 152, 140, 102, 120]
noncomputable def hk6 : Hk := ⟨(120, look l120) :: hk5.x, hk.s⟩
theorem hk6_ok : HkOK E hk6 := ⟨hkX_cons (fun az r h => toldL_look (l := l120) ⟨M120_0, M120_1, M120_2, M120_3, M120_4, M120_5, M120_6, M120_7, M120_8, trivial⟩ az r h) hk5_ok.x, hk_ok.s⟩
def A40_0 : List SV := [.agg [.int .i64 1, .int .i64 0, .int .i64 0, .int .i64 0, .str [102]]]
def C40_0 : SV := .int .i64 0
theorem M40_0 : Ret E 40 A40_0 C40_0 := ret_of_runE ok (ftP_without ft_ok) (fd_without fd_ok) hk6_ok (show runE E (without g6 ft) (withoutD g6 fd) hk6 1000 60 (.old (.ret 40 A40_0)) = some C40_0 by kernel_rfl)
def A40_1 : List SV := [.agg [.int .i64 1, .int .i64 0, .int .i64 0, .int .i64 0, .str [120]]]
def C40_1 : SV := .int .i64 0
theorem M40_1 : Ret E 40 A40_1 C40_1 := ret_of_runE ok (ftP_without ft_ok) (fd_without fd_ok) hk6_ok (show runE E (without g6 ft) (withoutD g6 fd) hk6 1000 60 (.old (.ret 40 A40_1)) = some C40_1 by kernel_rfl)
def A40_2 : List SV := [.agg [.int .i64 4, .int .i64 10, .int .i64 11, .int .i64 0, .str []]]
def C40_2 : SV := .int .i64 0
theorem M40_2 : Ret E 40 A40_2 C40_2 := ret_of_runE ok (ftP_without ft_ok) (fd_without fd_ok) hk6_ok (show runE E (without g6 ft) (withoutD g6 fd) hk6 1000 60 (.old (.ret 40 A40_2)) = some C40_2 by kernel_rfl)
def A40_3 : List SV := [.agg [.int .i64 1, .int .i64 11, .int .i64 12, .int .i64 0, .str [120]]]
def C40_3 : SV := .int .i64 0
theorem M40_3 : Ret E 40 A40_3 C40_3 := ret_of_runE ok (ftP_without ft_ok) (fd_without fd_ok) hk6_ok (show runE E (without g6 ft) (withoutD g6 fd) hk6 1000 60 (.old (.ret 40 A40_3)) = some C40_3 by kernel_rfl)
def A40_4 : List SV := [.agg [.int .i64 1, .int .i64 13, .int .i64 16, .int .i64 0, .str [97, 100, 100]]]
def C40_4 : SV := .int .i64 0
theorem M40_4 : Ret E 40 A40_4 C40_4 := ret_of_runE ok (ftP_without ft_ok) (fd_without fd_ok) hk6_ok (show runE E (without g6 ft) (withoutD g6 fd) hk6 1000 60 (.old (.ret 40 A40_4)) = some C40_4 by kernel_rfl)
def A40_5 : List SV := [.agg [.int .i64 2, .int .i64 17, .int .i64 18, .int .i64 1, .str []]]
def C40_5 : SV := .int .i64 0
theorem M40_5 : Ret E 40 A40_5 C40_5 := ret_of_runE ok (ftP_without ft_ok) (fd_without fd_ok) hk6_ok (show runE E (without g6 ft) (withoutD g6 fd) hk6 1000 60 (.old (.ret 40 A40_5)) = some C40_5 by kernel_rfl)
def A40_6 : List SV := [.agg [.int .i64 5, .int .i64 18, .int .i64 19, .int .i64 0, .str []]]
def C40_6 : SV := .int .i64 0
theorem M40_6 : Ret E 40 A40_6 C40_6 := ret_of_runE ok (ftP_without ft_ok) (fd_without fd_ok) hk6_ok (show runE E (without g6 ft) (withoutD g6 fd) hk6 1000 60 (.old (.ret 40 A40_6)) = some C40_6 by kernel_rfl)
def A40_7 : List SV := [.agg [.int .i64 1, .int .i64 0, .int .i64 0, .int .i64 0, .str [121]]]
def C40_7 : SV := .int .i64 0
theorem M40_7 : Ret E 40 A40_7 C40_7 := ret_of_runE ok (ftP_without ft_ok) (fd_without fd_ok) hk6_ok (show runE E (without g6 ft) (withoutD g6 fd) hk6 1000 60 (.old (.ret 40 A40_7)) = some C40_7 by kernel_rfl)
def A40_8 : List SV := [.agg [.int .i64 1, .int .i64 5, .int .i64 6, .int .i64 0, .str [102]]]
def C40_8 : SV := .int .i64 0
theorem M40_8 : Ret E 40 A40_8 C40_8 := ret_of_runE ok (ftP_without ft_ok) (fd_without fd_ok) hk6_ok (show runE E (without g6 ft) (withoutD g6 fd) hk6 1000 60 (.old (.ret 40 A40_8)) = some C40_8 by kernel_rfl)
def A40_9 : List SV := [.agg [.int .i64 2, .int .i64 7, .int .i64 8, .int .i64 2, .str []]]
def C40_9 : SV := .int .i64 0
theorem M40_9 : Ret E 40 A40_9 C40_9 := ret_of_runE ok (ftP_without ft_ok) (fd_without fd_ok) hk6_ok (show runE E (without g6 ft) (withoutD g6 fd) hk6 1000 60 (.old (.ret 40 A40_9)) = some C40_9 by kernel_rfl)
def A40_10 : List SV := [.agg [.int .i64 1, .int .i64 3, .int .i64 4, .int .i64 0, .str [121]]]
def C40_10 : SV := .int .i64 0
theorem M40_10 : Ret E 40 A40_10 C40_10 := ret_of_runE ok (ftP_without ft_ok) (fd_without fd_ok) hk6_ok (show runE E (without g6 ft) (withoutD g6 fd) hk6 1000 60 (.old (.ret 40 A40_10)) = some C40_10 by kernel_rfl)
def A40_11 : List SV := [.agg [.int .i64 1, .int .i64 5, .int .i64 7, .int .i64 0, .str [103, 116]]]
def C40_11 : SV := .int .i64 0
theorem M40_11 : Ret E 40 A40_11 C40_11 := ret_of_runE ok (ftP_without ft_ok) (fd_without fd_ok) hk6_ok (show runE E (without g6 ft) (withoutD g6 fd) hk6 1000 60 (.old (.ret 40 A40_11)) = some C40_11 by kernel_rfl)
def A40_12 : List SV := [.agg [.int .i64 2, .int .i64 8, .int .i64 9, .int .i64 3, .str []]]
def C40_12 : SV := .int .i64 0
theorem M40_12 : Ret E 40 A40_12 C40_12 := ret_of_runE ok (ftP_without ft_ok) (fd_without fd_ok) hk6_ok (show runE E (without g6 ft) (withoutD g6 fd) hk6 1000 60 (.old (.ret 40 A40_12)) = some C40_12 by kernel_rfl)
def A40_13 : List SV := [.agg [.int .i64 1, .int .i64 6, .int .i64 7, .int .i64 0, .str [121]]]
def C40_13 : SV := .int .i64 0
theorem M40_13 : Ret E 40 A40_13 C40_13 := ret_of_runE ok (ftP_without ft_ok) (fd_without fd_ok) hk6_ok (show runE E (without g6 ft) (withoutD g6 fd) hk6 1000 60 (.old (.ret 40 A40_13)) = some C40_13 by kernel_rfl)
def A40_14 : List SV := [.agg [.int .i64 1, .int .i64 0, .int .i64 0, .int .i64 0, .str [99]]]
def C40_14 : SV := .int .i64 0
theorem M40_14 : Ret E 40 A40_14 C40_14 := ret_of_runE ok (ftP_without ft_ok) (fd_without fd_ok) hk6_ok (show runE E (without g6 ft) (withoutD g6 fd) hk6 1000 60 (.old (.ret 40 A40_14)) = some C40_14 by kernel_rfl)
def A40_15 : List SV := [.agg [.int .i64 4, .int .i64 0, .int .i64 0, .int .i64 0, .str []]]
def C40_15 : SV := .int .i64 0
theorem M40_15 : Ret E 40 A40_15 C40_15 := ret_of_runE ok (ftP_without ft_ok) (fd_without fd_ok) hk6_ok (show runE E (without g6 ft) (withoutD g6 fd) hk6 1000 60 (.old (.ret 40 A40_15)) = some C40_15 by kernel_rfl)
def A40_16 : List SV := [.agg [.int .i64 1, .int .i64 0, .int .i64 0, .int .i64 0, .str [115, 117, 98]]]
def C40_16 : SV := .int .i64 0
theorem M40_16 : Ret E 40 A40_16 C40_16 := ret_of_runE ok (ftP_without ft_ok) (fd_without fd_ok) hk6_ok (show runE E (without g6 ft) (withoutD g6 fd) hk6 1000 60 (.old (.ret 40 A40_16)) = some C40_16 by kernel_rfl)
def A40_17 : List SV := [.agg [.int .i64 5, .int .i64 0, .int .i64 0, .int .i64 0, .str []]]
def C40_17 : SV := .int .i64 0
theorem M40_17 : Ret E 40 A40_17 C40_17 := ret_of_runE ok (ftP_without ft_ok) (fd_without fd_ok) hk6_ok (show runE E (without g6 ft) (withoutD g6 fd) hk6 1000 60 (.old (.ret 40 A40_17)) = some C40_17 by kernel_rfl)
def A40_18 : List SV := [.agg [.int .i64 2, .int .i64 0, .int .i64 0, .int .i64 1, .str []]]
def C40_18 : SV := .int .i64 0
theorem M40_18 : Ret E 40 A40_18 C40_18 := ret_of_runE ok (ftP_without ft_ok) (fd_without fd_ok) hk6_ok (show runE E (without g6 ft) (withoutD g6 fd) hk6 1000 60 (.old (.ret 40 A40_18)) = some C40_18 by kernel_rfl)
def A40_19 : List SV := [.agg [.int .i64 1, .int .i64 0, .int .i64 0, .int .i64 0, .str [97, 100, 100]]]
def C40_19 : SV := .int .i64 0
theorem M40_19 : Ret E 40 A40_19 C40_19 := ret_of_runE ok (ftP_without ft_ok) (fd_without fd_ok) hk6_ok (show runE E (without g6 ft) (withoutD g6 fd) hk6 1000 60 (.old (.ret 40 A40_19)) = some C40_19 by kernel_rfl)
def A40_20 : List SV := [.agg [.int .i64 2, .int .i64 0, .int .i64 0, .int .i64 2, .str []]]
def C40_20 : SV := .int .i64 0
theorem M40_20 : Ret E 40 A40_20 C40_20 := ret_of_runE ok (ftP_without ft_ok) (fd_without fd_ok) hk6_ok (show runE E (without g6 ft) (withoutD g6 fd) hk6 1000 60 (.old (.ret 40 A40_20)) = some C40_20 by kernel_rfl)
def A40_21 : List SV := [.agg [.int .i64 1, .int .i64 0, .int .i64 0, .int .i64 0, .str [103, 116]]]
def C40_21 : SV := .int .i64 0
theorem M40_21 : Ret E 40 A40_21 C40_21 := ret_of_runE ok (ftP_without ft_ok) (fd_without fd_ok) hk6_ok (show runE E (without g6 ft) (withoutD g6 fd) hk6 1000 60 (.old (.ret 40 A40_21)) = some C40_21 by kernel_rfl)
def A40_22 : List SV := [.agg [.int .i64 2, .int .i64 0, .int .i64 0, .int .i64 3, .str []]]
def C40_22 : SV := .int .i64 0
theorem M40_22 : Ret E 40 A40_22 C40_22 := ret_of_runE ok (ftP_without ft_ok) (fd_without fd_ok) hk6_ok (show runE E (without g6 ft) (withoutD g6 fd) hk6 1000 60 (.old (.ret 40 A40_22)) = some C40_22 by kernel_rfl)
def l40 : List (List SV × SV) := [(A40_0, C40_0), (A40_1, C40_1), (A40_2, C40_2), (A40_3, C40_3), (A40_4, C40_4), (A40_5, C40_5), (A40_6, C40_6), (A40_7, C40_7), (A40_8, C40_8), (A40_9, C40_9), (A40_10, C40_10), (A40_11, C40_11), (A40_12, C40_12), (A40_13, C40_13), (A40_14, C40_14), (A40_15, C40_15), (A40_16, C40_16), (A40_17, C40_17), (A40_18, C40_18), (A40_19, C40_19), (A40_20, C40_20), (A40_21, C40_21), (A40_22, C40_22)]
abbrev g7 : List Nat := [94, 191, 152, 140, 102, 120, 40]
noncomputable def hk7 : Hk := ⟨(40, look l40) :: hk6.x, hk.s⟩
theorem hk7_ok : HkOK E hk7 := ⟨hkX_cons (fun az r h => toldL_look (l := l40) ⟨M40_0, M40_1, M40_2, M40_3, M40_4, M40_5, M40_6, M40_7, M40_8, M40_9, M40_10, M40_11, M40_12, M40_13, M40_14, M40_15, M40_16, M40_17, M40_18, M40_19, M40_20, M40_21, M40_22, trivial⟩ az r h) hk6_ok.x, hk_ok.s⟩
def A116_0 : List SV := [.agg [.int .i64 5, .int .i64 15, .int .i64 2, .str [], .str [], .int .i64 0, .int .i64 0]]
def C116_0 : SV := .int .i64 0
theorem M116_0 : Ret E 116 A116_0 C116_0 := ret_of_runE ok (ftP_without ft_ok) (fd_without fd_ok) hk7_ok (show runE E (without g7 ft) (withoutD g7 fd) hk7 1000 60 (.old (.ret 116 A116_0)) = some C116_0 by kernel_rfl)
def A116_1 : List SV := [.agg [.int .i64 4, .int .i64 0, .int .i64 0, .str [120], .str [], .int .i64 0, .int .i64 0]]
def C116_1 : SV := .int .i64 0
theorem M116_1 : Ret E 116 A116_1 C116_1 := ret_of_runE ok (ftP_without ft_ok) (fd_without fd_ok) hk7_ok (show runE E (without g7 ft) (withoutD g7 fd) hk7 1000 60 (.old (.ret 116 A116_1)) = some C116_1 by kernel_rfl)
def A116_2 : List SV := [.agg [.int .i64 1, .int .i64 0, .int .i64 0, .str [], .str [], .int .i64 1, .int .i64 0]]
def C116_2 : SV := .int .i64 0
theorem M116_2 : Ret E 116 A116_2 C116_2 := ret_of_runE ok (ftP_without ft_ok) (fd_without fd_ok) hk7_ok (show runE E (without g7 ft) (withoutD g7 fd) hk7 1000 60 (.old (.ret 116 A116_2)) = some C116_2 by kernel_rfl)
def A116_3 : List SV := [.agg [.int .i64 6, .int .i64 0, .int .i64 1, .str [102], .str [], .int .i64 0, .int .i64 0]]
def C116_3 : SV := .int .i64 0
theorem M116_3 : Ret E 116 A116_3 C116_3 := ret_of_runE ok (ftP_without ft_ok) (fd_without fd_ok) hk7_ok (show runE E (without g7 ft) (withoutD g7 fd) hk7 1000 60 (.old (.ret 116 A116_3)) = some C116_3 by kernel_rfl)
def A116_4 : List SV := [.agg [.int .i64 1, .int .i64 0, .int .i64 0, .str [], .str [], .int .i64 2, .int .i64 0]]
def C116_4 : SV := .int .i64 0
theorem M116_4 : Ret E 116 A116_4 C116_4 := ret_of_runE ok (ftP_without ft_ok) (fd_without fd_ok) hk7_ok (show runE E (without g7 ft) (withoutD g7 fd) hk7 1000 60 (.old (.ret 116 A116_4)) = some C116_4 by kernel_rfl)
def A116_5 : List SV := [.agg [.int .i64 5, .int .i64 27, .int .i64 2, .str [], .str [], .int .i64 0, .int .i64 0]]
def C116_5 : SV := .int .i64 0
theorem M116_5 : Ret E 116 A116_5 C116_5 := ret_of_runE ok (ftP_without ft_ok) (fd_without fd_ok) hk7_ok (show runE E (without g7 ft) (withoutD g7 fd) hk7 1000 60 (.old (.ret 116 A116_5)) = some C116_5 by kernel_rfl)
def A116_6 : List SV := [.agg [.int .i64 4, .int .i64 0, .int .i64 0, .str [121], .str [], .int .i64 0, .int .i64 0]]
def C116_6 : SV := .int .i64 0
theorem M116_6 : Ret E 116 A116_6 C116_6 := ret_of_runE ok (ftP_without ft_ok) (fd_without fd_ok) hk7_ok (show runE E (without g7 ft) (withoutD g7 fd) hk7 1000 60 (.old (.ret 116 A116_6)) = some C116_6 by kernel_rfl)
def A116_7 : List SV := [.agg [.int .i64 1, .int .i64 0, .int .i64 0, .str [], .str [], .int .i64 3, .int .i64 0]]
def C116_7 : SV := .int .i64 0
theorem M116_7 : Ret E 116 A116_7 C116_7 := ret_of_runE ok (ftP_without ft_ok) (fd_without fd_ok) hk7_ok (show runE E (without g7 ft) (withoutD g7 fd) hk7 1000 60 (.old (.ret 116 A116_7)) = some C116_7 by kernel_rfl)
def A116_8 : List SV := [.agg [.int .i64 5, .int .i64 16, .int .i64 2, .str [], .str [], .int .i64 0, .int .i64 0]]
def C116_8 : SV := .int .i64 0
theorem M116_8 : Ret E 116 A116_8 C116_8 := ret_of_runE ok (ftP_without ft_ok) (fd_without fd_ok) hk7_ok (show runE E (without g7 ft) (withoutD g7 fd) hk7 1000 60 (.old (.ret 116 A116_8)) = some C116_8 by kernel_rfl)
def l116 : List (List SV × SV) := [(A116_0, C116_0), (A116_1, C116_1), (A116_2, C116_2), (A116_3, C116_3), (A116_4, C116_4), (A116_5, C116_5), (A116_6, C116_6), (A116_7, C116_7), (A116_8, C116_8)]
abbrev g8 : List Nat := [94, 191, 152, 140, 102, 120, 40, 116]
noncomputable def hk8 : Hk := ⟨(116, look l116) :: hk7.x, hk.s⟩
theorem hk8_ok : HkOK E hk8 := ⟨hkX_cons (fun az r h => toldL_look (l := l116) ⟨M116_0, M116_1, M116_2, M116_3, M116_4, M116_5, M116_6, M116_7, M116_8, trivial⟩ az r h) hk7_ok.x, hk_ok.s⟩
def A83_0 : List SV := [.sl 7 [.agg [.int .i64 5, .int .i64 15, .int .i64 2, .str [], .str [], .int .i64 0, .int .i64 0], .agg [.int .i64 4, .int .i64 0, .int .i64 0, .str [120], .str [], .int .i64 0, .int .i64 0], .agg [.int .i64 1, .int .i64 0, .int .i64 0, .str [], .str [], .int .i64 1, .int .i64 0]]]
def C83_0 : SV := .tup [.agg [.sl 1 [.int .i64 3, .int .i64 2, .int .i64 3], .sl 1 [.int .i64 2, .int .i64 1, .int .i64 1], .any, .sl 1 [.fls, .fls, .fls]], .int .i64 0, .int .i64 0]
theorem M83_0 : Ret E 83 A83_0 C83_0 := ret_of_runE ok (ftP_without ft_ok) (fd_without fd_ok) hk8_ok (show runE E (without g8 ft) (withoutD g8 fd) hk8 1000 60 (.old (.ret 83 A83_0)) = some C83_0 by kernel_rfl)
def A83_1 : List SV := [.sl 7 [.agg [.int .i64 6, .int .i64 0, .int .i64 1, .str [102], .str [], .int .i64 0, .int .i64 0], .agg [.int .i64 1, .int .i64 0, .int .i64 0, .str [], .str [], .int .i64 2, .int .i64 0]]]
def C83_1 : SV := .tup [.agg [.sl 1 [.int .i64 2, .int .i64 2], .sl 1 [.int .i64 2, .int .i64 1], .any, .sl 1 [.fls, .fls]], .int .i64 0, .int .i64 0]
theorem M83_1 : Ret E 83 A83_1 C83_1 := ret_of_runE ok (ftP_without ft_ok) (fd_without fd_ok) hk8_ok (show runE E (without g8 ft) (withoutD g8 fd) hk8 1000 60 (.old (.ret 83 A83_1)) = some C83_1 by kernel_rfl)
def A83_2 : List SV := [.sl 7 [.agg [.int .i64 5, .int .i64 27, .int .i64 2, .str [], .str [], .int .i64 0, .int .i64 0], .agg [.int .i64 4, .int .i64 0, .int .i64 0, .str [121], .str [], .int .i64 0, .int .i64 0], .agg [.int .i64 1, .int .i64 0, .int .i64 0, .str [], .str [], .int .i64 3, .int .i64 0]]]
def C83_2 : SV := .tup [.agg [.sl 1 [.int .i64 3, .int .i64 2, .int .i64 3], .sl 1 [.int .i64 2, .int .i64 1, .int .i64 1], .any, .sl 1 [.fls, .fls, .fls]], .int .i64 0, .int .i64 0]
theorem M83_2 : Ret E 83 A83_2 C83_2 := ret_of_runE ok (ftP_without ft_ok) (fd_without fd_ok) hk8_ok (show runE E (without g8 ft) (withoutD g8 fd) hk8 1000 60 (.old (.ret 83 A83_2)) = some C83_2 by kernel_rfl)
def A83_3 : List SV := [.sl 7 [.agg [.int .i64 4, .int .i64 0, .int .i64 0, .str [121], .str [], .int .i64 0, .int .i64 0]]]
def C83_3 : SV := .tup [.agg [.sl 1 [.int .i64 1], .sl 1 [.int .i64 1], .any, .sl 1 [.fls]], .int .i64 0, .int .i64 0]
theorem M83_3 : Ret E 83 A83_3 C83_3 := ret_of_runE ok (ftP_without ft_ok) (fd_without fd_ok) hk8_ok (show runE E (without g8 ft) (withoutD g8 fd) hk8 1000 60 (.old (.ret 83 A83_3)) = some C83_3 by kernel_rfl)
def A83_4 : List SV := [.sl 7 [.agg [.int .i64 5, .int .i64 16, .int .i64 2, .str [], .str [], .int .i64 0, .int .i64 0], .agg [.int .i64 5, .int .i64 16, .int .i64 2, .str [], .str [], .int .i64 0, .int .i64 0], .agg [.int .i64 4, .int .i64 0, .int .i64 0, .str [120], .str [], .int .i64 0, .int .i64 0], .agg [.int .i64 4, .int .i64 0, .int .i64 0, .str [121], .str [], .int .i64 0, .int .i64 0], .agg [.int .i64 1, .int .i64 0, .int .i64 0, .str [], .str [], .int .i64 1, .int .i64 0]]]
def C83_4 : SV := .tup [.agg [.sl 1 [.int .i64 5, .int .i64 4, .int .i64 3, .int .i64 4, .int .i64 5], .sl 1 [.int .i64 3, .int .i64 2, .int .i64 1, .int .i64 1, .int .i64 1], .any, .sl 1 [.fls, .fls, .fls, .fls, .fls]], .int .i64 0, .int .i64 0]
theorem M83_4 : Ret E 83 A83_4 C83_4 := ret_of_runE ok (ftP_without ft_ok) (fd_without fd_ok) hk8_ok (show runE E (without g8 ft) (withoutD g8 fd) hk8 1000 60 (.old (.ret 83 A83_4)) = some C83_4 by kernel_rfl)
def l83 : List (List SV × SV) := [(A83_0, C83_0), (A83_1, C83_1), (A83_2, C83_2), (A83_3, C83_3), (A83_4, C83_4)]
abbrev g9 : List Nat := [94, 191, 152, 140, 102, 120, 40, 116, 83]
noncomputable def hk9 : Hk := ⟨(83, look l83) :: hk8.x, hk.s⟩
theorem hk9_ok : HkOK E hk9 := ⟨hkX_cons (fun az r h => toldL_look (l := l83) ⟨M83_0, M83_1, M83_2, M83_3, M83_4, trivial⟩ az r h) hk8_ok.x, hk_ok.s⟩
def A61_0 : List SV := [.nils]
def C61_0 : SV := .tup [.int .i64 0, .int .i64 0]
theorem M61_0 : Ret E 61 A61_0 C61_0 := ret_of_runE ok (ftP_without ft_ok) (fd_without fd_ok) hk9_ok (show runE E (without g9 ft) (withoutD g9 fd) hk9 1000 60 (.old (.ret 61 A61_0)) = some C61_0 by kernel_rfl)
def A61_1 : List SV := [.sl 2 [.agg [.str [102], .int .i64 1]]]
def C61_1 : SV := .tup [.int .i64 0, .int .i64 0]
theorem M61_1 : Ret E 61 A61_1 C61_1 := ret_of_runE ok (ftP_without ft_ok) (fd_without fd_ok) hk9_ok (show runE E (without g9 ft) (withoutD g9 fd) hk9 1000 60 (.old (.ret 61 A61_1)) = some C61_1 by kernel_rfl)
def l61 : List (List SV × SV) := [(A61_0, C61_0), (A61_1, C61_1)]
abbrev g10 : List Nat := [94, 191, 152, 140, 102, 120, 40, 116, 83, 61]
noncomputable def hk10 : Hk := ⟨(61, look l61) :: hk9.x, hk.s⟩
theorem hk10_ok : HkOK E hk10 := ⟨hkX_cons (fun az r h => toldL_look (l := l61) ⟨M61_0, M61_1, trivial⟩ az r h) hk9_ok.x, hk_ok.s⟩
def A108_0 : List SV := [.sl 7 [.agg [.int .i64 5, .int .i64 15, .int .i64 2, .str [], .str [], .int .i64 0, .int .i64 0], .agg [.int .i64 4, .int .i64 0, .int .i64 0, .str [120], .str [], .int .i64 0, .int .i64 0], .agg [.int .i64 1, .int .i64 0, .int .i64 0, .str [], .str [], .int .i64 1, .int .i64 0]], .nils]
def C108_0 : SV := .tup [.int .i64 0, .int .i64 0]
theorem M108_0 : Ret E 108 A108_0 C108_0 := ret_of_runE ok (ftP_without ft_ok) (fd_without fd_ok) hk10_ok (show runE E (without g10 ft) (withoutD g10 fd) hk10 1000 60 (.old (.ret 108 A108_0)) = some C108_0 by kernel_rfl)
def A108_1 : List SV := [.sl 7 [.agg [.int .i64 6, .int .i64 0, .int .i64 1, .str [102], .str [], .int .i64 0, .int .i64 0], .agg [.int .i64 1, .int .i64 0, .int .i64 0, .str [], .str [], .int .i64 2, .int .i64 0]], .sl 2 [.agg [.str [102], .int .i64 1]]]
def C108_1 : SV := .tup [.int .i64 0, .int .i64 0]
theorem M108_1 : Ret E 108 A108_1 C108_1 := ret_of_runE ok (ftP_without ft_ok) (fd_without fd_ok) hk10_ok (show runE E (without g10 ft) (withoutD g10 fd) hk10 1000 60 (.old (.ret 108 A108_1)) = some C108_1 by kernel_rfl)
def A108_2 : List SV := [.sl 7 [.agg [.int .i64 5, .int .i64 27, .int .i64 2, .str [], .str [], .int .i64 0, .int .i64 0], .agg [.int .i64 4, .int .i64 0, .int .i64 0, .str [121], .str [], .int .i64 0, .int .i64 0], .agg [.int .i64 1, .int .i64 0, .int .i64 0, .str [], .str [], .int .i64 3, .int .i64 0]], .sl 2 [.agg [.str [102], .int .i64 1]]]
def C108_2 : SV := .tup [.int .i64 0, .int .i64 0]
theorem M108_2 : Ret E 108 A108_2 C108_2 := ret_of_runE ok (ftP_without ft_ok) (fd_without fd_ok) hk10_ok (show runE E (without g10 ft) (withoutD g10 fd) hk10 1000 60 (.old (.ret 108 A108_2)) = some C108_2 by kernel_rfl)
def A108_3 : List SV := [.sl 7 [.agg [.int .i64 4, .int .i64 0, .int .i64 0, .str [121], .str [], .int .i64 0, .int .i64 0]], .sl 2 [.agg [.str [102], .int .i64 1]]]
def C108_3 : SV := .tup [.int .i64 0, .int .i64 0]
theorem M108_3 : Ret E 108 A108_3 C108_3 := ret_of_runE ok (ftP_without ft_ok) (fd_without fd_ok) hk10_ok (show runE E (without g10 ft) (withoutD g10 fd) hk10 1000 60 (.old (.ret 108 A108_3)) = some C108_3 by kernel_rfl)
def l108 : List (List SV × SV) := [(A108_0, C108_0), (A108_1, C108_1), (A108_2, C108_2), (A108_3, C108_3)]
abbrev g11 : List Nat := [94, 191, 152, 140, 102, 120, 40, 116, 83, 61, 108]
noncomputable def hk11 : Hk := ⟨(108, look l108) :: hk10.x, hk.s⟩
theorem hk11_ok : HkOK E hk11 := ⟨hkX_cons (fun az r h => toldL_look (l := l108) ⟨M108_0, M108_1, M108_2, M108_3, trivial⟩ az r h) hk10_ok.x, hk_ok.s⟩
def A33_0 : List SV := [.agg [.nils, .sl 3 [.agg [.str [102], .sl 1 [.str [120]], .sl 7 [.agg [.int .i64 5, .int .i64 15, .int .i64 2, .str [], .str [], .int .i64 0, .int .i64 0], .agg [.int .i64 4, .int .i64 0, .int .i64 0, .str [120], .str [], .int .i64 0, .int .i64 0], .agg [.int .i64 1, .int .i64 0, .int .i64 0, .str [], .str [], .int .i64 1, .int .i64 0]]]], .sl 10 [.agg [.int .i64 1, .str [121], .str [], .str [], .str [], .str [], .int .i64 0, .int .i64 0, .sl 7 [.agg [.int .i64 6, .int .i64 0, .int .i64 1, .str [102], .str [], .int .i64 0, .int .i64 0], .agg [.int .i64 1, .int .i64 0, .int .i64 0, .str [], .str [], .int .i64 2, .int .i64 0]], .int .i64 0], .agg [.int .i64 3, .str [], .str [], .str [], .str [], .str [], .int .i64 1, .int .i64 0, .sl 7 [.agg [.int .i64 5, .int .i64 27, .int .i64 2, .str [], .str [], .int .i64 0, .int .i64 0], .agg [.int .i64 4, .int .i64 0, .int .i64 0, .str [121], .str [], .int .i64 0, .int .i64 0], .agg [.int .i64 1, .int .i64 0, .int .i64 0, .str [], .str [], .int .i64 3, .int .i64 0]], .int .i64 0], .agg [.int .i64 2, .str [], .str [99], .str [], .str [], .str [], .int .i64 0, .int .i64 0, .sl 7 [.agg [.int .i64 4, .int .i64 0, .int .i64 0, .str [121], .str [], .int .i64 0, .int .i64 0]], .int .i64 0]]]]
def C33_0 : SV := .tup [.agg [.any, .sl 2 [.agg [.str [102], .int .i64 1]]], .agg [.sl 1 [.int .i64 1, .int .i64 3, .int .i64 3], .sl 1 [.int .i64 1, .int .i64 1, .int .i64 2], .sl 1 [.sl 1 [], .sl 1 [.int .i64 2], .sl 1 []], .sl 1 [.sl 1 [], .sl 1 [], .sl 1 []], .sl 1 [.int .i64 0, .int .i64 1]], .agg [.int .i64 0, .int .i64 0, .int .i64 0], .int .i64 0]
theorem M33_0 : Ret E 33 A33_0 C33_0 := ret_of_runE ok (ftP_without ft_ok) (fd_without fd_ok) hk11_ok (show runE E (without g11 ft) (withoutD g11 fd) hk11 1000 60 (.old (.ret 33 A33_0)) = some C33_0 by kernel_rfl)
def l33 : List (List SV × SV) := [(A33_0, C33_0)]
abbrev g12 : List Nat := [94, 191, 152, 140, 102, 120, 40, 116, 83, 61, 108, 33]
noncomputable def hk12 : Hk := ⟨(33, look l33) :: hk11.x, hk.s⟩
theorem hk12_ok : HkOK E hk12 := ⟨hkX_cons (fun az r h => toldL_look (l := l33) ⟨M33_0, trivial⟩ az r h) hk11_ok.x, hk_ok.s⟩
def A62_0 : List SV := [.sl 5 [.agg [.int .i64 4, .int .i64 10, .int .i64 11, .int .i64 0, .str []], .agg [.int .i64 1, .int .i64 11, .int .i64 12, .int .i64 0, .str [120]], .agg [.int .i64 1, .int .i64 13, .int .i64 16, .int .i64 0, .str [97, 100, 100]], .agg [.int .i64 2, .int .i64 17, .int .i64 18, .int .i64 1, .str []], .agg [.int .i64 5, .int .i64 18, .int .i64 19, .int .i64 0, .str []]], .nils]
def C62_0 : SV := .tup [.sl 7 [.agg [.int .i64 5, .int .i64 15, .int .i64 2, .str [], .str [], .int .i64 0, .int .i64 0], .agg [.int .i64 4, .int .i64 0, .int .i64 0, .str [120], .str [], .int .i64 0, .int .i64 0], .agg [.int .i64 1, .int .i64 0, .int .i64 0, .str [], .str [], .int .i64 1, .int .i64 0]], .int .i64 0, .int .i64 0]
theorem M62_0 : Ret E 62 A62_0 C62_0 := ret_of_runE ok (ftP_without ft_ok) (fd_without fd_ok) hk12_ok (show runE E (without g12 ft) (withoutD g12 fd) hk12 1000 60 (.old (.ret 62 A62_0)) = some C62_0 by kernel_rfl)
def A62_1 : List SV := [.sl 5 [.agg [.int .i64 1, .int .i64 5, .int .i64 6, .int .i64 0, .str [102]], .agg [.int .i64 2, .int .i64 7, .int .i64 8, .int .i64 2, .str []]], .sl 2 [.agg [.str [102], .int .i64 1]]]
def C62_1 : SV := .tup [.sl 7 [.agg [.int .i64 6, .int .i64 0, .int .i64 1, .str [102], .str [], .int .i64 0, .int .i64 0], .agg [.int .i64 1, .int .i64 0, .int .i64 0, .str [], .str [], .int .i64 2, .int .i64 0]], .int .i64 0, .int .i64 0]
theorem M62_1 : Ret E 62 A62_1 C62_1 := ret_of_runE ok (ftP_without ft_ok) (fd_without fd_ok) hk12_ok (show runE E (without g12 ft) (withoutD g12 fd) hk12 1000 60 (.old (.ret 62 A62_1)) = some C62_1 by kernel_rfl)
def A62_2 : List SV := [.sl 5 [.agg [.int .i64 1, .int .i64 3, .int .i64 4, .int .i64 0, .str [121]], .agg [.int .i64 1, .int .i64 5, .int .i64 7, .int .i64 0, .str [103, 116]], .agg [.int .i64 2, .int .i64 8, .int .i64 9, .int .i64 3, .str []]], .sl 2 [.agg [.str [102], .int .i64 1]]]
def C62_2 : SV := .tup [.sl 7 [.agg [.int .i64 5, .int .i64 27, .int .i64 2, .str [], .str [], .int .i64 0, .int .i64 0], .agg [.int .i64 4, .int .i64 0, .int .i64 0, .str [121], .str [], .int .i64 0, .int .i64 0], .agg [.int .i64 1, .int .i64 0, .int .i64 0, .str [], .str [], .int .i64 3, .int .i64 0]], .int .i64 0, .int .i64 0]
theorem M62_2 : Ret E 62 A62_2 C62_2 := ret_of_runE ok (ftP_without ft_ok) (fd_without fd_ok) hk12_ok (show runE E (without g12 ft) (withoutD g12 fd) hk12 1000 60 (.old (.ret 62 A62_2)) = some C62_2 by kernel_rfl)
def A62_3 : List SV := [.sl 5 [.agg [.int .i64 1, .int .i64 6, .int .i64 7, .int .i64 0, .str [121]]], .sl 2 [.agg [.str [102], .int .i64 1]]]
def C62_3 : SV := .tup [.sl 7 [.agg [.int .i64 4, .int .i64 0, .int .i64 0, .str [121], .str [], .int .i64 0, .int .i64 0]], .int .i64 0, .int .i64 0]
theorem M62_3 : Ret E 62 A62_3 C62_3 := ret_of_runE ok (ftP_without ft_ok) (fd_without fd_ok) hk12_ok (show runE E (without g12 ft) (withoutD g12 fd) hk12 1000 60 (.old (.ret 62 A62_3)) = some C62_3 by kernel_rfl)
def l62 : List (List SV × SV) := [(A62_0, C62_0), (A62_1, C62_1), (A62_2, C62_2), (A62_3, C62_3)]
abbrev g13 : List Nat := [94, 191, 152, 140, 102, 120, 40, 116, 83, 61, 108, 33, 62]
noncomputable def hk13 : Hk := ⟨(62, look l62) :: hk12.x, hk.s⟩
theorem hk13_ok : HkOK E hk13 := ⟨hkX_cons (fun az r h => toldL_look (l := l62) ⟨M62_0, M62_1, M62_2, M62_3, trivial⟩ az r h) hk12_ok.x, hk_ok.s⟩
def A4_0 : List SV := [.str [100, 101, 102, 32, 102, 32, 120, 32, 61, 32, 40, 120, 32, 97, 100, 100, 32, 49, 41, 10, 121, 32, 60, 45, 32, 102, 32, 50, 10, 105, 102, 32, 121, 32, 103, 116, 32, 51, 10, 111, 117, 116, 32, 99, 32, 121, 10, 101, 108, 115, 101, 10, 101, 110, 100, 10]]
def C4_0 : SV := .tup [.agg [.nils, .sl 3 [.agg [.str [102], .sl 1 [.str [120]], .sl 7 [.agg [.int .i64 5, .int .i64 15, .int .i64 2, .str [], .str [], .int .i64 0, .int .i64 0], .agg [.int .i64 4, .int .i64 0, .int .i64 0, .str [120], .str [], .int .i64 0, .int .i64 0], .agg [.int .i64 1, .int .i64 0, .int .i64 0, .str [], .str [], .int .i64 1, .int .i64 0]]]], .sl 10 [.agg [.int .i64 1, .str [121], .str [], .str [], .str [], .str [], .int .i64 0, .int .i64 0, .sl 7 [.agg [.int .i64 6, .int .i64 0, .int .i64 1, .str [102], .str [], .int .i64 0, .int .i64 0], .agg [.int .i64 1, .int .i64 0, .int .i64 0, .str [], .str [], .int .i64 2, .int .i64 0]], .int .i64 0], .agg [.int .i64 3, .str [], .str [], .str [], .str [], .str [], .int .i64 1, .int .i64 0, .sl 7 [.agg [.int .i64 5, .int .i64 27, .int .i64 2, .str [], .str [], .int .i64 0, .int .i64 0], .agg [.int .i64 4, .int .i64 0, .int .i64 0, .str [121], .str [], .int .i64 0, .int .i64 0], .agg [.int .i64 1, .int .i64 0, .int .i64 0, .str [], .str [], .int .i64 3, .int .i64 0]], .int .i64 0], .agg [.int .i64 2, .str [], .str [99], .str [], .str [], .str [], .int .i64 0, .int .i64 0, .sl 7 [.agg [.int .i64 4, .int .i64 0, .int .i64 0, .str [121], .str [], .int .i64 0, .int .i64 0]], .int .i64 0]]], .int .i64 0, .int .i64 0, .int .i64 0]
theorem M4_0 : Ret E 4 A4_0 C4_0 := ret_of_runE ok (ftP_without ft_ok) (fd_without fd_ok) hk13_ok (show runE E (without g13 ft) (withoutD g13 fd) hk13 1000 60 (.old (.ret 4 A4_0)) = some C4_0 by kernel_rfl)
def l4 : List (List SV × SV) := [(A4_0, C4_0)]
abbrev g14 : List Nat := [94, 191, 152, 140, 102, 120, 40, 116, 83, 61, 108, 33, 62, 4]
noncomputable def hk14 : Hk := ⟨(4, look l4) :: hk13.x, hk.s⟩
theorem hk14_ok : HkOK E hk14 := ⟨hkX_cons (fun az r h => toldL_look (l := l4) ⟨M4_0, trivial⟩ az r h) hk13_ok.x, hk_ok.s⟩
theorem L_invigilatorlaw18_PrinterKnown : Ret E 3 [] (.bool true) := ret_of_runE ok (ftP_without ft_ok) (fd_without fd_ok) hk14_ok (show runE E (without g14 ft) (withoutD g14 fd) hk14 1000 60 (.old (.ret 3 [])) = some (.bool true) by kernel_rfl)
end Go.Sx.Tz
