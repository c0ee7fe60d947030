/-
  An own text of this claim.
-/
import Derived.Test.YtgejleocladghaaGreatDoorP2
import Derived.Test.YtgejleocladghaaGreatDoorProg
noncomputable section
namespace Go.Sx.Tz
open Go.Proofs
def tt : List (Nat × TI) := [(1, ⟨.fn, 1, 8, .nilf, false⟩),
  (2, ⟨.int .i64, 1, 8, .int .i64 0, false⟩),
  (3, ⟨.int .i64, 1, 8, .int .i64 0, false⟩),
  (4, ⟨.bool, 1, 1, .fls, false⟩),
  (5, ⟨.int .u8, 1, 1, .int .u8 0, false⟩),
  (6, ⟨.int .u8, 1, 1, .int .u8 0, false⟩),
  (7, ⟨.strct [(2, 0), (3, 1), (4, 2), (6, 3)], 4, 24, .agg [.int .i64 0, .int .i64 0, .fls, .int .u8 0], true⟩),
  (8, ⟨.strct [(2, 0), (3, 1), (4, 2), (6, 3)], 4, 24, .agg [.int .i64 0, .int .i64 0, .fls, .int .u8 0], true⟩),
  (9, ⟨.str, 1, 16, .str [], false⟩),
  (10, ⟨.str, 1, 16, .str [], false⟩),
  (11, ⟨.str, 1, 16, .str [], false⟩),
  (12, ⟨.int .u64, 1, 8, .int .u64 0, false⟩),
  (13, ⟨.strct [(9, 0), (12, 1)], 2, 24, .agg [.str [], .int .u64 0], false⟩),
  (14, ⟨.strct [(9, 0), (12, 1)], 2, 24, .agg [.str [], .int .u64 0], false⟩),
  (15, ⟨.ptr 272, 1, 8, .nilp, false⟩),
  (16, ⟨.ptr 275, 1, 8, .nilp, false⟩),
  (17, ⟨.ptr 283, 1, 8, .nilp, false⟩),
  (18, ⟨.strct [(17, 0)], 1, 8, .agg [.nilp], false⟩),
  (19, ⟨.strct [(17, 0)], 1, 8, .agg [.nilp], false⟩),
  (20, ⟨.ifc, 1, 16, .nili, false⟩),
  (21, ⟨.int .i32, 1, 4, .int .i32 0, false⟩),
  (22, ⟨.sl 9, 1, 24, .nils, false⟩),
  (23, ⟨.sl 5, 1, 24, .nils, false⟩),
  (24, ⟨.strct [(22, 0), (23, 1)], 2, 48, .agg [.nils, .nils], true⟩),
  (25, ⟨.strct [(22, 0), (23, 1)], 2, 48, .agg [.nils, .nils], true⟩),
  (26, ⟨.sl 45, 1, 24, .nils, false⟩),
  (27, ⟨.sl 50, 1, 24, .nils, false⟩),
  (28, ⟨.sl 67, 1, 24, .nils, false⟩),
  (29, ⟨.strct [(25, 0), (26, 2), (27, 3), (28, 4)], 5, 120, .agg [.agg [.nils, .nils], .nils, .nils, .nils], true⟩),
  (30, ⟨.strct [(25, 0), (26, 2), (27, 3), (28, 4)], 5, 120, .agg [.agg [.nils, .nils], .nils, .nils, .nils], true⟩),
  (31, ⟨.fn, 1, 8, .nilf, false⟩),
  (32, ⟨.fn, 1, 8, .nilf, false⟩),
  (33, ⟨.int .i64, 1, 8, .int .i64 0, false⟩),
  (35, ⟨.fn, 1, 8, .nilf, false⟩),
  (36, ⟨.arr 8 4, 8, 8, .arr 8 1 [.fls, .fls, .fls, .fls, .fls, .fls, .fls, .fls], true⟩),
  (37, ⟨.arr 8 36, 64, 64, .arr 8 8 [.arr 8 1 [.fls, .fls, .fls, .fls, .fls, .fls, .fls, .fls], .arr 8 1 [.fls, .fls, .fls, .fls, .fls, .fls, .fls, .fls], .arr 8 1 [.fls, .fls, .fls, .fls, .fls, .fls, .fls, .fls], .arr 8 1 [.fls, .fls, .fls, .fls, .fls, .fls, .fls, .fls], .arr 8 1 [.fls, .fls, .fls, .fls, .fls, .fls, .fls, .fls], .arr 8 1 [.fls, .fls, .fls, .fls, .fls, .fls, .fls, .fls], .arr 8 1 [.fls, .fls, .fls, .fls, .fls, .fls, .fls, .fls], .arr 8 1 [.fls, .fls, .fls, .fls, .fls, .fls, .fls, .fls]], true⟩),
  (38, ⟨.sl 3, 1, 24, .nils, false⟩),
  (40, ⟨.fn, 1, 8, .nilf, false⟩),
  (41, ⟨.fn, 1, 8, .nilf, false⟩),
  (43, ⟨.fn, 1, 8, .nilf, false⟩),
  (44, ⟨.strct [(9, 0), (3, 1)], 2, 24, .agg [.str [], .int .i64 0], true⟩),
  (45, ⟨.strct [(9, 0), (3, 1)], 2, 24, .agg [.str [], .int .i64 0], true⟩),
  (46, ⟨.arr 2 3, 2, 16, .arr 2 1 [.int .i64 0, .int .i64 0], true⟩),
  (47, ⟨.strct [(3, 0), (3, 1), (46, 2), (3, 4)], 5, 40, .agg [.int .i64 0, .int .i64 0, .arr 2 1 [.int .i64 0, .int .i64 0], .int .i64 0], true⟩),
  (48, ⟨.strct [(3, 0), (3, 1), (46, 2), (3, 4)], 5, 40, .agg [.int .i64 0, .int .i64 0, .arr 2 1 [.int .i64 0, .int .i64 0], .int .i64 0], true⟩),
  (49, ⟨.strct [(9, 0), (48, 1)], 6, 56, .agg [.str [], .agg [.int .i64 0, .int .i64 0, .arr 2 1 [.int .i64 0, .int .i64 0], .int .i64 0]], true⟩),
  (50, ⟨.strct [(9, 0), (48, 1)], 6, 56, .agg [.str [], .agg [.int .i64 0, .int .i64 0, .arr 2 1 [.int .i64 0, .int .i64 0], .int .i64 0]], true⟩),
  (51, ⟨.fn, 1, 8, .nilf, false⟩),
  (52, ⟨.fn, 1, 8, .nilf, false⟩),
  (53, ⟨.fn, 1, 8, .nilf, false⟩),
  (55, ⟨.fn, 1, 8, .nilf, false⟩),
  (57, ⟨.fn, 1, 8, .nilf, false⟩),
  (58, ⟨.sl 62, 1, 24, .nils, false⟩),
  (59, ⟨.fn, 1, 8, .nilf, false⟩),
  (60, ⟨.fn, 1, 8, .nilf, false⟩),
  (61, ⟨.strct [(60, 0)], 1, 8, .agg [.nilf], true⟩),
  (62, ⟨.strct [(60, 0)], 1, 8, .agg [.nilf], true⟩),
  (63, ⟨.ptr 30, 1, 8, .nilp, false⟩),
  (64, ⟨.fn, 1, 8, .nilf, false⟩),
  (65, ⟨.ptr 25, 1, 8, .nilp, false⟩),
  (66, ⟨.strct [(3, 0), (3, 1), (3, 2)], 3, 24, .agg [.int .i64 0, .int .i64 0, .int .i64 0], true⟩),
  (67, ⟨.strct [(3, 0), (3, 1), (3, 2)], 3, 24, .agg [.int .i64 0, .int .i64 0, .int .i64 0], true⟩),
  (68, ⟨.fn, 1, 8, .nilf, false⟩),
  (69, ⟨.fn, 1, 8, .nilf, false⟩),
  (70, ⟨.fn, 1, 8, .nilf, false⟩),
  (71, ⟨.fn, 1, 8, .nilf, false⟩),
  (72, ⟨.ptr 74, 1, 8, .nilp, false⟩),
  (73, ⟨.strct [(72, 0), (23, 1)], 2, 32, .agg [.nilp, .nils], true⟩),
  (74, ⟨.strct [(72, 0), (23, 1)], 2, 32, .agg [.nilp, .nils], true⟩),
  (75, ⟨.ifc, 1, 16, .nili, false⟩),
  (76, ⟨.ifc, 1, 16, .nili, false⟩),
  (78, ⟨.fn, 1, 8, .nilf, false⟩),
  (79, ⟨.fn, 1, 8, .nilf, false⟩),
  (80, ⟨.fn, 1, 8, .nilf, false⟩),
  (81, ⟨.fn, 1, 8, .nilf, false⟩),
  (82, ⟨.fn, 1, 8, .nilf, false⟩),
  (83, ⟨.fn, 1, 8, .nilf, false⟩),
  (84, ⟨.fn, 1, 8, .nilf, false⟩),
  (85, ⟨.fn, 1, 8, .nilf, false⟩),
  (86, ⟨.fn, 1, 8, .nilf, false⟩),
  (87, ⟨.strct [(22, 0), (23, 1)], 2, 48, .agg [.nils, .nils], true⟩),
  (88, ⟨.fn, 1, 8, .nilf, false⟩),
  (89, ⟨.ptr 87, 1, 8, .nilp, false⟩),
  (90, ⟨.fn, 1, 8, .nilf, false⟩),
  (91, ⟨.fn, 1, 8, .nilf, false⟩),
  (92, ⟨.fn, 1, 8, .nilf, false⟩),
  (93, ⟨.fn, 1, 8, .nilf, false⟩),
  (94, ⟨.fn, 1, 8, .nilf, false⟩),
  (95, ⟨.ptr 5, 1, 8, .nilp, false⟩),
  (96, ⟨.fn, 1, 8, .nilf, false⟩),
  (97, ⟨.fn, 1, 8, .nilf, false⟩),
  (98, ⟨.arr 8 5, 8, 8, .arr 8 1 [.int .u8 0, .int .u8 0, .int .u8 0, .int .u8 0, .int .u8 0, .int .u8 0, .int .u8 0, .int .u8 0], true⟩),
  (99, ⟨.arr 8 5, 8, 8, .arr 8 1 [.int .u8 0, .int .u8 0, .int .u8 0, .int .u8 0, .int .u8 0, .int .u8 0, .int .u8 0, .int .u8 0], true⟩),
  (100, ⟨.arr 8 5, 8, 8, .arr 8 1 [.int .u8 0, .int .u8 0, .int .u8 0, .int .u8 0, .int .u8 0, .int .u8 0, .int .u8 0, .int .u8 0], true⟩),
  (101, ⟨.strct [(3, 0), (99, 1), (100, 9)], 17, 24, .agg [.int .i64 0, .arr 8 1 [.int .u8 0, .int .u8 0, .int .u8 0, .int .u8 0, .int .u8 0, .int .u8 0, .int .u8 0, .int .u8 0], .arr 8 1 [.int .u8 0, .int .u8 0, .int .u8 0, .int .u8 0, .int .u8 0, .int .u8 0, .int .u8 0, .int .u8 0]], true⟩),
  (102, ⟨.strct [(3, 0), (99, 1), (100, 9)], 17, 24, .agg [.int .i64 0, .arr 8 1 [.int .u8 0, .int .u8 0, .int .u8 0, .int .u8 0, .int .u8 0, .int .u8 0, .int .u8 0, .int .u8 0], .arr 8 1 [.int .u8 0, .int .u8 0, .int .u8 0, .int .u8 0, .int .u8 0, .int .u8 0, .int .u8 0, .int .u8 0]], true⟩),
  (103, ⟨.fn, 1, 8, .nilf, false⟩),
  (104, ⟨.fn, 1, 8, .nilf, false⟩),
  (105, ⟨.fn, 1, 8, .nilf, false⟩),
  (106, ⟨.mp 9 4, 1, 8, .any, false⟩),
  (107, ⟨.mp 9 4, 1, 8, .any, false⟩),
  (108, ⟨.fn, 1, 8, .nilf, false⟩),
  (109, ⟨.fn, 1, 8, .nilf, false⟩),
  (110, ⟨.mp 46 4, 1, 8, .any, false⟩),
  (111, ⟨.sl 3, 1, 24, .nils, false⟩),
  (112, ⟨.fn, 1, 8, .nilf, false⟩),
  (113, ⟨.fn, 1, 8, .nilf, false⟩),
  (114, ⟨.fn, 1, 8, .nilf, false⟩),
  (115, ⟨.fn, 1, 8, .nilf, false⟩),
  (116, ⟨.fn, 1, 8, .nilf, false⟩),
  (118, ⟨.fn, 1, 8, .nilf, false⟩),
  (119, ⟨.fn, 1, 8, .nilf, false⟩),
  (120, ⟨.fn, 1, 8, .nilf, false⟩),
  (121, ⟨.fn, 1, 8, .nilf, false⟩),
  (122, ⟨.fn, 1, 8, .nilf, false⟩),
  (123, ⟨.fn, 1, 8, .nilf, false⟩),
  (124, ⟨.fn, 1, 8, .nilf, false⟩),
  (125, ⟨.fn, 1, 8, .nilf, false⟩),
  (126, ⟨.fn, 1, 8, .nilf, false⟩),
  (127, ⟨.int .u64, 1, 8, .int .u64 0, false⟩),
  (128, ⟨.ifc, 1, 16, .nili, false⟩),
  (129, ⟨.ifc, 1, 16, .nili, false⟩),
  (130, ⟨.fn, 1, 8, .nilf, false⟩),
  (131, ⟨.fn, 1, 8, .nilf, false⟩),
  (133, ⟨.fn, 1, 8, .nilf, false⟩),
  (134, ⟨.fn, 1, 8, .nilf, false⟩),
  (135, ⟨.fn, 1, 8, .nilf, false⟩),
  (136, ⟨.arr 24 5, 24, 24, .arr 24 1 [.int .u8 0, .int .u8 0, .int .u8 0, .int .u8 0, .int .u8 0, .int .u8 0, .int .u8 0, .int .u8 0, .int .u8 0, .int .u8 0, .int .u8 0, .int .u8 0, .int .u8 0, .int .u8 0, .int .u8 0, .int .u8 0, .int .u8 0, .int .u8 0, .int .u8 0, .int .u8 0, .int .u8 0, .int .u8 0, .int .u8 0, .int .u8 0], true⟩),
  (137, ⟨.int .u64, 1, 8, .int .u64 0, false⟩),
  (138, ⟨.fn, 1, 8, .nilf, false⟩),
  (139, ⟨.fn, 1, 8, .nilf, false⟩),
  (141, ⟨.fn, 1, 8, .nilf, false⟩),
  (142, ⟨.fn, 1, 8, .nilf, false⟩),
  (143, ⟨.fn, 1, 8, .nilf, false⟩),
  (144, ⟨.fn, 1, 8, .nilf, false⟩),
  (145, ⟨.strct [(3, 0), (3, 1), (3, 2), (2, 3), (9, 4)], 5, 48, .agg [.int .i64 0, .int .i64 0, .int .i64 0, .int .i64 0, .str []], true⟩),
  (146, ⟨.strct [(3, 0), (3, 1), (3, 2), (2, 3), (9, 4)], 5, 48, .agg [.int .i64 0, .int .i64 0, .int .i64 0, .int .i64 0, .str []], true⟩),
  (147, ⟨.fn, 1, 8, .nilf, false⟩),
  (148, ⟨.fn, 1, 8, .nilf, false⟩),
  (149, ⟨.fn, 1, 8, .nilf, false⟩),
  (150, ⟨.fn, 1, 8, .nilf, false⟩),
  (151, ⟨.int .i64, 1, 8, .int .i64 0, false⟩),
  (153, ⟨.fn, 1, 8, .nilf, false⟩),
  (154, ⟨.fn, 1, 8, .nilf, false⟩),
  (155, ⟨.fn, 1, 8, .nilf, false⟩),
  (157, ⟨.fn, 1, 8, .nilf, false⟩),
  (158, ⟨.fn, 1, 8, .nilf, false⟩),
  (159, ⟨.int .u32, 1, 4, .int .u32 0, false⟩),
  (160, ⟨.fn, 1, 8, .nilf, false⟩),
  (161, ⟨.fn, 1, 8, .nilf, false⟩),
  (162, ⟨.arr 20 137, 20, 160, .arr 20 1 [.int .u64 0, .int .u64 0, .int .u64 0, .int .u64 0, .int .u64 0, .int .u64 0, .int .u64 0, .int .u64 0, .int .u64 0, .int .u64 0, .int .u64 0, .int .u64 0, .int .u64 0, .int .u64 0, .int .u64 0, .int .u64 0, .int .u64 0, .int .u64 0, .int .u64 0, .int .u64 0], true⟩),
  (163, ⟨.arr 65 5, 65, 65, .arr 65 1 [.int .u8 0, .int .u8 0, .int .u8 0, .int .u8 0, .int .u8 0, .int .u8 0, .int .u8 0, .int .u8 0, .int .u8 0, .int .u8 0, .int .u8 0, .int .u8 0, .int .u8 0, .int .u8 0, .int .u8 0, .int .u8 0, .int .u8 0, .int .u8 0, .int .u8 0, .int .u8 0, .int .u8 0, .int .u8 0, .int .u8 0, .int .u8 0, .int .u8 0, .int .u8 0, .int .u8 0, .int .u8 0, .int .u8 0, .int .u8 0, .int .u8 0, .int .u8 0, .int .u8 0, .int .u8 0, .int .u8 0, .int .u8 0, .int .u8 0, .int .u8 0, .int .u8 0, .int .u8 0, .int .u8 0, .int .u8 0, .int .u8 0, .int .u8 0, .int .u8 0, .int .u8 0, .int .u8 0, .int .u8 0, .int .u8 0, .int .u8 0, .int .u8 0, .int .u8 0, .int .u8 0, .int .u8 0, .int .u8 0, .int .u8 0, .int .u8 0, .int .u8 0, .int .u8 0, .int .u8 0, .int .u8 0, .int .u8 0, .int .u8 0, .int .u8 0, .int .u8 0], true⟩),
  (164, ⟨.fn, 1, 8, .nilf, false⟩),
  (165, ⟨.arr 256 4, 256, 256, .arr 256 1 [.fls, .fls, .fls, .fls, .fls, .fls, .fls, .fls, .fls, .fls, .fls, .fls, .fls, .fls, .fls, .fls, .fls, .fls, .fls, .fls, .fls, .fls, .fls, .fls, .fls, .fls, .fls, .fls, .fls, .fls, .fls, .fls, .fls, .fls, .fls, .fls, .fls, .fls, .fls, .fls, .fls, .fls, .fls, .fls, .fls, .fls, .fls, .fls, .fls, .fls, .fls, .fls, .fls, .fls, .fls, .fls, .fls, .fls, .fls, .fls, .fls, .fls, .fls, .fls, .fls, .fls, .fls, .fls, .fls, .fls, .fls, .fls, .fls, .fls, .fls, .fls, .fls, .fls, .fls, .fls, .fls, .fls, .fls, .fls, .fls, .fls, .fls, .fls, .fls, .fls, .fls, .fls, .fls, .fls, .fls, .fls, .fls, .fls, .fls, .fls, .fls, .fls, .fls, .fls, .fls, .fls, .fls, .fls, .fls, .fls, .fls, .fls, .fls, .fls, .fls, .fls, .fls, .fls, .fls, .fls, .fls, .fls, .fls, .fls, .fls, .fls, .fls, .fls, .fls, .fls, .fls, .fls, .fls, .fls, .fls, .fls, .fls, .fls, .fls, .fls, .fls, .fls, .fls, .fls, .fls, .fls, .fls, .fls, .fls, .fls, .fls, .fls, .fls, .fls, .fls, .fls, .fls, .fls, .fls, .fls, .fls, .fls, .fls, .fls, .fls, .fls, .fls, .fls, .fls, .fls, .fls, .fls, .fls, .fls, .fls, .fls, .fls, .fls, .fls, .fls, .fls, .fls, .fls, .fls, .fls, .fls, .fls, .fls, .fls, .fls, .fls, .fls, .fls, .fls, .fls, .fls, .fls, .fls, .fls, .fls, .fls, .fls, .fls, .fls, .fls, .fls, .fls, .fls, .fls, .fls, .fls, .fls, .fls, .fls, .fls, .fls, .fls, .fls, .fls, .fls, .fls, .fls, .fls, .fls, .fls, .fls, .fls, .fls, .fls, .fls, .fls, .fls, .fls, .fls, .fls, .fls, .fls, .fls, .fls, .fls, .fls, .fls, .fls, .fls, .fls, .fls, .fls, .fls, .fls, .fls, .fls, .fls, .fls, .fls, .fls, .fls], true⟩),
  (166, ⟨.arr 256 4, 256, 256, .arr 256 1 [.fls, .fls, .fls, .fls, .fls, .fls, .fls, .fls, .fls, .fls, .fls, .fls, .fls, .fls, .fls, .fls, .fls, .fls, .fls, .fls, .fls, .fls, .fls, .fls, .fls, .fls, .fls, .fls, .fls, .fls, .fls, .fls, .fls, .fls, .fls, .fls, .fls, .fls, .fls, .fls, .fls, .fls, .fls, .fls, .fls, .fls, .fls, .fls, .fls, .fls, .fls, .fls, .fls, .fls, .fls, .fls, .fls, .fls, .fls, .fls, .fls, .fls, .fls, .fls, .fls, .fls, .fls, .fls, .fls, .fls, .fls, .fls, .fls, .fls, .fls, .fls, .fls, .fls, .fls, .fls, .fls, .fls, .fls, .fls, .fls, .fls, .fls, .fls, .fls, .fls, .fls, .fls, .fls, .fls, .fls, .fls, .fls, .fls, .fls, .fls, .fls, .fls, .fls, .fls, .fls, .fls, .fls, .fls, .fls, .fls, .fls, .fls, .fls, .fls, .fls, .fls, .fls, .fls, .fls, .fls, .fls, .fls, .fls, .fls, .fls, .fls, .fls, .fls, .fls, .fls, .fls, .fls, .fls, .fls, .fls, .fls, .fls, .fls, .fls, .fls, .fls, .fls, .fls, .fls, .fls, .fls, .fls, .fls, .fls, .fls, .fls, .fls, .fls, .fls, .fls, .fls, .fls, .fls, .fls, .fls, .fls, .fls, .fls, .fls, .fls, .fls, .fls, .fls, .fls, .fls, .fls, .fls, .fls, .fls, .fls, .fls, .fls, .fls, .fls, .fls, .fls, .fls, .fls, .fls, .fls, .fls, .fls, .fls, .fls, .fls, .fls, .fls, .fls, .fls, .fls, .fls, .fls, .fls, .fls, .fls, .fls, .fls, .fls, .fls, .fls, .fls, .fls, .fls, .fls, .fls, .fls, .fls, .fls, .fls, .fls, .fls, .fls, .fls, .fls, .fls, .fls, .fls, .fls, .fls, .fls, .fls, .fls, .fls, .fls, .fls, .fls, .fls, .fls, .fls, .fls, .fls, .fls, .fls, .fls, .fls, .fls, .fls, .fls, .fls, .fls, .fls, .fls, .fls, .fls, .fls, .fls, .fls, .fls, .fls, .fls, .fls], true⟩),
  (168, ⟨.fn, 1, 8, .nilf, false⟩),
  (169, ⟨.fn, 1, 8, .nilf, false⟩),
  (170, ⟨.ptr 166, 1, 8, .nilp, false⟩),
  (171, ⟨.sl 177, 1, 24, .nils, false⟩),
  (172, ⟨.fn, 1, 8, .nilf, false⟩),
  (173, ⟨.sl 33, 1, 24, .nils, false⟩),
  (174, ⟨.fn, 1, 8, .nilf, false⟩),
  (175, ⟨.fn, 1, 8, .nilf, false⟩),
  (176, ⟨.strct [(9, 0), (22, 1), (173, 2), (174, 3), (175, 4)], 5, 80, .agg [.str [], .nils, .nils, .nilf, .nilf], true⟩),
  (177, ⟨.strct [(9, 0), (22, 1), (173, 2), (174, 3), (175, 4)], 5, 80, .agg [.str [], .nils, .nils, .nilf, .nilf], true⟩),
  (178, ⟨.ptr 180, 1, 8, .nilp, false⟩),
  (179, ⟨.strct [(9, 0), (3, 1)], 2, 24, .agg [.str [], .int .i64 0], true⟩),
  (180, ⟨.strct [(9, 0), (3, 1)], 2, 24, .agg [.str [], .int .i64 0], true⟩),
  (181, ⟨.fn, 1, 8, .nilf, false⟩),
  (182, ⟨.int .u64, 1, 8, .int .u64 0, false⟩),
  (183, ⟨.fn, 1, 8, .nilf, false⟩),
  (184, ⟨.fn, 1, 8, .nilf, false⟩),
  (185, ⟨.fn, 1, 8, .nilf, false⟩),
  (186, ⟨.ptr 3, 1, 8, .nilp, false⟩),
  (187, ⟨.fn, 1, 8, .nilf, false⟩),
  (188, ⟨.arr 256 5, 256, 256, .arr 256 1 [.int .u8 0, .int .u8 0, .int .u8 0, .int .u8 0, .int .u8 0, .int .u8 0, .int .u8 0, .int .u8 0, .int .u8 0, .int .u8 0, .int .u8 0, .int .u8 0, .int .u8 0, .int .u8 0, .int .u8 0, .int .u8 0, .int .u8 0, .int .u8 0, .int .u8 0, .int .u8 0, .int .u8 0, .int .u8 0, .int .u8 0, .int .u8 0, .int .u8 0, .int .u8 0, .int .u8 0, .int .u8 0, .int .u8 0, .int .u8 0, .int .u8 0, .int .u8 0, .int .u8 0, .int .u8 0, .int .u8 0, .int .u8 0, .int .u8 0, .int .u8 0, .int .u8 0, .int .u8 0, .int .u8 0, .int .u8 0, .int .u8 0, .int .u8 0, .int .u8 0, .int .u8 0, .int .u8 0, .int .u8 0, .int .u8 0, .int .u8 0, .int .u8 0, .int .u8 0, .int .u8 0, .int .u8 0, .int .u8 0, .int .u8 0, .int .u8 0, .int .u8 0, .int .u8 0, .int .u8 0, .int .u8 0, .int .u8 0, .int .u8 0, .int .u8 0, .int .u8 0, .int .u8 0, .int .u8 0, .int .u8 0, .int .u8 0, .int .u8 0, .int .u8 0, .int .u8 0, .int .u8 0, .int .u8 0, .int .u8 0, .int .u8 0, .int .u8 0, .int .u8 0, .int .u8 0, .int .u8 0, .int .u8 0, .int .u8 0, .int .u8 0, .int .u8 0, .int .u8 0, .int .u8 0, .int .u8 0, .int .u8 0, .int .u8 0, .int .u8 0, .int .u8 0, .int .u8 0, .int .u8 0, .int .u8 0, .int .u8 0, .int .u8 0, .int .u8 0, .int .u8 0, .int .u8 0, .int .u8 0, .int .u8 0, .int .u8 0, .int .u8 0, .int .u8 0, .int .u8 0, .int .u8 0, .int .u8 0, .int .u8 0, .int .u8 0, .int .u8 0, .int .u8 0, .int .u8 0, .int .u8 0, .int .u8 0, .int .u8 0, .int .u8 0, .int .u8 0, .int .u8 0, .int .u8 0, .int .u8 0, .int .u8 0, .int .u8 0, .int .u8 0, .int .u8 0, .int .u8 0, .int .u8 0, .int .u8 0, .int .u8 0, .int .u8 0, .int .u8 0, .int .u8 0, .int .u8 0, .int .u8 0, .int .u8 0, .int .u8 0, .int .u8 0, .int .u8 0, .int .u8 0, .int .u8 0, .int .u8 0, .int .u8 0, .int .u8 0, .int .u8 0, .int .u8 0, .int .u8 0, .int .u8 0, .int .u8 0, .int .u8 0, .int .u8 0, .int .u8 0, .int .u8 0, .int .u8 0, .int .u8 0, .int .u8 0, .int .u8 0, .int .u8 0, .int .u8 0, .int .u8 0, .int .u8 0, .int .u8 0, .int .u8 0, .int .u8 0, .int .u8 0, .int .u8 0, .int .u8 0, .int .u8 0, .int .u8 0, .int .u8 0, .int .u8 0, .int .u8 0, .int .u8 0, .int .u8 0, .int .u8 0, .int .u8 0, .int .u8 0, .int .u8 0, .int .u8 0, .int .u8 0, .int .u8 0, .int .u8 0, .int .u8 0, .int .u8 0, .int .u8 0, .int .u8 0, .int .u8 0, .int .u8 0, .int .u8 0, .int .u8 0, .int .u8 0, .int .u8 0, .int .u8 0, .int .u8 0, .int .u8 0, .int .u8 0, .int .u8 0, .int .u8 0, .int .u8 0, .int .u8 0, .int .u8 0, .int .u8 0, .int .u8 0, .int .u8 0, .int .u8 0, .int .u8 0, .int .u8 0, .int .u8 0, .int .u8 0, .int .u8 0, .int .u8 0, .int .u8 0, .int .u8 0, .int .u8 0, .int .u8 0, .int .u8 0, .int .u8 0, .int .u8 0, .int .u8 0, .int .u8 0, .int .u8 0, .int .u8 0, .int .u8 0, .int .u8 0, .int .u8 0, .int .u8 0, .int .u8 0, .int .u8 0, .int .u8 0, .int .u8 0, .int .u8 0, .int .u8 0, .int .u8 0, .int .u8 0, .int .u8 0, .int .u8 0, .int .u8 0, .int .u8 0, .int .u8 0, .int .u8 0, .int .u8 0, .int .u8 0, .int .u8 0, .int .u8 0, .int .u8 0, .int .u8 0, .int .u8 0, .int .u8 0, .int .u8 0, .int .u8 0, .int .u8 0, .int .u8 0, .int .u8 0, .int .u8 0, .int .u8 0, .int .u8 0, .int .u8 0, .int .u8 0], true⟩),
  (189, ⟨.strct [(5, 0), (5, 1)], 2, 2, .agg [.int .u8 0, .int .u8 0], true⟩),
  (190, ⟨.strct [(5, 0), (5, 1)], 2, 2, .agg [.int .u8 0, .int .u8 0], true⟩),
  (191, ⟨.arr 16 190, 32, 32, .arr 16 2 [.agg [.int .u8 0, .int .u8 0], .agg [.int .u8 0, .int .u8 0], .agg [.int .u8 0, .int .u8 0], .agg [.int .u8 0, .int .u8 0], .agg [.int .u8 0, .int .u8 0], .agg [.int .u8 0, .int .u8 0], .agg [.int .u8 0, .int .u8 0], .agg [.int .u8 0, .int .u8 0], .agg [.int .u8 0, .int .u8 0], .agg [.int .u8 0, .int .u8 0], .agg [.int .u8 0, .int .u8 0], .agg [.int .u8 0, .int .u8 0], .agg [.int .u8 0, .int .u8 0], .agg [.int .u8 0, .int .u8 0], .agg [.int .u8 0, .int .u8 0], .agg [.int .u8 0, .int .u8 0]], true⟩),
  (193, ⟨.fn, 1, 8, .nilf, false⟩),
  (194, ⟨.fn, 1, 8, .nilf, false⟩),
  (195, ⟨.fn, 1, 8, .nilf, false⟩),
  (196, ⟨.fn, 1, 8, .nilf, false⟩),
  (197, ⟨.fn, 1, 8, .nilf, false⟩),
  (198, ⟨.fn, 1, 8, .nilf, false⟩),
  (199, ⟨.fn, 1, 8, .nilf, false⟩),
  (200, ⟨.ptr 182, 1, 8, .nilp, false⟩),
  (202, ⟨.fn, 1, 8, .nilf, false⟩),
  (203, ⟨.arr 32 5, 32, 32, .arr 32 1 [.int .u8 0, .int .u8 0, .int .u8 0, .int .u8 0, .int .u8 0, .int .u8 0, .int .u8 0, .int .u8 0, .int .u8 0, .int .u8 0, .int .u8 0, .int .u8 0, .int .u8 0, .int .u8 0, .int .u8 0, .int .u8 0, .int .u8 0, .int .u8 0, .int .u8 0, .int .u8 0, .int .u8 0, .int .u8 0, .int .u8 0, .int .u8 0, .int .u8 0, .int .u8 0, .int .u8 0, .int .u8 0, .int .u8 0, .int .u8 0, .int .u8 0, .int .u8 0], true⟩),
  (204, ⟨.arr 64 5, 64, 64, .arr 64 1 [.int .u8 0, .int .u8 0, .int .u8 0, .int .u8 0, .int .u8 0, .int .u8 0, .int .u8 0, .int .u8 0, .int .u8 0, .int .u8 0, .int .u8 0, .int .u8 0, .int .u8 0, .int .u8 0, .int .u8 0, .int .u8 0, .int .u8 0, .int .u8 0, .int .u8 0, .int .u8 0, .int .u8 0, .int .u8 0, .int .u8 0, .int .u8 0, .int .u8 0, .int .u8 0, .int .u8 0, .int .u8 0, .int .u8 0, .int .u8 0, .int .u8 0, .int .u8 0, .int .u8 0, .int .u8 0, .int .u8 0, .int .u8 0, .int .u8 0, .int .u8 0, .int .u8 0, .int .u8 0, .int .u8 0, .int .u8 0, .int .u8 0, .int .u8 0, .int .u8 0, .int .u8 0, .int .u8 0, .int .u8 0, .int .u8 0, .int .u8 0, .int .u8 0, .int .u8 0, .int .u8 0, .int .u8 0, .int .u8 0, .int .u8 0, .int .u8 0, .int .u8 0, .int .u8 0, .int .u8 0, .int .u8 0, .int .u8 0, .int .u8 0, .int .u8 0], true⟩),
  (205, ⟨.fn, 1, 8, .nilf, false⟩),
  (206, ⟨.sl 2, 1, 24, .nils, false⟩),
  (207, ⟨.strct [(3, 0), (3, 1), (46, 2), (206, 4)], 5, 56, .agg [.int .i64 0, .int .i64 0, .arr 2 1 [.int .i64 0, .int .i64 0], .nils], true⟩),
  (208, ⟨.strct [(3, 0), (3, 1), (46, 2), (206, 4)], 5, 56, .agg [.int .i64 0, .int .i64 0, .arr 2 1 [.int .i64 0, .int .i64 0], .nils], true⟩),
  (209, ⟨.fn, 1, 8, .nilf, false⟩),
  (210, ⟨.fn, 1, 8, .nilf, false⟩),
  (211, ⟨.fn, 1, 8, .nilf, false⟩),
  (212, ⟨.fn, 1, 8, .nilf, false⟩),
  (213, ⟨.fn, 1, 8, .nilf, false⟩),
  (214, ⟨.fn, 1, 8, .nilf, false⟩),
  (215, ⟨.fn, 1, 8, .nilf, false⟩),
  (216, ⟨.fn, 1, 8, .nilf, false⟩),
  (217, ⟨.fn, 1, 8, .nilf, false⟩),
  (219, ⟨.fn, 1, 8, .nilf, false⟩),
  (221, ⟨.fn, 1, 8, .nilf, false⟩),
  (222, ⟨.fn, 1, 8, .nilf, false⟩),
  (223, ⟨.fn, 1, 8, .nilf, false⟩),
  (224, ⟨.fn, 1, 8, .nilf, false⟩),
  (225, ⟨.fn, 1, 8, .nilf, false⟩),
  (226, ⟨.sl 206, 1, 24, .nils, false⟩),
  (228, ⟨.fn, 1, 8, .nilf, false⟩),
  (229, ⟨.fn, 1, 8, .nilf, false⟩),
  (230, ⟨.fn, 1, 8, .nilf, false⟩),
  (231, ⟨.fn, 1, 8, .nilf, false⟩),
  (233, ⟨.fn, 1, 8, .nilf, false⟩),
  (234, ⟨.fn, 1, 8, .nilf, false⟩),
  (235, ⟨.fn, 1, 8, .nilf, false⟩),
  (236, ⟨.fn, 1, 8, .nilf, false⟩),
  (237, ⟨.mp 2 2, 1, 8, .any, false⟩),
  (238, ⟨.fn, 1, 8, .nilf, false⟩),
  (239, ⟨.arr 10 9, 10, 160, .arr 10 1 [.str [], .str [], .str [], .str [], .str [], .str [], .str [], .str [], .str [], .str []], true⟩),
  (240, ⟨.fn, 1, 8, .nilf, false⟩),
  (241, ⟨.fn, 1, 8, .nilf, false⟩),
  (242, ⟨.sl 208, 1, 24, .nils, false⟩),
  (243, ⟨.fn, 1, 8, .nilf, false⟩),
  (244, ⟨.fn, 1, 8, .nilf, false⟩),
  (245, ⟨.fn, 1, 8, .nilf, false⟩),
  (247, ⟨.fn, 1, 8, .nilf, false⟩),
  (248, ⟨.fn, 1, 8, .nilf, false⟩),
  (249, ⟨.fn, 1, 8, .nilf, false⟩),
  (250, ⟨.fn, 1, 8, .nilf, false⟩),
  (251, ⟨.fn, 1, 8, .nilf, false⟩),
  (252, ⟨.fn, 1, 8, .nilf, false⟩),
  (253, ⟨.fn, 1, 8, .nilf, false⟩),
  (254, ⟨.fn, 1, 8, .nilf, false⟩),
  (255, ⟨.fn, 1, 8, .nilf, false⟩),
  (256, ⟨.int .i64, 1, 8, .int .i64 0, false⟩),
  (258, ⟨.fn, 1, 8, .nilf, false⟩),
  (259, ⟨.fn, 1, 8, .nilf, false⟩),
  (260, ⟨.fn, 1, 8, .nilf, false⟩),
  (261, ⟨.fn, 1, 8, .nilf, false⟩),
  (262, ⟨.fn, 1, 8, .nilf, false⟩),
  (263, ⟨.fn, 1, 8, .nilf, false⟩),
  (264, ⟨.arr 33 254, 33, 264, .arr 33 1 [.nilf, .nilf, .nilf, .nilf, .nilf, .nilf, .nilf, .nilf, .nilf, .nilf, .nilf, .nilf, .nilf, .nilf, .nilf, .nilf, .nilf, .nilf, .nilf, .nilf, .nilf, .nilf, .nilf, .nilf, .nilf, .nilf, .nilf, .nilf, .nilf, .nilf, .nilf, .nilf, .nilf], true⟩),
  (265, ⟨.fn, 1, 8, .nilf, false⟩),
  (267, ⟨.fn, 1, 8, .nilf, false⟩),
  (268, ⟨.fn, 1, 8, .nilf, false⟩),
  (269, ⟨.fn, 1, 8, .nilf, false⟩),
  (270, ⟨.fn, 1, 8, .nilf, false⟩),
  (271, ⟨.strct [(17, 0), (17, 1), (17, 2), (9, 3)], 4, 40, .agg [.nilp, .nilp, .nilp, .str []], false⟩),
  (272, ⟨.strct [(17, 0), (17, 1), (17, 2), (9, 3)], 4, 40, .agg [.nilp, .nilp, .nilp, .str []], false⟩),
  (273, ⟨.arr 0 16, 0, 0, .arr 0 1 [], true⟩),
  (274, ⟨.strct [(273, 0)], 0, 0, .agg [.arr 0 1 []], false⟩),
  (275, ⟨.strct [(273, 0)], 0, 0, .agg [.arr 0 1 []], false⟩),
  (276, ⟨.fn, 1, 8, .nilf, false⟩),
  (277, ⟨.int .u8, 1, 1, .int .u8 0, false⟩),
  (278, ⟨.int .u8, 1, 1, .int .u8 0, false⟩),
  (279, ⟨.fn, 1, 8, .nilf, false⟩),
  (280, ⟨.int .i32, 1, 4, .int .i32 0, false⟩),
  (281, ⟨.int .i32, 1, 4, .int .i32 0, false⟩),
  (282, ⟨.strct [(12, 0), (12, 1), (159, 2), (277, 3), (5, 4), (5, 5), (278, 6), (279, 7), (95, 8), (280, 9), (281, 10)], 11, 48, .agg [.int .u64 0, .int .u64 0, .int .u32 0, .int .u8 0, .int .u8 0, .int .u8 0, .int .u8 0, .nilf, .nilp, .int .i32 0, .int .i32 0], false⟩),
  (283, ⟨.strct [(12, 0), (12, 1), (159, 2), (277, 3), (5, 4), (5, 5), (278, 6), (279, 7), (95, 8), (280, 9), (281, 10)], 11, 48, .agg [.int .u64 0, .int .u64 0, .int .u32 0, .int .u8 0, .int .u8 0, .int .u8 0, .int .u8 0, .nilf, .nilp, .int .i32 0, .int .i32 0], false⟩)]
set_option maxRecDepth 100000 in
theorem zzz : ttB Tryz.prog tt = true := by kernel_rfl
theorem mixed : Tryz.prog.follows .mixedOrders = true := by kernel_rfl
abbrev F.invigilatorlaw19_awake : Nat := 5
abbrev F.policy_Check : Nat := 6
abbrev F.policy_parts : Nat := 15
abbrev F.policy_Print_1 : Nat := 21
abbrev F._Pstrings_Builder__WriteString : Nat := 22
abbrev F._Pstrings_Builder__String : Nat := 27
abbrev F.lattice_Check : Nat := 29
abbrev F._Pstrings_Builder__WriteByte : Nat := 36
abbrev F._policy_names__meet : Nat := 47
abbrev F.slices_Clone___int_int_ : Nat := 50
abbrev F.slices_SortFunc___int_int_ : Nat := 51
abbrev F.labels_compare : Nat := 53
abbrev F.slices_Compact___int_int_ : Nat := 54
abbrev F.slices_pdqsortCmpFunc_int_ : Nat := 67
abbrev F.math_bits_Len : Nat := 68
abbrev F.slices_insertionSortCmpFunc_int_ : Nat := 85
abbrev F.internal_stringslite_IndexByte : Nat := 96
abbrev F.prims_table : Nat := 111
abbrev F._Plexer_reader__class : Nat := 112
abbrev F._Plexer_reader__while : Nat := 113
abbrev F.prims_errs : Nat := 128
def ft : List (Nat × Func) := [(5, Tryz.f5), (6, Tryz.f6), (9, Tryz.f9), (11, Tryz.f11), (12, Tryz.f12), (13, Tryz.f13), (14, Tryz.f14), (15, Tryz.f15), (16, Tryz.f16), (19, Tryz.f19), (20, Tryz.f20), (21, Tryz.f21), (22, Tryz.f22), (23, Tryz.f23), (24, Tryz.f24), (25, Tryz.f25), (26, Tryz.f26), (28, Tryz.f28), (29, Tryz.f29), (30, Tryz.f30), (31, Tryz.f31), (32, Tryz.f32), (33, Tryz.f33), (35, Tryz.f35), (36, Tryz.f36), (37, Tryz.f37), (39, Tryz.f39), (40, Tryz.f40), (41, Tryz.f41), (42, Tryz.f42), (43, Tryz.f43), (44, Tryz.f44), (45, Tryz.f45), (46, Tryz.f46), (47, Tryz.f47), (48, Tryz.f48), (49, Tryz.f49), (57, Tryz.f57), (58, Tryz.f58), (59, Tryz.f59), (60, Tryz.f60), (61, Tryz.f61), (62, Tryz.f62), (63, Tryz.f63), (64, Tryz.f64), (65, Tryz.f65), (66, Tryz.f66), (68, Tryz.f68), (70, Tryz.f70), (71, Tryz.f71), (73, Tryz.f73), (74, Tryz.f74), (75, Tryz.f75), (76, Tryz.f76), (77, Tryz.f77), (78, Tryz.f78), (79, Tryz.f79), (80, Tryz.f80), (81, Tryz.f81), (82, Tryz.f82), (83, Tryz.f83), (84, Tryz.f84), (93, Tryz.f93), (94, Tryz.f94), (95, Tryz.f95), (96, Tryz.f96), (98, Tryz.f98), (99, Tryz.f99), (100, Tryz.f100), (101, Tryz.f101), (102, Tryz.f102), (103, Tryz.f103), (104, Tryz.f104), (105, Tryz.f105), (106, Tryz.f106), (107, Tryz.f107), (108, Tryz.f108), (109, Tryz.f109), (110, Tryz.f110), (111, Tryz.f111), (112, Tryz.f112), (113, Tryz.f113), (114, Tryz.f114), (115, Tryz.f115), (122, Tryz.f122), (123, Tryz.f123), (124, Tryz.f124), (125, Tryz.f125), (126, Tryz.f126), (127, Tryz.f127), (128, Tryz.f128), (129, Tryz.f129), (130, Tryz.f130), (131, Tryz.f131), (132, Tryz.f132), (133, Tryz.f133), (134, Tryz.f134), (135, Tryz.f135), (136, Tryz.f136), (137, Tryz.f137), (138, Tryz.f138), (139, Tryz.f139), (140, Tryz.f140), (141, Tryz.f141), (142, Tryz.f142), (143, Tryz.f143), (144, Tryz.f144), (145, Tryz.f145), (146, Tryz.f146), (147, Tryz.f147), (148, Tryz.f148), (149, Tryz.f149), (150, Tryz.f150), (152, Tryz.f152), (153, Tryz.f153), (154, Tryz.f154), (155, Tryz.f155), (156, Tryz.f156), (157, Tryz.f157), (158, Tryz.f158), (159, Tryz.f159), (160, Tryz.f160), (161, Tryz.f161), (162, Tryz.f162), (163, Tryz.f163), (164, Tryz.f164), (165, Tryz.f165), (166, Tryz.f166), (167, Tryz.f167), (168, Tryz.f168), (169, Tryz.f169), (170, Tryz.f170), (171, Tryz.f171), (172, Tryz.f172), (173, Tryz.f173), (174, Tryz.f174), (176, Tryz.f176), (177, Tryz.f177), (178, Tryz.f178), (179, Tryz.f179), (180, Tryz.f180), (181, Tryz.f181), (182, Tryz.f182), (183, Tryz.f183), (184, Tryz.f184), (185, Tryz.f185), (186, Tryz.f186), (187, Tryz.f187), (188, Tryz.f188), (189, Tryz.f189), (190, Tryz.f190), (191, Tryz.f191), (192, Tryz.f192), (193, Tryz.f193), (194, Tryz.f194), (195, Tryz.f195), (196, Tryz.f196), (197, Tryz.f197), (198, Tryz.f198), (199, Tryz.f199), (200, Tryz.f200), (201, Tryz.f201), (202, Tryz.f202), (203, Tryz.f203), (204, Tryz.f204), (205, Tryz.f205), (206, Tryz.f206), (207, Tryz.f207), (208, Tryz.f208), (209, Tryz.f209), (210, Tryz.f210), (211, Tryz.f211), (212, Tryz.f212), (213, Tryz.f213), (214, Tryz.f214), (215, Tryz.f215), (216, Tryz.f216), (217, Tryz.f217), (218, Tryz.f218), (219, Tryz.f219), (220, Tryz.f220), (221, Tryz.f221), (222, Tryz.f222), (223, Tryz.f223), (224, Tryz.f224), (225, Tryz.f225), (226, Tryz.f226), (227, Tryz.f227), (228, Tryz.f228), (229, Tryz.f229), (230, Tryz.f230), (231, Tryz.f231), (232, Tryz.f232), (249, Tryz.f249)]
set_option maxRecDepth 100000 in
theorem yc : zc7 Tryz.prog ft := ⟨⟨Tryz.func5, by kernel_rfl⟩, ⟨Tryz.func6, by kernel_rfl⟩, ⟨Tryz.func9, by kernel_rfl⟩, ⟨Tryz.func11, by kernel_rfl⟩, ⟨Tryz.func12, by kernel_rfl⟩, ⟨Tryz.func13, by kernel_rfl⟩, ⟨Tryz.func14, by kernel_rfl⟩, ⟨Tryz.func15, by kernel_rfl⟩, ⟨Tryz.func16, by kernel_rfl⟩, ⟨Tryz.func19, by kernel_rfl⟩, ⟨Tryz.func20, by kernel_rfl⟩, ⟨Tryz.func21, by kernel_rfl⟩, ⟨Tryz.func22, by kernel_rfl⟩, ⟨Tryz.func23, by kernel_rfl⟩, ⟨Tryz.func24, by kernel_rfl⟩, ⟨Tryz.func25, by kernel_rfl⟩, ⟨Tryz.func26, by kernel_rfl⟩, ⟨Tryz.func28, by kernel_rfl⟩, ⟨Tryz.func29, by kernel_rfl⟩, ⟨Tryz.func30, by kernel_rfl⟩, ⟨Tryz.func31, by kernel_rfl⟩, ⟨Tryz.func32, by kernel_rfl⟩, ⟨Tryz.func33, by kernel_rfl⟩, ⟨Tryz.func35, by kernel_rfl⟩, ⟨Tryz.func36, by kernel_rfl⟩, ⟨Tryz.func37, by kernel_rfl⟩, ⟨Tryz.func39, by kernel_rfl⟩, ⟨Tryz.func40, by kernel_rfl⟩, ⟨Tryz.func41, by kernel_rfl⟩, ⟨Tryz.func42, by kernel_rfl⟩, ⟨Tryz.func43, by kernel_rfl⟩, ⟨Tryz.func44, by kernel_rfl⟩, ⟨Tryz.func45, by kernel_rfl⟩, ⟨Tryz.func46, by kernel_rfl⟩, ⟨Tryz.func47, by kernel_rfl⟩, ⟨Tryz.func48, by kernel_rfl⟩, ⟨Tryz.func49, by kernel_rfl⟩, ⟨Tryz.func57, by kernel_rfl⟩, ⟨Tryz.func58, by kernel_rfl⟩, ⟨Tryz.func59, by kernel_rfl⟩, ⟨Tryz.func60, by kernel_rfl⟩, ⟨Tryz.func61, by kernel_rfl⟩, ⟨Tryz.func62, by kernel_rfl⟩, ⟨Tryz.func63, by kernel_rfl⟩, ⟨Tryz.func64, by kernel_rfl⟩, ⟨Tryz.func65, by kernel_rfl⟩, ⟨Tryz.func66, by kernel_rfl⟩, ⟨Tryz.func68, by kernel_rfl⟩, ⟨Tryz.func70, by kernel_rfl⟩, ⟨Tryz.func71, by kernel_rfl⟩, ⟨Tryz.func73, by kernel_rfl⟩, ⟨Tryz.func74, by kernel_rfl⟩, ⟨Tryz.func75, by kernel_rfl⟩, ⟨Tryz.func76, by kernel_rfl⟩, ⟨Tryz.func77, by kernel_rfl⟩, ⟨Tryz.func78, by kernel_rfl⟩, ⟨Tryz.func79, by kernel_rfl⟩, ⟨Tryz.func80, by kernel_rfl⟩, ⟨Tryz.func81, by kernel_rfl⟩, ⟨Tryz.func82, by kernel_rfl⟩, ⟨Tryz.func83, by kernel_rfl⟩, ⟨Tryz.func84, by kernel_rfl⟩, ⟨Tryz.func93, by kernel_rfl⟩, ⟨Tryz.func94, by kernel_rfl⟩, ⟨Tryz.func95, by kernel_rfl⟩, ⟨Tryz.func96, by kernel_rfl⟩, ⟨Tryz.func98, by kernel_rfl⟩, ⟨Tryz.func99, by kernel_rfl⟩, ⟨Tryz.func100, by kernel_rfl⟩, ⟨Tryz.func101, by kernel_rfl⟩, ⟨Tryz.func102, by kernel_rfl⟩, ⟨Tryz.func103, by kernel_rfl⟩, ⟨Tryz.func104, by kernel_rfl⟩, ⟨Tryz.func105, by kernel_rfl⟩, ⟨Tryz.func106, by kernel_rfl⟩, ⟨Tryz.func107, by kernel_rfl⟩, ⟨Tryz.func108, by kernel_rfl⟩, ⟨Tryz.func109, by kernel_rfl⟩, ⟨Tryz.func110, by kernel_rfl⟩, ⟨Tryz.func111, by kernel_rfl⟩, ⟨Tryz.func112, by kernel_rfl⟩, ⟨Tryz.func113, by kernel_rfl⟩, ⟨Tryz.func114, by kernel_rfl⟩, ⟨Tryz.func115, by kernel_rfl⟩, ⟨Tryz.func122, by kernel_rfl⟩, ⟨Tryz.func123, by kernel_rfl⟩, ⟨Tryz.func124, by kernel_rfl⟩, ⟨Tryz.func125, by kernel_rfl⟩, ⟨Tryz.func126, by kernel_rfl⟩, ⟨Tryz.func127, by kernel_rfl⟩, ⟨Tryz.func128, by kernel_rfl⟩, ⟨Tryz.func129, by kernel_rfl⟩, ⟨Tryz.func130, by kernel_rfl⟩, ⟨Tryz.func131, by kernel_rfl⟩, ⟨Tryz.func132, by kernel_rfl⟩, ⟨Tryz.func133, by kernel_rfl⟩, ⟨Tryz.func134, by kernel_rfl⟩, ⟨Tryz.func135, by kernel_rfl⟩, ⟨Tryz.func136, by kernel_rfl⟩, ⟨Tryz.func137, by kernel_rfl⟩, ⟨Tryz.func138, by kernel_rfl⟩, ⟨Tryz.func139, by kernel_rfl⟩, ⟨Tryz.func140, by kernel_rfl⟩, ⟨Tryz.func141, by kernel_rfl⟩, ⟨Tryz.func142, by kernel_rfl⟩, ⟨Tryz.func143, by kernel_rfl⟩, ⟨Tryz.func144, by kernel_rfl⟩, ⟨Tryz.func145, by kernel_rfl⟩, ⟨Tryz.func146, by kernel_rfl⟩, ⟨Tryz.func147, by kernel_rfl⟩, ⟨Tryz.func148, by kernel_rfl⟩, ⟨Tryz.func149, by kernel_rfl⟩, ⟨Tryz.func150, by kernel_rfl⟩, ⟨Tryz.func152, by kernel_rfl⟩, ⟨Tryz.func153, by kernel_rfl⟩, ⟨Tryz.func154, by kernel_rfl⟩, ⟨Tryz.func155, by kernel_rfl⟩, ⟨Tryz.func156, by kernel_rfl⟩, ⟨Tryz.func157, by kernel_rfl⟩, ⟨Tryz.func158, by kernel_rfl⟩, ⟨Tryz.func159, by kernel_rfl⟩, ⟨Tryz.func160, by kernel_rfl⟩, ⟨Tryz.func161, by kernel_rfl⟩, ⟨Tryz.func162, by kernel_rfl⟩, ⟨Tryz.func163, by kernel_rfl⟩, ⟨Tryz.func164, by kernel_rfl⟩, ⟨Tryz.func165, by kernel_rfl⟩, ⟨Tryz.func166, by kernel_rfl⟩, ⟨Tryz.func167, by kernel_rfl⟩, ⟨Tryz.func168, by kernel_rfl⟩, ⟨Tryz.func169, by kernel_rfl⟩, ⟨Tryz.func170, by kernel_rfl⟩, ⟨Tryz.func171, by kernel_rfl⟩, ⟨Tryz.func172, by kernel_rfl⟩, ⟨Tryz.func173, by kernel_rfl⟩, ⟨Tryz.func174, by kernel_rfl⟩, ⟨Tryz.func176, by kernel_rfl⟩, ⟨Tryz.func177, by kernel_rfl⟩, ⟨Tryz.func178, by kernel_rfl⟩, ⟨Tryz.func179, by kernel_rfl⟩, ⟨Tryz.func180, by kernel_rfl⟩, ⟨Tryz.func181, by kernel_rfl⟩, ⟨Tryz.func182, by kernel_rfl⟩, ⟨Tryz.func183, by kernel_rfl⟩, ⟨Tryz.func184, by kernel_rfl⟩, ⟨Tryz.func185, by kernel_rfl⟩, ⟨Tryz.func186, by kernel_rfl⟩, ⟨Tryz.func187, by kernel_rfl⟩, ⟨Tryz.func188, by kernel_rfl⟩, ⟨Tryz.func189, by kernel_rfl⟩, ⟨Tryz.func190, by kernel_rfl⟩, ⟨Tryz.func191, by kernel_rfl⟩, ⟨Tryz.func192, by kernel_rfl⟩, ⟨Tryz.func193, by kernel_rfl⟩, ⟨Tryz.func194, by kernel_rfl⟩, ⟨Tryz.func195, by kernel_rfl⟩, ⟨Tryz.func196, by kernel_rfl⟩, ⟨Tryz.func197, by kernel_rfl⟩, ⟨Tryz.func198, by kernel_rfl⟩, ⟨Tryz.func199, by kernel_rfl⟩, ⟨Tryz.func200, by kernel_rfl⟩, ⟨Tryz.func201, by kernel_rfl⟩, ⟨Tryz.func202, by kernel_rfl⟩, ⟨Tryz.func203, by kernel_rfl⟩, ⟨Tryz.func204, by kernel_rfl⟩, ⟨Tryz.func205, by kernel_rfl⟩, ⟨Tryz.func206, by kernel_rfl⟩, ⟨Tryz.func207, by kernel_rfl⟩, ⟨Tryz.func208, by kernel_rfl⟩, ⟨Tryz.func209, by kernel_rfl⟩, ⟨Tryz.func210, by kernel_rfl⟩, ⟨Tryz.func211, by kernel_rfl⟩, ⟨Tryz.func212, by kernel_rfl⟩, ⟨Tryz.func213, by kernel_rfl⟩, ⟨Tryz.func214, by kernel_rfl⟩, ⟨Tryz.func215, by kernel_rfl⟩, ⟨Tryz.func216, by kernel_rfl⟩, ⟨Tryz.func217, by kernel_rfl⟩, ⟨Tryz.func218, by kernel_rfl⟩, ⟨Tryz.func219, by kernel_rfl⟩, ⟨Tryz.func220, by kernel_rfl⟩, ⟨Tryz.func221, by kernel_rfl⟩, ⟨Tryz.func222, by kernel_rfl⟩, ⟨Tryz.func223, by kernel_rfl⟩, ⟨Tryz.func224, by kernel_rfl⟩, ⟨Tryz.func225, by kernel_rfl⟩, ⟨Tryz.func226, by kernel_rfl⟩, ⟨Tryz.func227, by kernel_rfl⟩, ⟨Tryz.func228, by kernel_rfl⟩, ⟨Tryz.func229, by kernel_rfl⟩, ⟨Tryz.func230, by kernel_rfl⟩, ⟨Tryz.func231, by kernel_rfl⟩, ⟨Tryz.func232, by kernel_rfl⟩, ⟨Tryz.func249, by kernel_rfl⟩, trivial⟩
open Go.RowKit (Below)
def gl : List (Nat × SV) := [(4, .sl 1 [.str [105, 110, 105, 110], .str [105, 48, 105, 110, 105, 110], .str [105, 110, 105, 48, 105, 110], .str [105, 110, 105, 110, 105, 110]]), (5, .sl 1 [.str [107, 48, 107, 110, 105, 110], .str [107, 110, 107, 48, 105, 110], .str [107, 110, 107, 110, 105, 110]])]
theorem zwb (w : World) (u : Value) : Calls Tryz.prog F.prims_errs #[u] w fun e w' => e = .returned u /\ Below w.heap.size w w' := by
  refine calls_of_wp Tryz.func128 rfl ?_
  have e0 : (#[u] ++ Array.replicate (Tryz.f128.ntmps - #[u].size) undef) = #[u, undef, undef, undef] := by
    simp [Tryz.f128, Array.replicate]
  rw [e0]
  refine wp_seq (wp_region ?_)
  simp [wpOps, Region.wanted, Oper.wp, execOp, Oper.upon_value, Act.put, Act.eval, Exit.then, List.range, List.range.loop]
  refine .inl (wp_seq (wp_region ?_))
  simp [wpOps, Region.wanted, Oper.wp, execOp, Oper.upon_value, Act.put, Act.eval, Exit.then, List.range, List.range.loop]
  refine .inl (.inl (wp_ret ?_))
  refine ⟨rfl, u, ?_, rfl, Below.refl _ _⟩
  simp [results, Tryz.f128]
def E : Env := { P := Tryz.prog, tt := tt, gl := gl, lend := [F._Plexer_reader__class, F._Plexer_reader__while, F._policy_names__meet, F._Pstrings_Builder__WriteString, F._Pstrings_Builder__WriteByte, F._Pstrings_Builder__String, F.policy_Print_1, F.slices_SortFunc___int_int_, F.slices_pdqsortCmpFunc_int_, F.slices_insertionSortCmpFunc_int_, F.slices_Compact___int_int_, F.slices_Clone___int_int_, F.labels_compare], idf := [F.prims_errs], mt := [(111, "invigilator/labels.less", 249)], bts := [74] }
theorem zAb : ∀ f, qA f [F.prims_errs] = true -> qs Tryz.prog f /\ ∀ (w : World) (u : Value), Calls Tryz.prog f #[u] w fun e w' => e = .returned u /\ Below w.heap.size w w' := by
  intro f hf
  have : f = F.prims_errs := by simpa using memb_mem.1 hf
  subst this
  exact ⟨⟨_, Tryz.func128, rfl, by decide +kernel⟩, zwb⟩
set_option maxRecDepth 100000 in
theorem zw0 (w : World) (v : Value) : (method (E.P.types.size + Made.depth) 111 v "invigilator/labels.less").run E.P w = .ok (249, v) w := by kernel_rfl
theorem zzu : ∀ T name f, lkM E.mt T name = some f -> ∀ (w : World) (v : Value), (method (E.P.types.size + Made.depth) T v name).run E.P w = .ok (f, v) w := by
  intro T name f h w v
  have e : E.mt = [(111, "invigilator/labels.less", 249)] := rfl
  rw [e] at h
  unfold lkM at h
  split at h
  . rename_i h1 h2
    cases h
    have := zh h1; subst this
    have e2 : name = "invigilator/labels.less" := (of_decide_eq_true h2).symm
    subst e2
    exact zw0 w v
  . unfold lkM at h; cases h
theorem ok : EnvOK E := have h := zt9 (gl := gl) (ld := []) zzz mixed zAb; ⟨h.tt', h.mixed, h.idf, zzu⟩
end Go.Sx.Tz
end
namespace Go.Sx.Tz
open Go.Proofs Go.Shelf
def ren : Go.Shelf.Ren := ⟨fun | 138 => 58 | 143 => 59 | 146 => 24 | 156 => 23 | 165 => 38 | 166 => 22 | 167 => 36 | 169 => 27 | 195 => 70 | 197 => 71 | 217 => 96 | 218 => 72 | 219 => 73 | 221 => 39 | 224 => 98 | 225 => 97 | 240 => 37 | 241 => 56 | 260 => 95 | 266 => 121 | 267 => 99 | 268 => 57 | 276 => 55 | 277 => 69 | 314 => 122 | n => n, fun | 0 => 0 | 3 => 3 | 4 => 4 | 5 => 5 | 9 => 9 | 20 => 20 | 21 => 21 | 31 => 22 | 37 => 23 | 46 => 127 | 51 => 159 | 70 => 72 | 72 => 74 | 75 => 76 | 76 => 77 | 80 => 84 | 105 => 132 | 119 => 188 | 127 => 95 | 138 => 190 | 139 => 191 | 146 => 192 | 164 => 117 | n => n, fun | 1 => 0 | 3 => 2 | 4 => 3 | n => n⟩
theorem zv3 : Lays.n166 Tryz.prog ren := {
  mixed := by kernel_rfl
  f166 := Tryz.func22.trans (congrArg some (by kernel_rfl))
  f240 := Tryz.func37.trans (congrArg some (by kernel_rfl))
  f276 := Tryz.func55.trans (congrArg some (by kernel_rfl))
  t0 := Tryz.underlying0
  a0 := Tryz.isAgg0
  z0 := Tryz.sizeOf0
  v0 := Tryz.zeroValue0
  t3 := Tryz.underlying3
  a3 := Tryz.isAgg3
  z3 := Tryz.sizeOf3
  v3 := Tryz.zeroValue3
  t4 := Tryz.underlying4
  a4 := Tryz.isAgg4
  z4 := Tryz.sizeOf4
  v4 := Tryz.zeroValue4
  t9 := Tryz.underlying9
  a9 := Tryz.isAgg9
  z9 := Tryz.sizeOf9
  v9 := Tryz.zeroValue9
  t20 := Tryz.underlying20
  a20 := Tryz.isAgg20
  z20 := Tryz.sizeOf20
  v20 := Tryz.zeroValue20
  t37 := Tryz.underlying23
  a37 := Tryz.isAgg23
  z37 := Tryz.sizeOf23
  v37 := Tryz.zeroValue23
  t70 := Tryz.underlying72
  a70 := Tryz.isAgg72
  z70 := Tryz.sizeOf72
  v70 := Tryz.zeroValue72
  t72 := Tryz.underlying74
  a72 := Tryz.isAgg74
  z72 := Tryz.sizeOf74
  v72 := Tryz.zeroValue74
  t75 := Tryz.underlying76
  a75 := Tryz.isAgg76
  z75 := Tryz.sizeOf76
  v75 := Tryz.zeroValue76
  t164 := Tryz.underlying117
  a164 := Tryz.isAgg117
  z164 := Tryz.sizeOf117
  v164 := Tryz.zeroValue117 }
theorem zwv : Lays.n167 Tryz.prog ren := {
  mixed := by kernel_rfl
  f167 := Tryz.func36.trans (congrArg some (by kernel_rfl))
  f240 := Tryz.func37.trans (congrArg some (by kernel_rfl))
  f276 := Tryz.func55.trans (congrArg some (by kernel_rfl))
  t0 := Tryz.underlying0
  a0 := Tryz.isAgg0
  z0 := Tryz.sizeOf0
  v0 := Tryz.zeroValue0
  t4 := Tryz.underlying4
  a4 := Tryz.isAgg4
  z4 := Tryz.sizeOf4
  v4 := Tryz.zeroValue4
  t5 := Tryz.underlying5
  a5 := Tryz.isAgg5
  z5 := Tryz.sizeOf5
  v5 := Tryz.zeroValue5
  t9 := Tryz.underlying9
  a9 := Tryz.isAgg9
  z9 := Tryz.sizeOf9
  v9 := Tryz.zeroValue9
  t20 := Tryz.underlying20
  a20 := Tryz.isAgg20
  z20 := Tryz.sizeOf20
  v20 := Tryz.zeroValue20
  t37 := Tryz.underlying23
  a37 := Tryz.isAgg23
  z37 := Tryz.sizeOf23
  v37 := Tryz.zeroValue23
  t70 := Tryz.underlying72
  a70 := Tryz.isAgg72
  z70 := Tryz.sizeOf72
  v70 := Tryz.zeroValue72
  t72 := Tryz.underlying74
  a72 := Tryz.isAgg74
  z72 := Tryz.sizeOf74
  v72 := Tryz.zeroValue74
  t75 := Tryz.underlying76
  a75 := Tryz.isAgg76
  z75 := Tryz.sizeOf76
  v75 := Tryz.zeroValue76
  t164 := Tryz.underlying117
  a164 := Tryz.isAgg117
  z164 := Tryz.sizeOf117
  v164 := Tryz.zeroValue117 }
theorem zv6 : Lays.n169 Tryz.prog ren := {
  mixed := by kernel_rfl
  f169 := Tryz.func27.trans (congrArg some (by kernel_rfl))
  t0 := Tryz.underlying0
  a0 := Tryz.isAgg0
  z0 := Tryz.sizeOf0
  v0 := Tryz.zeroValue0
  t3 := Tryz.underlying3
  a3 := Tryz.isAgg3
  z3 := Tryz.sizeOf3
  v3 := Tryz.zeroValue3
  t9 := Tryz.underlying9
  a9 := Tryz.isAgg9
  z9 := Tryz.sizeOf9
  v9 := Tryz.zeroValue9
  t37 := Tryz.underlying23
  a37 := Tryz.isAgg23
  z37 := Tryz.sizeOf23
  v37 := Tryz.zeroValue23
  t70 := Tryz.underlying72
  a70 := Tryz.isAgg72
  z70 := Tryz.sizeOf72
  v70 := Tryz.zeroValue72
  t72 := Tryz.underlying74
  a72 := Tryz.isAgg74
  z72 := Tryz.sizeOf74
  v72 := Tryz.zeroValue74
  t127 := Tryz.underlying95
  a127 := Tryz.isAgg95
  z127 := Tryz.sizeOf95
  v127 := Tryz.zeroValue95 }
theorem zvy : Lays.n146 Tryz.prog ren := {
  mixed := by kernel_rfl
  f138 := Tryz.func58.trans (congrArg some (by kernel_rfl))
  f143 := Tryz.func59.trans (congrArg some (by kernel_rfl))
  f146 := Tryz.func24.trans (congrArg some (by kernel_rfl))
  f195 := Tryz.func70.trans (congrArg some (by kernel_rfl))
  f197 := Tryz.func71.trans (congrArg some (by kernel_rfl))
  f217 := Tryz.func96.trans (congrArg some (by kernel_rfl))
  f218 := Tryz.func72.trans (congrArg some (by kernel_rfl))
  f219 := Tryz.func73.trans (congrArg some (by kernel_rfl))
  f221 := Tryz.func39.trans (congrArg some (by kernel_rfl))
  f224 := Tryz.func98.trans (congrArg some (by kernel_rfl))
  f225 := Tryz.func97.trans (congrArg some (by kernel_rfl))
  f260 := Tryz.func95.trans (congrArg some (by kernel_rfl))
  f266 := Tryz.func121.trans (congrArg some (by kernel_rfl))
  f267 := Tryz.func99.trans (congrArg some (by kernel_rfl))
  f268 := Tryz.func57.trans (congrArg some (by kernel_rfl))
  f314 := Tryz.func122.trans (congrArg some (by kernel_rfl))
  t0 := Tryz.underlying0
  a0 := Tryz.isAgg0
  z0 := Tryz.sizeOf0
  v0 := Tryz.zeroValue0
  t3 := Tryz.underlying3
  a3 := Tryz.isAgg3
  z3 := Tryz.sizeOf3
  v3 := Tryz.zeroValue3
  t4 := Tryz.underlying4
  a4 := Tryz.isAgg4
  z4 := Tryz.sizeOf4
  v4 := Tryz.zeroValue4
  t5 := Tryz.underlying5
  a5 := Tryz.isAgg5
  z5 := Tryz.sizeOf5
  v5 := Tryz.zeroValue5
  t9 := Tryz.underlying9
  a9 := Tryz.isAgg9
  z9 := Tryz.sizeOf9
  v9 := Tryz.zeroValue9
  t21 := Tryz.underlying21
  a21 := Tryz.isAgg21
  z21 := Tryz.sizeOf21
  v21 := Tryz.zeroValue21
  t31 := Tryz.underlying22
  a31 := Tryz.isAgg22
  z31 := Tryz.sizeOf22
  v31 := Tryz.zeroValue22
  t46 := Tryz.underlying127
  a46 := Tryz.isAgg127
  z46 := Tryz.sizeOf127
  v46 := Tryz.zeroValue127
  t51 := Tryz.underlying159
  a51 := Tryz.isAgg159
  z51 := Tryz.sizeOf159
  v51 := Tryz.zeroValue159
  t105 := Tryz.underlying132
  a105 := Tryz.isAgg132
  z105 := Tryz.sizeOf132
  v105 := Tryz.zeroValue132
  t119 := Tryz.underlying188
  a119 := Tryz.isAgg188
  z119 := Tryz.sizeOf188
  t138 := Tryz.underlying190
  a138 := Tryz.isAgg190
  z138 := Tryz.sizeOf190
  v138 := Tryz.zeroValue190
  t139 := Tryz.underlying191
  a139 := Tryz.isAgg191
  z139 := Tryz.sizeOf191
  v139 := Tryz.zeroValue191
  t146 := Tryz.underlying192
  a146 := Tryz.isAgg192
  z146 := Tryz.sizeOf192
  v146 := Tryz.zeroValue192
  g1 := by kernel_rfl
  g3 := by kernel_rfl
  g4 := by kernel_rfl }
theorem zv4 : Lays.n156 Tryz.prog ren := {
  mixed := by kernel_rfl
  f156 := Tryz.func23.trans (congrArg some (by kernel_rfl))
  f165 := Tryz.func38.trans (congrArg some (by kernel_rfl))
  f166 := Tryz.func22.trans (congrArg some (by kernel_rfl))
  f169 := Tryz.func27.trans (congrArg some (by kernel_rfl))
  f240 := Tryz.func37.trans (congrArg some (by kernel_rfl))
  f241 := Tryz.func56.trans (congrArg some (by kernel_rfl))
  f276 := Tryz.func55.trans (congrArg some (by kernel_rfl))
  f277 := Tryz.func69.trans (congrArg some (by kernel_rfl))
  t0 := Tryz.underlying0
  a0 := Tryz.isAgg0
  z0 := Tryz.sizeOf0
  v0 := Tryz.zeroValue0
  t3 := Tryz.underlying3
  a3 := Tryz.isAgg3
  z3 := Tryz.sizeOf3
  v3 := Tryz.zeroValue3
  t4 := Tryz.underlying4
  a4 := Tryz.isAgg4
  z4 := Tryz.sizeOf4
  v4 := Tryz.zeroValue4
  t9 := Tryz.underlying9
  a9 := Tryz.isAgg9
  z9 := Tryz.sizeOf9
  v9 := Tryz.zeroValue9
  t20 := Tryz.underlying20
  a20 := Tryz.isAgg20
  z20 := Tryz.sizeOf20
  v20 := Tryz.zeroValue20
  t31 := Tryz.underlying22
  a31 := Tryz.isAgg22
  z31 := Tryz.sizeOf22
  v31 := Tryz.zeroValue22
  t37 := Tryz.underlying23
  a37 := Tryz.isAgg23
  z37 := Tryz.sizeOf23
  v37 := Tryz.zeroValue23
  t70 := Tryz.underlying72
  a70 := Tryz.isAgg72
  z70 := Tryz.sizeOf72
  v70 := Tryz.zeroValue72
  t72 := Tryz.underlying74
  a72 := Tryz.isAgg74
  z72 := Tryz.sizeOf74
  v72 := Tryz.zeroValue74
  t75 := Tryz.underlying76
  a75 := Tryz.isAgg76
  z75 := Tryz.sizeOf76
  v75 := Tryz.zeroValue76
  t76 := Tryz.underlying77
  a76 := Tryz.isAgg77
  z76 := Tryz.sizeOf77
  v76 := Tryz.zeroValue77
  t127 := Tryz.underlying95
  a127 := Tryz.isAgg95
  z127 := Tryz.sizeOf95
  v127 := Tryz.zeroValue95
  t164 := Tryz.underlying117
  a164 := Tryz.isAgg117
  z164 := Tryz.sizeOf117
  v164 := Tryz.zeroValue117 }
theorem zf8 : Builder.Extra Tryz.prog ren := {
  sizeBuilder := by kernel_rfl
  liesBuilder := by kernel_rfl
  t5 := Tryz.underlying5
  a5 := Tryz.isAgg5
  z5 := Tryz.sizeOf5
  v5 := Tryz.zeroValue5
  infoByte := by kernel_rfl
  cellsByte := by kernel_rfl
  sizeByte := by kernel_rfl
  neB5 := by decide }
theorem hi9 : (E.P.info? (ren.t 9)).map (fun i => (i.zero, i.size, i.bytes)) = some (some (.string ByteArray.empty), 1, 16) := by kernel_rfl
def hk : Hk := ⟨[(23, zjn), (24, zfx)], [(22, wrS 74 5), (36, wrB 74 5), (27, stS 74 5)]⟩
set_option maxRecDepth 100000
theorem zAh : qs E.P 22 := ⟨_, Tryz.func22, rfl, by decide +kernel⟩
theorem zAs : qs E.P 23 := ⟨_, Tryz.func23, rfl, by decide +kernel⟩
theorem zz6 : qs E.P 24 := ⟨_, Tryz.func24, rfl, by decide +kernel⟩
theorem zAr : qs E.P 27 := ⟨_, Tryz.func27, rfl, by decide +kernel⟩
theorem zBd : qs E.P 36 := ⟨_, Tryz.func36, rfl, by decide +kernel⟩
theorem h23 : ∀ az r, zjn az = some r -> Ret E 23 az r := fun _ _ h => zs7 (E := E) (ρ := ren) zv4 zf8 zAs h
theorem h24 : ∀ az r, zfx az = some r -> Ret E 24 az r := fun _ _ h => zr0 (E := E) (ρ := ren) zvy hi9 zz6 h
theorem h22 : zbh E 22 (wrS 74 5) := zyb (E := E) (ρ := ren) zv3 zf8 (by decide) zAh
theorem h36 : zbh E 36 (wrB 74 5) := zys (E := E) (ρ := ren) zwv zf8 (by decide) zBd
theorem h27 : zbh E 27 (stS 74 5) := zyk (E := E) (ρ := ren) zv6 zf8 zAr
theorem hk_ok : HkOK E hk := ⟨za9 h23 (za9 h24 zv1), zfu h22 (zfu h36 (zfu h27 zwo))⟩
open Go.Shelf in
def renC : Go.Shelf.Ren := ⟨fun | 15 => 50 | n => n, fun | 22 => 38 | n => n, fun n => n⟩
set_option maxRecDepth 100000 in
theorem zxh : Lays2.n15 Tryz.prog renC := {
  mixed := by kernel_rfl
  f15 := Tryz.func50.trans (congrArg some (by kernel_rfl))
  t3 := Tryz.underlying3
  a3 := Tryz.isAgg3
  z3 := Tryz.sizeOf3
  v3 := Tryz.zeroValue3
  t4 := Tryz.underlying4
  a4 := Tryz.isAgg4
  z4 := Tryz.sizeOf4
  v4 := Tryz.zeroValue4
  t22 := Tryz.underlying38
  a22 := Tryz.isAgg38
  z22 := Tryz.sizeOf38
  v22 := Tryz.zeroValue38
  i3 := by kernel_rfl }
theorem uo {xs : List SV} {sl : Slots} {h : Heap} {n : Nat} {K : SV -> Slots -> Heap -> Nat -> Prop} (hK : zM (xs.length <= 100000) (K (.osl n 1) sl ((n, .row true 1 xs) :: h) (n + 1))) :
    qv E F.slices_Clone___int_int_ [.sl 1 xs] sl h n K := zri (E := E) (zta (ρ := renC) zxh ⟨Tryz.f50, Tryz.func50, rfl, by kernel_rfl⟩) hK
end Go.Sx.Tz
noncomputable section
namespace Go.Sx.Tz
set_option maxRecDepth 100000
def ym : List SV := [.agg [.sl 1 [.str [108, 111, 119], .str [97, 110, 110], .str [98, 111, 98], .str [116, 111, 112]], .sl 1 [.int .u8 15, .int .u8 10, .int .u8 12, .int .u8 8]]]
def C_lattice_Check_1 : SV := .tup [.int .i64 0, .int .i64 0]
set_option maxRecDepth 100000 in
theorem zea : Ret E F.lattice_Check ym C_lattice_Check_1 := qp ok yc HkOK.no (show qN E ft Hk.no 1000 60 (.ret F.lattice_Check ym) = some C_lattice_Check_1 by kernel_rfl)
def zAo : List (Nat × Func) := wx [F.lattice_Check] ft
def hkM1 : Hk := ⟨(F.lattice_Check, zde [(ym, C_lattice_Check_1)]) :: hk.x, hk.s⟩
theorem hkM1_ok : HkOK E hkM1 := ⟨za9 (fun az r h => zb2 (l := [(ym, C_lattice_Check_1)]) ⟨zea, trivial⟩ az r h) hk_ok.x, hk_ok.s⟩
def yE : List SV := [.agg [.agg [.sl 1 [.str [108, 111, 119], .str [97, 110, 110], .str [98, 111, 98], .str [116, 111, 112]], .sl 1 [.int .u8 15, .int .u8 10, .int .u8 12, .int .u8 8]], .sl 2 [.agg [.str [98, 111, 97, 114, 100], .int .i64 0]], .sl 6 [.agg [.str [109, 97, 114, 107, 115], .agg [.int .i64 1, .int .i64 1, .arr 2 1 [.int .i64 0, .int .i64 0], .int .i64 3]], .agg [.str [110, 97, 109, 101, 115], .agg [.int .i64 2, .int .i64 1, .arr 2 1 [.int .i64 1, .int .i64 0], .int .i64 3]]], .sl 3 [.agg [.int .i64 3, .int .i64 1, .int .i64 5]]]]
def C_policy_Check_1 : SV := .tup [.int .i64 0, .int .i64 0, .int .i64 0]
set_option maxRecDepth 100000 in
theorem ze8 : Ret E F.policy_Check yE C_policy_Check_1 := qp ok (jX yc) hkM1_ok (show qN E zAo hkM1 1000 60 (.ret F.policy_Check yE) = some C_policy_Check_1 by kernel_rfl)
def ftB : List (Nat × Func) := wx [22, 23, 24, 27, 36, F.lattice_Check, F.policy_Check] ft
def hkM2 : Hk := ⟨(F.policy_Check, zde [(yE, C_policy_Check_1)]) :: hkM1.x, hk.s⟩
theorem zw9 : HkOK E hkM2 := ⟨za9 (fun az r h => zb2 (l := [(yE, C_policy_Check_1)]) ⟨ze8, trivial⟩ az r h) hkM1_ok.x, hk_ok.s⟩
def V_invigilatorlaw19_awake : SV := .bool true
set_option maxRecDepth 100000 in
theorem L_invigilatorlaw19_awake : Ret E F.invigilatorlaw19_awake [] V_invigilatorlaw19_awake := qp ok (jX yc) zw9 (show qN E ftB hkM2 1000 60 (.ret F.invigilatorlaw19_awake []) = some V_invigilatorlaw19_awake by kernel_rfl)
end Go.Sx.Tz
end
