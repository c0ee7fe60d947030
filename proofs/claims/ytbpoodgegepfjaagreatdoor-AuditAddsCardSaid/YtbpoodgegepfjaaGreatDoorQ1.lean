/-
  An own text of this claim.
-/
import Derived.Test.YtbpoodgegepfjaaGreatDoorP2
import Derived.Test.YtbpoodgegepfjaaGreatDoorProg
noncomputable section
namespace Go.Sx.Tz
open Go.Proofs
def tt : List (Nat × TI) := [(1, ⟨.fn, 1, 8, .nilf, false⟩),
  (2, ⟨.int .i64, 1, 8, .int .i64 0, false⟩),
  (3, ⟨.int .i64, 1, 8, .int .i64 0, false⟩),
  (4, ⟨.bool, 1, 1, .fls, false⟩),
  (5, ⟨.int .u8, 1, 1, .int .u8 0, false⟩),
  (6, ⟨.int .u8, 1, 1, .int .u8 0, false⟩),
  (7, ⟨.strct [(2, 0), (3, 1), (4, 2), (6, 3)], 4, 24, .agg [.int .i64 0, .int .i64 0, .fls, .int .u8 0], true⟩),
  (8, ⟨.strct [(2, 0), (3, 1), (4, 2), (6, 3)], 4, 24, .agg [.int .i64 0, .int .i64 0, .fls, .int .u8 0], true⟩),
  (9, ⟨.str, 1, 16, .str [], false⟩),
  (10, ⟨.str, 1, 16, .str [], false⟩),
  (11, ⟨.str, 1, 16, .str [], false⟩),
  (12, ⟨.int .u64, 1, 8, .int .u64 0, false⟩),
  (13, ⟨.strct [(9, 0), (12, 1)], 2, 24, .agg [.str [], .int .u64 0], false⟩),
  (14, ⟨.strct [(9, 0), (12, 1)], 2, 24, .agg [.str [], .int .u64 0], false⟩),
  (15, ⟨.ptr 285, 1, 8, .nilp, false⟩),
  (16, ⟨.ptr 288, 1, 8, .nilp, false⟩),
  (17, ⟨.ptr 296, 1, 8, .nilp, false⟩),
  (18, ⟨.strct [(17, 0)], 1, 8, .agg [.nilp], false⟩),
  (19, ⟨.strct [(17, 0)], 1, 8, .agg [.nilp], false⟩),
  (20, ⟨.ifc, 1, 16, .nili, false⟩),
  (21, ⟨.int .i32, 1, 4, .int .i32 0, false⟩),
  (22, ⟨.sl 9, 1, 24, .nils, false⟩),
  (23, ⟨.sl 5, 1, 24, .nils, false⟩),
  (24, ⟨.strct [(22, 0), (23, 1)], 2, 48, .agg [.nils, .nils], true⟩),
  (25, ⟨.strct [(22, 0), (23, 1)], 2, 48, .agg [.nils, .nils], true⟩),
  (26, ⟨.sl 47, 1, 24, .nils, false⟩),
  (27, ⟨.sl 51, 1, 24, .nils, false⟩),
  (28, ⟨.sl 78, 1, 24, .nils, false⟩),
  (29, ⟨.strct [(25, 0), (26, 2), (27, 3), (28, 4)], 5, 120, .agg [.agg [.nils, .nils], .nils, .nils, .nils], true⟩),
  (30, ⟨.strct [(25, 0), (26, 2), (27, 3), (28, 4)], 5, 120, .agg [.agg [.nils, .nils], .nils, .nils, .nils], true⟩),
  (31, ⟨.sl 65, 1, 24, .nils, false⟩),
  (32, ⟨.fn, 1, 8, .nilf, false⟩),
  (33, ⟨.fn, 1, 8, .nilf, false⟩),
  (34, ⟨.sl 40, 1, 24, .nils, false⟩),
  (35, ⟨.int .i64, 1, 8, .int .i64 0, false⟩),
  (37, ⟨.fn, 1, 8, .nilf, false⟩),
  (38, ⟨.arr 2 3, 2, 16, .arr 2 1 [.int .i64 0, .int .i64 0], true⟩),
  (39, ⟨.strct [(3, 0), (3, 1), (3, 2), (3, 3), (3, 4)], 5, 40, .agg [.int .i64 0, .int .i64 0, .int .i64 0, .int .i64 0, .int .i64 0], true⟩),
  (40, ⟨.strct [(3, 0), (3, 1), (3, 2), (3, 3), (3, 4)], 5, 40, .agg [.int .i64 0, .int .i64 0, .int .i64 0, .int .i64 0, .int .i64 0], true⟩),
  (42, ⟨.fn, 1, 8, .nilf, false⟩),
  (43, ⟨.fn, 1, 8, .nilf, false⟩),
  (44, ⟨.fn, 1, 8, .nilf, false⟩),
  (45, ⟨.fn, 1, 8, .nilf, false⟩),
  (46, ⟨.strct [(9, 0), (3, 1)], 2, 24, .agg [.str [], .int .i64 0], true⟩),
  (47, ⟨.strct [(9, 0), (3, 1)], 2, 24, .agg [.str [], .int .i64 0], true⟩),
  (48, ⟨.strct [(3, 0), (3, 1), (38, 2), (3, 4)], 5, 40, .agg [.int .i64 0, .int .i64 0, .arr 2 1 [.int .i64 0, .int .i64 0], .int .i64 0], true⟩),
  (49, ⟨.strct [(3, 0), (3, 1), (38, 2), (3, 4)], 5, 40, .agg [.int .i64 0, .int .i64 0, .arr 2 1 [.int .i64 0, .int .i64 0], .int .i64 0], true⟩),
  (50, ⟨.strct [(9, 0), (49, 1)], 6, 56, .agg [.str [], .agg [.int .i64 0, .int .i64 0, .arr 2 1 [.int .i64 0, .int .i64 0], .int .i64 0]], true⟩),
  (51, ⟨.strct [(9, 0), (49, 1)], 6, 56, .agg [.str [], .agg [.int .i64 0, .int .i64 0, .arr 2 1 [.int .i64 0, .int .i64 0], .int .i64 0]], true⟩),
  (52, ⟨.fn, 1, 8, .nilf, false⟩),
  (53, ⟨.fn, 1, 8, .nilf, false⟩),
  (54, ⟨.fn, 1, 8, .nilf, false⟩),
  (56, ⟨.fn, 1, 8, .nilf, false⟩),
  (58, ⟨.fn, 1, 8, .nilf, false⟩),
  (60, ⟨.fn, 1, 8, .nilf, false⟩),
  (61, ⟨.mp 67 40, 1, 8, .any, false⟩),
  (62, ⟨.sl 67, 1, 24, .nils, false⟩),
  (63, ⟨.arr 2 2, 2, 16, .arr 2 1 [.int .i64 0, .int .i64 0], true⟩),
  (64, ⟨.strct [(3, 0), (3, 1), (3, 2), (3, 3), (3, 4), (63, 5)], 7, 56, .agg [.int .i64 0, .int .i64 0, .int .i64 0, .int .i64 0, .int .i64 0, .arr 2 1 [.int .i64 0, .int .i64 0]], true⟩),
  (65, ⟨.strct [(3, 0), (3, 1), (3, 2), (3, 3), (3, 4), (63, 5)], 7, 56, .agg [.int .i64 0, .int .i64 0, .int .i64 0, .int .i64 0, .int .i64 0, .arr 2 1 [.int .i64 0, .int .i64 0]], true⟩),
  (66, ⟨.arr 3 3, 3, 24, .arr 3 1 [.int .i64 0, .int .i64 0, .int .i64 0], true⟩),
  (67, ⟨.arr 3 3, 3, 24, .arr 3 1 [.int .i64 0, .int .i64 0, .int .i64 0], true⟩),
  (69, ⟨.fn, 1, 8, .nilf, false⟩),
  (70, ⟨.fn, 1, 8, .nilf, false⟩),
  (71, ⟨.fn, 1, 8, .nilf, false⟩),
  (72, ⟨.fn, 1, 8, .nilf, false⟩),
  (73, ⟨.fn, 1, 8, .nilf, false⟩),
  (74, ⟨.ptr 30, 1, 8, .nilp, false⟩),
  (75, ⟨.fn, 1, 8, .nilf, false⟩),
  (76, ⟨.fn, 1, 8, .nilf, false⟩),
  (77, ⟨.strct [(3, 0), (3, 1), (3, 2)], 3, 24, .agg [.int .i64 0, .int .i64 0, .int .i64 0], true⟩),
  (78, ⟨.strct [(3, 0), (3, 1), (3, 2)], 3, 24, .agg [.int .i64 0, .int .i64 0, .int .i64 0], true⟩),
  (79, ⟨.ptr 81, 1, 8, .nilp, false⟩),
  (80, ⟨.strct [(79, 0), (23, 1)], 2, 32, .agg [.nilp, .nils], true⟩),
  (81, ⟨.strct [(79, 0), (23, 1)], 2, 32, .agg [.nilp, .nils], true⟩),
  (82, ⟨.ifc, 1, 16, .nili, false⟩),
  (83, ⟨.ifc, 1, 16, .nili, false⟩),
  (85, ⟨.fn, 1, 8, .nilf, false⟩),
  (86, ⟨.fn, 1, 8, .nilf, false⟩),
  (87, ⟨.fn, 1, 8, .nilf, false⟩),
  (89, ⟨.fn, 1, 8, .nilf, false⟩),
  (90, ⟨.fn, 1, 8, .nilf, false⟩),
  (91, ⟨.fn, 1, 8, .nilf, false⟩),
  (92, ⟨.fn, 1, 8, .nilf, false⟩),
  (93, ⟨.int .u64, 1, 8, .int .u64 0, false⟩),
  (94, ⟨.fn, 1, 8, .nilf, false⟩),
  (95, ⟨.sl 3, 1, 24, .nils, false⟩),
  (96, ⟨.sl 31, 1, 24, .nils, false⟩),
  (97, ⟨.fn, 1, 8, .nilf, false⟩),
  (98, ⟨.fn, 1, 8, .nilf, false⟩),
  (99, ⟨.fn, 1, 8, .nilf, false⟩),
  (100, ⟨.ptr 5, 1, 8, .nilp, false⟩),
  (101, ⟨.sl 105, 1, 24, .nils, false⟩),
  (102, ⟨.fn, 1, 8, .nilf, false⟩),
  (103, ⟨.fn, 1, 8, .nilf, false⟩),
  (104, ⟨.strct [(103, 0)], 1, 8, .agg [.nilf], true⟩),
  (105, ⟨.strct [(103, 0)], 1, 8, .agg [.nilf], true⟩),
  (106, ⟨.fn, 1, 8, .nilf, false⟩),
  (107, ⟨.fn, 1, 8, .nilf, false⟩),
  (108, ⟨.ptr 65, 1, 8, .nilp, false⟩),
  (109, ⟨.fn, 1, 8, .nilf, false⟩),
  (110, ⟨.int .i64, 1, 8, .int .i64 0, false⟩),
  (112, ⟨.fn, 1, 8, .nilf, false⟩),
  (113, ⟨.fn, 1, 8, .nilf, false⟩),
  (114, ⟨.fn, 1, 8, .nilf, false⟩),
  (116, ⟨.fn, 1, 8, .nilf, false⟩),
  (117, ⟨.fn, 1, 8, .nilf, false⟩),
  (118, ⟨.int .u32, 1, 4, .int .u32 0, false⟩),
  (119, ⟨.fn, 1, 8, .nilf, false⟩),
  (120, ⟨.int .u64, 1, 8, .int .u64 0, false⟩),
  (121, ⟨.fn, 1, 8, .nilf, false⟩),
  (123, ⟨.fn, 1, 8, .nilf, false⟩),
  (124, ⟨.fn, 1, 8, .nilf, false⟩),
  (125, ⟨.fn, 1, 8, .nilf, false⟩),
  (126, ⟨.fn, 1, 8, .nilf, false⟩),
  (127, ⟨.strct [(9, 0), (126, 1)], 2, 24, .agg [.str [], .nilf], true⟩),
  (128, ⟨.strct [(9, 0), (126, 1)], 2, 24, .agg [.str [], .nilf], true⟩),
  (129, ⟨.arr 5 128, 10, 120, .arr 5 2 [.agg [.str [], .nilf], .agg [.str [], .nilf], .agg [.str [], .nilf], .agg [.str [], .nilf], .agg [.str [], .nilf]], true⟩),
  (130, ⟨.fn, 1, 8, .nilf, false⟩),
  (131, ⟨.fn, 1, 8, .nilf, false⟩),
  (132, ⟨.fn, 1, 8, .nilf, false⟩),
  (133, ⟨.ptr 25, 1, 8, .nilp, false⟩),
  (134, ⟨.int .u64, 1, 8, .int .u64 0, false⟩),
  (135, ⟨.fn, 1, 8, .nilf, false⟩),
  (136, ⟨.fn, 1, 8, .nilf, false⟩),
  (137, ⟨.fn, 1, 8, .nilf, false⟩),
  (138, ⟨.ptr 3, 1, 8, .nilp, false⟩),
  (139, ⟨.fn, 1, 8, .nilf, false⟩),
  (140, ⟨.fn, 1, 8, .nilf, false⟩),
  (141, ⟨.sl 2, 1, 24, .nils, false⟩),
  (142, ⟨.fn, 1, 8, .nilf, false⟩),
  (143, ⟨.fn, 1, 8, .nilf, false⟩),
  (144, ⟨.arr 8 5, 8, 8, .arr 8 1 [.int .u8 0, .int .u8 0, .int .u8 0, .int .u8 0, .int .u8 0, .int .u8 0, .int .u8 0, .int .u8 0], true⟩),
  (145, ⟨.arr 8 5, 8, 8, .arr 8 1 [.int .u8 0, .int .u8 0, .int .u8 0, .int .u8 0, .int .u8 0, .int .u8 0, .int .u8 0, .int .u8 0], true⟩),
  (146, ⟨.arr 8 5, 8, 8, .arr 8 1 [.int .u8 0, .int .u8 0, .int .u8 0, .int .u8 0, .int .u8 0, .int .u8 0, .int .u8 0, .int .u8 0], true⟩),
  (147, ⟨.strct [(3, 0), (145, 1), (146, 9)], 17, 24, .agg [.int .i64 0, .arr 8 1 [.int .u8 0, .int .u8 0, .int .u8 0, .int .u8 0, .int .u8 0, .int .u8 0, .int .u8 0, .int .u8 0], .arr 8 1 [.int .u8 0, .int .u8 0, .int .u8 0, .int .u8 0, .int .u8 0, .int .u8 0, .int .u8 0, .int .u8 0]], true⟩),
  (148, ⟨.strct [(3, 0), (145, 1), (146, 9)], 17, 24, .agg [.int .i64 0, .arr 8 1 [.int .u8 0, .int .u8 0, .int .u8 0, .int .u8 0, .int .u8 0, .int .u8 0, .int .u8 0, .int .u8 0], .arr 8 1 [.int .u8 0, .int .u8 0, .int .u8 0, .int .u8 0, .int .u8 0, .int .u8 0, .int .u8 0, .int .u8 0]], true⟩),
  (149, ⟨.fn, 1, 8, .nilf, false⟩),
  (150, ⟨.fn, 1, 8, .nilf, false⟩),
  (151, ⟨.fn, 1, 8, .nilf, false⟩),
  (152, ⟨.mp 9 4, 1, 8, .any, false⟩),
  (153, ⟨.mp 9 4, 1, 8, .any, false⟩),
  (154, ⟨.fn, 1, 8, .nilf, false⟩),
  (155, ⟨.fn, 1, 8, .nilf, false⟩),
  (156, ⟨.mp 38 4, 1, 8, .any, false⟩),
  (157, ⟨.ptr 134, 1, 8, .nilp, false⟩),
  (159, ⟨.fn, 1, 8, .nilf, false⟩),
  (160, ⟨.fn, 1, 8, .nilf, false⟩),
  (161, ⟨.arr 24 5, 24, 24, .arr 24 1 [.int .u8 0, .int .u8 0, .int .u8 0, .int .u8 0, .int .u8 0, .int .u8 0, .int .u8 0, .int .u8 0, .int .u8 0, .int .u8 0, .int .u8 0, .int .u8 0, .int .u8 0, .int .u8 0, .int .u8 0, .int .u8 0, .int .u8 0, .int .u8 0, .int .u8 0, .int .u8 0, .int .u8 0, .int .u8 0, .int .u8 0, .int .u8 0], true⟩),
  (162, ⟨.fn, 1, 8, .nilf, false⟩),
  (164, ⟨.fn, 1, 8, .nilf, false⟩),
  (165, ⟨.fn, 1, 8, .nilf, false⟩),
  (167, ⟨.fn, 1, 8, .nilf, false⟩),
  (168, ⟨.fn, 1, 8, .nilf, false⟩),
  (169, ⟨.fn, 1, 8, .nilf, false⟩),
  (170, ⟨.fn, 1, 8, .nilf, false⟩),
  (171, ⟨.fn, 1, 8, .nilf, false⟩),
  (172, ⟨.fn, 1, 8, .nilf, false⟩),
  (173, ⟨.arr 20 120, 20, 160, .arr 20 1 [.int .u64 0, .int .u64 0, .int .u64 0, .int .u64 0, .int .u64 0, .int .u64 0, .int .u64 0, .int .u64 0, .int .u64 0, .int .u64 0, .int .u64 0, .int .u64 0, .int .u64 0, .int .u64 0, .int .u64 0, .int .u64 0, .int .u64 0, .int .u64 0, .int .u64 0, .int .u64 0], true⟩),
  (174, ⟨.arr 65 5, 65, 65, .arr 65 1 [.int .u8 0, .int .u8 0, .int .u8 0, .int .u8 0, .int .u8 0, .int .u8 0, .int .u8 0, .int .u8 0, .int .u8 0, .int .u8 0, .int .u8 0, .int .u8 0, .int .u8 0, .int .u8 0, .int .u8 0, .int .u8 0, .int .u8 0, .int .u8 0, .int .u8 0, .int .u8 0, .int .u8 0, .int .u8 0, .int .u8 0, .int .u8 0, .int .u8 0, .int .u8 0, .int .u8 0, .int .u8 0, .int .u8 0, .int .u8 0, .int .u8 0, .int .u8 0, .int .u8 0, .int .u8 0, .int .u8 0, .int .u8 0, .int .u8 0, .int .u8 0, .int .u8 0, .int .u8 0, .int .u8 0, .int .u8 0, .int .u8 0, .int .u8 0, .int .u8 0, .int .u8 0, .int .u8 0, .int .u8 0, .int .u8 0, .int .u8 0, .int .u8 0, .int .u8 0, .int .u8 0, .int .u8 0, .int .u8 0, .int .u8 0, .int .u8 0, .int .u8 0, .int .u8 0, .int .u8 0, .int .u8 0, .int .u8 0, .int .u8 0, .int .u8 0, .int .u8 0], true⟩),
  (175, ⟨.fn, 1, 8, .nilf, false⟩),
  (176, ⟨.fn, 1, 8, .nilf, false⟩),
  (177, ⟨.int .i64, 1, 8, .int .i64 0, false⟩),
  (179, ⟨.fn, 1, 8, .nilf, false⟩),
  (180, ⟨.fn, 1, 8, .nilf, false⟩),
  (181, ⟨.fn, 1, 8, .nilf, false⟩),
  (182, ⟨.fn, 1, 8, .nilf, false⟩),
  (183, ⟨.strct [(3, 0), (3, 1), (3, 2), (2, 3), (9, 4)], 5, 48, .agg [.int .i64 0, .int .i64 0, .int .i64 0, .int .i64 0, .str []], true⟩),
  (184, ⟨.strct [(3, 0), (3, 1), (3, 2), (2, 3), (9, 4)], 5, 48, .agg [.int .i64 0, .int .i64 0, .int .i64 0, .int .i64 0, .str []], true⟩),
  (185, ⟨.fn, 1, 8, .nilf, false⟩),
  (186, ⟨.fn, 1, 8, .nilf, false⟩),
  (187, ⟨.fn, 1, 8, .nilf, false⟩),
  (188, ⟨.strct [(22, 0), (23, 1)], 2, 48, .agg [.nils, .nils], true⟩),
  (189, ⟨.fn, 1, 8, .nilf, false⟩),
  (190, ⟨.fn, 1, 8, .nilf, false⟩),
  (191, ⟨.fn, 1, 8, .nilf, false⟩),
  (192, ⟨.arr 33 175, 33, 264, .arr 33 1 [.nilf, .nilf, .nilf, .nilf, .nilf, .nilf, .nilf, .nilf, .nilf, .nilf, .nilf, .nilf, .nilf, .nilf, .nilf, .nilf, .nilf, .nilf, .nilf, .nilf, .nilf, .nilf, .nilf, .nilf, .nilf, .nilf, .nilf, .nilf, .nilf, .nilf, .nilf, .nilf, .nilf], true⟩),
  (193, ⟨.fn, 1, 8, .nilf, false⟩),
  (194, ⟨.arr 256 4, 256, 256, .arr 256 1 [.fls, .fls, .fls, .fls, .fls, .fls, .fls, .fls, .fls, .fls, .fls, .fls, .fls, .fls, .fls, .fls, .fls, .fls, .fls, .fls, .fls, .fls, .fls, .fls, .fls, .fls, .fls, .fls, .fls, .fls, .fls, .fls, .fls, .fls, .fls, .fls, .fls, .fls, .fls, .fls, .fls, .fls, .fls, .fls, .fls, .fls, .fls, .fls, .fls, .fls, .fls, .fls, .fls, .fls, .fls, .fls, .fls, .fls, .fls, .fls, .fls, .fls, .fls, .fls, .fls, .fls, .fls, .fls, .fls, .fls, .fls, .fls, .fls, .fls, .fls, .fls, .fls, .fls, .fls, .fls, .fls, .fls, .fls, .fls, .fls, .fls, .fls, .fls, .fls, .fls, .fls, .fls, .fls, .fls, .fls, .fls, .fls, .fls, .fls, .fls, .fls, .fls, .fls, .fls, .fls, .fls, .fls, .fls, .fls, .fls, .fls, .fls, .fls, .fls, .fls, .fls, .fls, .fls, .fls, .fls, .fls, .fls, .fls, .fls, .fls, .fls, .fls, .fls, .fls, .fls, .fls, .fls, .fls, .fls, .fls, .fls, .fls, .fls, .fls, .fls, .fls, .fls, .fls, .fls, .fls, .fls, .fls, .fls, .fls, .fls, .fls, .fls, .fls, .fls, .fls, .fls, .fls, .fls, .fls, .fls, .fls, .fls, .fls, .fls, .fls, .fls, .fls, .fls, .fls, .fls, .fls, .fls, .fls, .fls, .fls, .fls, .fls, .fls, .fls, .fls, .fls, .fls, .fls, .fls, .fls, .fls, .fls, .fls, .fls, .fls, .fls, .fls, .fls, .fls, .fls, .fls, .fls, .fls, .fls, .fls, .fls, .fls, .fls, .fls, .fls, .fls, .fls, .fls, .fls, .fls, .fls, .fls, .fls, .fls, .fls, .fls, .fls, .fls, .fls, .fls, .fls, .fls, .fls, .fls, .fls, .fls, .fls, .fls, .fls, .fls, .fls, .fls, .fls, .fls, .fls, .fls, .fls, .fls, .fls, .fls, .fls, .fls, .fls, .fls, .fls, .fls, .fls, .fls, .fls, .fls, .fls, .fls, .fls, .fls, .fls, .fls], true⟩),
  (195, ⟨.arr 256 4, 256, 256, .arr 256 1 [.fls, .fls, .fls, .fls, .fls, .fls, .fls, .fls, .fls, .fls, .fls, .fls, .fls, .fls, .fls, .fls, .fls, .fls, .fls, .fls, .fls, .fls, .fls, .fls, .fls, .fls, .fls, .fls, .fls, .fls, .fls, .fls, .fls, .fls, .fls, .fls, .fls, .fls, .fls, .fls, .fls, .fls, .fls, .fls, .fls, .fls, .fls, .fls, .fls, .fls, .fls, .fls, .fls, .fls, .fls, .fls, .fls, .fls, .fls, .fls, .fls, .fls, .fls, .fls, .fls, .fls, .fls, .fls, .fls, .fls, .fls, .fls, .fls, .fls, .fls, .fls, .fls, .fls, .fls, .fls, .fls, .fls, .fls, .fls, .fls, .fls, .fls, .fls, .fls, .fls, .fls, .fls, .fls, .fls, .fls, .fls, .fls, .fls, .fls, .fls, .fls, .fls, .fls, .fls, .fls, .fls, .fls, .fls, .fls, .fls, .fls, .fls, .fls, .fls, .fls, .fls, .fls, .fls, .fls, .fls, .fls, .fls, .fls, .fls, .fls, .fls, .fls, .fls, .fls, .fls, .fls, .fls, .fls, .fls, .fls, .fls, .fls, .fls, .fls, .fls, .fls, .fls, .fls, .fls, .fls, .fls, .fls, .fls, .fls, .fls, .fls, .fls, .fls, .fls, .fls, .fls, .fls, .fls, .fls, .fls, .fls, .fls, .fls, .fls, .fls, .fls, .fls, .fls, .fls, .fls, .fls, .fls, .fls, .fls, .fls, .fls, .fls, .fls, .fls, .fls, .fls, .fls, .fls, .fls, .fls, .fls, .fls, .fls, .fls, .fls, .fls, .fls, .fls, .fls, .fls, .fls, .fls, .fls, .fls, .fls, .fls, .fls, .fls, .fls, .fls, .fls, .fls, .fls, .fls, .fls, .fls, .fls, .fls, .fls, .fls, .fls, .fls, .fls, .fls, .fls, .fls, .fls, .fls, .fls, .fls, .fls, .fls, .fls, .fls, .fls, .fls, .fls, .fls, .fls, .fls, .fls, .fls, .fls, .fls, .fls, .fls, .fls, .fls, .fls, .fls, .fls, .fls, .fls, .fls, .fls, .fls, .fls, .fls, .fls, .fls, .fls], true⟩),
  (197, ⟨.fn, 1, 8, .nilf, false⟩),
  (198, ⟨.fn, 1, 8, .nilf, false⟩),
  (199, ⟨.ptr 195, 1, 8, .nilp, false⟩),
  (200, ⟨.sl 206, 1, 24, .nils, false⟩),
  (201, ⟨.fn, 1, 8, .nilf, false⟩),
  (202, ⟨.sl 35, 1, 24, .nils, false⟩),
  (203, ⟨.fn, 1, 8, .nilf, false⟩),
  (204, ⟨.fn, 1, 8, .nilf, false⟩),
  (205, ⟨.strct [(9, 0), (22, 1), (202, 2), (203, 3), (204, 4)], 5, 80, .agg [.str [], .nils, .nils, .nilf, .nilf], true⟩),
  (206, ⟨.strct [(9, 0), (22, 1), (202, 2), (203, 3), (204, 4)], 5, 80, .agg [.str [], .nils, .nils, .nilf, .nilf], true⟩),
  (207, ⟨.ptr 209, 1, 8, .nilp, false⟩),
  (208, ⟨.strct [(9, 0), (3, 1)], 2, 24, .agg [.str [], .int .i64 0], true⟩),
  (209, ⟨.strct [(9, 0), (3, 1)], 2, 24, .agg [.str [], .int .i64 0], true⟩),
  (210, ⟨.fn, 1, 8, .nilf, false⟩),
  (211, ⟨.ptr 188, 1, 8, .nilp, false⟩),
  (212, ⟨.arr 32 5, 32, 32, .arr 32 1 [.int .u8 0, .int .u8 0, .int .u8 0, .int .u8 0, .int .u8 0, .int .u8 0, .int .u8 0, .int .u8 0, .int .u8 0, .int .u8 0, .int .u8 0, .int .u8 0, .int .u8 0, .int .u8 0, .int .u8 0, .int .u8 0, .int .u8 0, .int .u8 0, .int .u8 0, .int .u8 0, .int .u8 0, .int .u8 0, .int .u8 0, .int .u8 0, .int .u8 0, .int .u8 0, .int .u8 0, .int .u8 0, .int .u8 0, .int .u8 0, .int .u8 0, .int .u8 0], true⟩),
  (213, ⟨.arr 64 5, 64, 64, .arr 64 1 [.int .u8 0, .int .u8 0, .int .u8 0, .int .u8 0, .int .u8 0, .int .u8 0, .int .u8 0, .int .u8 0, .int .u8 0, .int .u8 0, .int .u8 0, .int .u8 0, .int .u8 0, .int .u8 0, .int .u8 0, .int .u8 0, .int .u8 0, .int .u8 0, .int .u8 0, .int .u8 0, .int .u8 0, .int .u8 0, .int .u8 0, .int .u8 0, .int .u8 0, .int .u8 0, .int .u8 0, .int .u8 0, .int .u8 0, .int .u8 0, .int .u8 0, .int .u8 0, .int .u8 0, .int .u8 0, .int .u8 0, .int .u8 0, .int .u8 0, .int .u8 0, .int .u8 0, .int .u8 0, .int .u8 0, .int .u8 0, .int .u8 0, .int .u8 0, .int .u8 0, .int .u8 0, .int .u8 0, .int .u8 0, .int .u8 0, .int .u8 0, .int .u8 0, .int .u8 0, .int .u8 0, .int .u8 0, .int .u8 0, .int .u8 0, .int .u8 0, .int .u8 0, .int .u8 0, .int .u8 0, .int .u8 0, .int .u8 0, .int .u8 0, .int .u8 0], true⟩),
  (215, ⟨.fn, 1, 8, .nilf, false⟩),
  (216, ⟨.fn, 1, 8, .nilf, false⟩),
  (217, ⟨.fn, 1, 8, .nilf, false⟩),
  (218, ⟨.fn, 1, 8, .nilf, false⟩),
  (219, ⟨.fn, 1, 8, .nilf, false⟩),
  (221, ⟨.fn, 1, 8, .nilf, false⟩),
  (222, ⟨.fn, 1, 8, .nilf, false⟩),
  (223, ⟨.fn, 1, 8, .nilf, false⟩),
  (224, ⟨.fn, 1, 8, .nilf, false⟩),
  (225, ⟨.fn, 1, 8, .nilf, false⟩),
  (226, ⟨.fn, 1, 8, .nilf, false⟩),
  (227, ⟨.arr 256 5, 256, 256, .arr 256 1 [.int .u8 0, .int .u8 0, .int .u8 0, .int .u8 0, .int .u8 0, .int .u8 0, .int .u8 0, .int .u8 0, .int .u8 0, .int .u8 0, .int .u8 0, .int .u8 0, .int .u8 0, .int .u8 0, .int .u8 0, .int .u8 0, .int .u8 0, .int .u8 0, .int .u8 0, .int .u8 0, .int .u8 0, .int .u8 0, .int .u8 0, .int .u8 0, .int .u8 0, .int .u8 0, .int .u8 0, .int .u8 0, .int .u8 0, .int .u8 0, .int .u8 0, .int .u8 0, .int .u8 0, .int .u8 0, .int .u8 0, .int .u8 0, .int .u8 0, .int .u8 0, .int .u8 0, .int .u8 0, .int .u8 0, .int .u8 0, .int .u8 0, .int .u8 0, .int .u8 0, .int .u8 0, .int .u8 0, .int .u8 0, .int .u8 0, .int .u8 0, .int .u8 0, .int .u8 0, .int .u8 0, .int .u8 0, .int .u8 0, .int .u8 0, .int .u8 0, .int .u8 0, .int .u8 0, .int .u8 0, .int .u8 0, .int .u8 0, .int .u8 0, .int .u8 0, .int .u8 0, .int .u8 0, .int .u8 0, .int .u8 0, .int .u8 0, .int .u8 0, .int .u8 0, .int .u8 0, .int .u8 0, .int .u8 0, .int .u8 0, .int .u8 0, .int .u8 0, .int .u8 0, .int .u8 0, .int .u8 0, .int .u8 0, .int .u8 0, .int .u8 0, .int .u8 0, .int .u8 0, .int .u8 0, .int .u8 0, .int .u8 0, .int .u8 0, .int .u8 0, .int .u8 0, .int .u8 0, .int .u8 0, .int .u8 0, .int .u8 0, .int .u8 0, .int .u8 0, .int .u8 0, .int .u8 0, .int .u8 0, .int .u8 0, .int .u8 0, .int .u8 0, .int .u8 0, .int .u8 0, .int .u8 0, .int .u8 0, .int .u8 0, .int .u8 0, .int .u8 0, .int .u8 0, .int .u8 0, .int .u8 0, .int .u8 0, .int .u8 0, .int .u8 0, .int .u8 0, .int .u8 0, .int .u8 0, .int .u8 0, .int .u8 0, .int .u8 0, .int .u8 0, .int .u8 0, .int .u8 0, .int .u8 0, .int .u8 0, .int .u8 0, .int .u8 0, .int .u8 0, .int .u8 0, .int .u8 0, .int .u8 0, .int .u8 0, .int .u8 0, .int .u8 0, .int .u8 0, .int .u8 0, .int .u8 0, .int .u8 0, .int .u8 0, .int .u8 0, .int .u8 0, .int .u8 0, .int .u8 0, .int .u8 0, .int .u8 0, .int .u8 0, .int .u8 0, .int .u8 0, .int .u8 0, .int .u8 0, .int .u8 0, .int .u8 0, .int .u8 0, .int .u8 0, .int .u8 0, .int .u8 0, .int .u8 0, .int .u8 0, .int .u8 0, .int .u8 0, .int .u8 0, .int .u8 0, .int .u8 0, .int .u8 0, .int .u8 0, .int .u8 0, .int .u8 0, .int .u8 0, .int .u8 0, .int .u8 0, .int .u8 0, .int .u8 0, .int .u8 0, .int .u8 0, .int .u8 0, .int .u8 0, .int .u8 0, .int .u8 0, .int .u8 0, .int .u8 0, .int .u8 0, .int .u8 0, .int .u8 0, .int .u8 0, .int .u8 0, .int .u8 0, .int .u8 0, .int .u8 0, .int .u8 0, .int .u8 0, .int .u8 0, .int .u8 0, .int .u8 0, .int .u8 0, .int .u8 0, .int .u8 0, .int .u8 0, .int .u8 0, .int .u8 0, .int .u8 0, .int .u8 0, .int .u8 0, .int .u8 0, .int .u8 0, .int .u8 0, .int .u8 0, .int .u8 0, .int .u8 0, .int .u8 0, .int .u8 0, .int .u8 0, .int .u8 0, .int .u8 0, .int .u8 0, .int .u8 0, .int .u8 0, .int .u8 0, .int .u8 0, .int .u8 0, .int .u8 0, .int .u8 0, .int .u8 0, .int .u8 0, .int .u8 0, .int .u8 0, .int .u8 0, .int .u8 0, .int .u8 0, .int .u8 0, .int .u8 0, .int .u8 0, .int .u8 0, .int .u8 0, .int .u8 0, .int .u8 0, .int .u8 0, .int .u8 0, .int .u8 0, .int .u8 0, .int .u8 0, .int .u8 0, .int .u8 0, .int .u8 0, .int .u8 0, .int .u8 0, .int .u8 0, .int .u8 0, .int .u8 0, .int .u8 0, .int .u8 0, .int .u8 0, .int .u8 0, .int .u8 0, .int .u8 0], true⟩),
  (228, ⟨.strct [(5, 0), (5, 1)], 2, 2, .agg [.int .u8 0, .int .u8 0], true⟩),
  (229, ⟨.strct [(5, 0), (5, 1)], 2, 2, .agg [.int .u8 0, .int .u8 0], true⟩),
  (230, ⟨.arr 16 229, 32, 32, .arr 16 2 [.agg [.int .u8 0, .int .u8 0], .agg [.int .u8 0, .int .u8 0], .agg [.int .u8 0, .int .u8 0], .agg [.int .u8 0, .int .u8 0], .agg [.int .u8 0, .int .u8 0], .agg [.int .u8 0, .int .u8 0], .agg [.int .u8 0, .int .u8 0], .agg [.int .u8 0, .int .u8 0], .agg [.int .u8 0, .int .u8 0], .agg [.int .u8 0, .int .u8 0], .agg [.int .u8 0, .int .u8 0], .agg [.int .u8 0, .int .u8 0], .agg [.int .u8 0, .int .u8 0], .agg [.int .u8 0, .int .u8 0], .agg [.int .u8 0, .int .u8 0], .agg [.int .u8 0, .int .u8 0]], true⟩),
  (231, ⟨.fn, 1, 8, .nilf, false⟩),
  (232, ⟨.strct [(3, 0), (3, 1), (38, 2), (141, 4)], 5, 56, .agg [.int .i64 0, .int .i64 0, .arr 2 1 [.int .i64 0, .int .i64 0], .nils], true⟩),
  (233, ⟨.strct [(3, 0), (3, 1), (38, 2), (141, 4)], 5, 56, .agg [.int .i64 0, .int .i64 0, .arr 2 1 [.int .i64 0, .int .i64 0], .nils], true⟩),
  (234, ⟨.fn, 1, 8, .nilf, false⟩),
  (235, ⟨.fn, 1, 8, .nilf, false⟩),
  (236, ⟨.fn, 1, 8, .nilf, false⟩),
  (237, ⟨.fn, 1, 8, .nilf, false⟩),
  (238, ⟨.fn, 1, 8, .nilf, false⟩),
  (239, ⟨.fn, 1, 8, .nilf, false⟩),
  (240, ⟨.fn, 1, 8, .nilf, false⟩),
  (241, ⟨.fn, 1, 8, .nilf, false⟩),
  (242, ⟨.fn, 1, 8, .nilf, false⟩),
  (244, ⟨.fn, 1, 8, .nilf, false⟩),
  (246, ⟨.fn, 1, 8, .nilf, false⟩),
  (247, ⟨.fn, 1, 8, .nilf, false⟩),
  (248, ⟨.fn, 1, 8, .nilf, false⟩),
  (249, ⟨.fn, 1, 8, .nilf, false⟩),
  (250, ⟨.sl 141, 1, 24, .nils, false⟩),
  (252, ⟨.fn, 1, 8, .nilf, false⟩),
  (253, ⟨.fn, 1, 8, .nilf, false⟩),
  (254, ⟨.fn, 1, 8, .nilf, false⟩),
  (255, ⟨.fn, 1, 8, .nilf, false⟩),
  (257, ⟨.fn, 1, 8, .nilf, false⟩),
  (258, ⟨.fn, 1, 8, .nilf, false⟩),
  (259, ⟨.fn, 1, 8, .nilf, false⟩),
  (260, ⟨.fn, 1, 8, .nilf, false⟩),
  (261, ⟨.mp 2 2, 1, 8, .any, false⟩),
  (262, ⟨.fn, 1, 8, .nilf, false⟩),
  (263, ⟨.arr 10 9, 10, 160, .arr 10 1 [.str [], .str [], .str [], .str [], .str [], .str [], .str [], .str [], .str [], .str []], true⟩),
  (264, ⟨.fn, 1, 8, .nilf, false⟩),
  (265, ⟨.fn, 1, 8, .nilf, false⟩),
  (266, ⟨.fn, 1, 8, .nilf, false⟩),
  (267, ⟨.fn, 1, 8, .nilf, false⟩),
  (268, ⟨.sl 233, 1, 24, .nils, false⟩),
  (269, ⟨.fn, 1, 8, .nilf, false⟩),
  (270, ⟨.fn, 1, 8, .nilf, false⟩),
  (271, ⟨.fn, 1, 8, .nilf, false⟩),
  (272, ⟨.fn, 1, 8, .nilf, false⟩),
  (273, ⟨.fn, 1, 8, .nilf, false⟩),
  (274, ⟨.fn, 1, 8, .nilf, false⟩),
  (275, ⟨.fn, 1, 8, .nilf, false⟩),
  (276, ⟨.fn, 1, 8, .nilf, false⟩),
  (277, ⟨.fn, 1, 8, .nilf, false⟩),
  (278, ⟨.fn, 1, 8, .nilf, false⟩),
  (279, ⟨.fn, 1, 8, .nilf, false⟩),
  (280, ⟨.fn, 1, 8, .nilf, false⟩),
  (281, ⟨.fn, 1, 8, .nilf, false⟩),
  (282, ⟨.fn, 1, 8, .nilf, false⟩),
  (283, ⟨.fn, 1, 8, .nilf, false⟩),
  (284, ⟨.strct [(17, 0), (17, 1), (17, 2), (9, 3)], 4, 40, .agg [.nilp, .nilp, .nilp, .str []], false⟩),
  (285, ⟨.strct [(17, 0), (17, 1), (17, 2), (9, 3)], 4, 40, .agg [.nilp, .nilp, .nilp, .str []], false⟩),
  (286, ⟨.arr 0 16, 0, 0, .arr 0 1 [], true⟩),
  (287, ⟨.strct [(286, 0)], 0, 0, .agg [.arr 0 1 []], false⟩),
  (288, ⟨.strct [(286, 0)], 0, 0, .agg [.arr 0 1 []], false⟩),
  (289, ⟨.fn, 1, 8, .nilf, false⟩),
  (290, ⟨.int .u8, 1, 1, .int .u8 0, false⟩),
  (291, ⟨.int .u8, 1, 1, .int .u8 0, false⟩),
  (292, ⟨.fn, 1, 8, .nilf, false⟩),
  (293, ⟨.int .i32, 1, 4, .int .i32 0, false⟩),
  (294, ⟨.int .i32, 1, 4, .int .i32 0, false⟩),
  (295, ⟨.strct [(12, 0), (12, 1), (118, 2), (290, 3), (5, 4), (5, 5), (291, 6), (292, 7), (100, 8), (293, 9), (294, 10)], 11, 48, .agg [.int .u64 0, .int .u64 0, .int .u32 0, .int .u8 0, .int .u8 0, .int .u8 0, .int .u8 0, .nilf, .nilp, .int .i32 0, .int .i32 0], false⟩),
  (296, ⟨.strct [(12, 0), (12, 1), (118, 2), (290, 3), (5, 4), (5, 5), (291, 6), (292, 7), (100, 8), (293, 9), (294, 10)], 11, 48, .agg [.int .u64 0, .int .u64 0, .int .u32 0, .int .u8 0, .int .u8 0, .int .u8 0, .int .u8 0, .nilf, .nilp, .int .i32 0, .int .i32 0], false⟩)]
set_option maxRecDepth 100000 in
theorem zz4 : ttB Tryz.prog tt = true := by kernel_rfl
theorem mixed : Tryz.prog.follows .mixedOrders = true := by kernel_rfl
abbrev F.invigilatorlaw30_awake : Nat := 5
abbrev F.slices_SortFunc___audit_key_audit_key_ : Nat := 16
abbrev F._audit_key__order : Nat := 17
abbrev F._Pstrings_Builder__WriteString : Nat := 22
abbrev F.audit_line : Nat := 23
abbrev F._Pstrings_Builder__String : Nat := 24
abbrev F.policy_Check : Nat := 25
abbrev F.slices_pdqsortCmpFunc_audit_key_ : Nat := 27
abbrev F.audit_line_1 : Nat := 32
abbrev F.policy_parts : Nat := 35
abbrev F.slices_insertionSortCmpFunc_audit_key_ : Nat := 38
abbrev F.release_folds : Nat := 52
abbrev F.lattice_Check : Nat := 54
abbrev F._policy_names__meet : Nat := 78
abbrev F.prims_table : Nat := 134
abbrev F._Plexer_reader__class : Nat := 135
abbrev F._Plexer_reader__while : Nat := 136
abbrev F.prims_errs : Nat := 148
abbrev F.internal_stringslite_IndexByte : Nat := 213
def ft : List (Nat × Func) := [(5, Tryz.f5), (6, Tryz.f6), (7, Tryz.f7), (11, Tryz.f11), (12, Tryz.f12), (13, Tryz.f13), (14, Tryz.f14), (15, Tryz.f15), (16, Tryz.f16), (17, Tryz.f17), (18, Tryz.f18), (19, Tryz.f19), (21, Tryz.f21), (22, Tryz.f22), (23, Tryz.f23), (25, Tryz.f25), (26, Tryz.f26), (27, Tryz.f27), (28, Tryz.f28), (29, Tryz.f29), (30, Tryz.f30), (31, Tryz.f31), (32, Tryz.f32), (33, Tryz.f33), (34, Tryz.f34), (35, Tryz.f35), (36, Tryz.f36), (37, Tryz.f37), (38, Tryz.f38), (39, Tryz.f39), (40, Tryz.f40), (41, Tryz.f41), (42, Tryz.f42), (43, Tryz.f43), (44, Tryz.f44), (45, Tryz.f45), (46, Tryz.f46), (47, Tryz.f47), (48, Tryz.f48), (50, Tryz.f50), (52, Tryz.f52), (53, Tryz.f53), (54, Tryz.f54), (55, Tryz.f55), (56, Tryz.f56), (57, Tryz.f57), (58, Tryz.f58), (59, Tryz.f59), (60, Tryz.f60), (61, Tryz.f61), (62, Tryz.f62), (63, Tryz.f63), (64, Tryz.f64), (65, Tryz.f65), (67, Tryz.f67), (68, Tryz.f68), (69, Tryz.f69), (70, Tryz.f70), (71, Tryz.f71), (72, Tryz.f72), (73, Tryz.f73), (74, Tryz.f74), (75, Tryz.f75), (76, Tryz.f76), (77, Tryz.f77), (78, Tryz.f78), (79, Tryz.f79), (80, Tryz.f80), (81, Tryz.f81), (82, Tryz.f82), (83, Tryz.f83), (84, Tryz.f84), (86, Tryz.f86), (87, Tryz.f87), (88, Tryz.f88), (89, Tryz.f89), (90, Tryz.f90), (91, Tryz.f91), (92, Tryz.f92), (93, Tryz.f93), (94, Tryz.f94), (95, Tryz.f95), (96, Tryz.f96), (97, Tryz.f97), (98, Tryz.f98), (99, Tryz.f99), (100, Tryz.f100), (101, Tryz.f101), (102, Tryz.f102), (103, Tryz.f103), (104, Tryz.f104), (105, Tryz.f105), (106, Tryz.f106), (107, Tryz.f107), (108, Tryz.f108), (109, Tryz.f109), (110, Tryz.f110), (111, Tryz.f111), (112, Tryz.f112), (113, Tryz.f113), (114, Tryz.f114), (115, Tryz.f115), (116, Tryz.f116), (117, Tryz.f117), (118, Tryz.f118), (119, Tryz.f119), (120, Tryz.f120), (121, Tryz.f121), (122, Tryz.f122), (123, Tryz.f123), (124, Tryz.f124), (125, Tryz.f125), (126, Tryz.f126), (127, Tryz.f127), (128, Tryz.f128), (129, Tryz.f129), (130, Tryz.f130), (131, Tryz.f131), (132, Tryz.f132), (133, Tryz.f133), (134, Tryz.f134), (135, Tryz.f135), (136, Tryz.f136), (137, Tryz.f137), (138, Tryz.f138), (139, Tryz.f139), (140, Tryz.f140), (141, Tryz.f141), (142, Tryz.f142), (143, Tryz.f143), (144, Tryz.f144), (145, Tryz.f145), (146, Tryz.f146), (147, Tryz.f147), (148, Tryz.f148), (149, Tryz.f149), (150, Tryz.f150), (151, Tryz.f151), (152, Tryz.f152), (153, Tryz.f153), (154, Tryz.f154), (155, Tryz.f155), (156, Tryz.f156), (157, Tryz.f157), (158, Tryz.f158), (159, Tryz.f159), (160, Tryz.f160), (161, Tryz.f161), (162, Tryz.f162), (163, Tryz.f163), (164, Tryz.f164), (165, Tryz.f165), (166, Tryz.f166), (167, Tryz.f167), (168, Tryz.f168), (169, Tryz.f169), (170, Tryz.f170), (171, Tryz.f171), (172, Tryz.f172), (173, Tryz.f173), (174, Tryz.f174), (175, Tryz.f175), (176, Tryz.f176), (177, Tryz.f177), (178, Tryz.f178), (179, Tryz.f179), (180, Tryz.f180), (181, Tryz.f181), (182, Tryz.f182), (183, Tryz.f183), (184, Tryz.f184), (185, Tryz.f185), (186, Tryz.f186), (187, Tryz.f187), (188, Tryz.f188), (189, Tryz.f189), (190, Tryz.f190), (191, Tryz.f191), (192, Tryz.f192), (194, Tryz.f194), (195, Tryz.f195), (196, Tryz.f196), (197, Tryz.f197), (198, Tryz.f198), (199, Tryz.f199), (200, Tryz.f200), (201, Tryz.f201), (202, Tryz.f202), (204, Tryz.f204), (205, Tryz.f205), (206, Tryz.f206), (207, Tryz.f207), (208, Tryz.f208), (209, Tryz.f209), (210, Tryz.f210), (211, Tryz.f211), (212, Tryz.f212), (213, Tryz.f213), (214, Tryz.f214), (215, Tryz.f215), (216, Tryz.f216), (217, Tryz.f217), (218, Tryz.f218), (219, Tryz.f219), (221, Tryz.f221), (222, Tryz.f222), (223, Tryz.f223), (224, Tryz.f224), (225, Tryz.f225), (226, Tryz.f226), (227, Tryz.f227), (228, Tryz.f228), (229, Tryz.f229)]
set_option maxRecDepth 100000 in
theorem zaq : zc2 Tryz.prog ft := ⟨⟨Tryz.func5, by kernel_rfl⟩, ⟨Tryz.func6, by kernel_rfl⟩, ⟨Tryz.func7, by kernel_rfl⟩, ⟨Tryz.func11, by kernel_rfl⟩, ⟨Tryz.func12, by kernel_rfl⟩, ⟨Tryz.func13, by kernel_rfl⟩, ⟨Tryz.func14, by kernel_rfl⟩, ⟨Tryz.func15, by kernel_rfl⟩, ⟨Tryz.func16, by kernel_rfl⟩, ⟨Tryz.func17, by kernel_rfl⟩, ⟨Tryz.func18, by kernel_rfl⟩, ⟨Tryz.func19, by kernel_rfl⟩, ⟨Tryz.func21, by kernel_rfl⟩, ⟨Tryz.func22, by kernel_rfl⟩, ⟨Tryz.func23, by kernel_rfl⟩, ⟨Tryz.func25, by kernel_rfl⟩, ⟨Tryz.func26, by kernel_rfl⟩, ⟨Tryz.func27, by kernel_rfl⟩, ⟨Tryz.func28, by kernel_rfl⟩, ⟨Tryz.func29, by kernel_rfl⟩, ⟨Tryz.func30, by kernel_rfl⟩, ⟨Tryz.func31, by kernel_rfl⟩, ⟨Tryz.func32, by kernel_rfl⟩, ⟨Tryz.func33, by kernel_rfl⟩, ⟨Tryz.func34, by kernel_rfl⟩, ⟨Tryz.func35, by kernel_rfl⟩, ⟨Tryz.func36, by kernel_rfl⟩, ⟨Tryz.func37, by kernel_rfl⟩, ⟨Tryz.func38, by kernel_rfl⟩, ⟨Tryz.func39, by kernel_rfl⟩, ⟨Tryz.func40, by kernel_rfl⟩, ⟨Tryz.func41, by kernel_rfl⟩, ⟨Tryz.func42, by kernel_rfl⟩, ⟨Tryz.func43, by kernel_rfl⟩, ⟨Tryz.func44, by kernel_rfl⟩, ⟨Tryz.func45, by kernel_rfl⟩, ⟨Tryz.func46, by kernel_rfl⟩, ⟨Tryz.func47, by kernel_rfl⟩, ⟨Tryz.func48, by kernel_rfl⟩, ⟨Tryz.func50, by kernel_rfl⟩, ⟨Tryz.func52, by kernel_rfl⟩, ⟨Tryz.func53, by kernel_rfl⟩, ⟨Tryz.func54, by kernel_rfl⟩, ⟨Tryz.func55, by kernel_rfl⟩, ⟨Tryz.func56, by kernel_rfl⟩, ⟨Tryz.func57, by kernel_rfl⟩, ⟨Tryz.func58, by kernel_rfl⟩, ⟨Tryz.func59, by kernel_rfl⟩, ⟨Tryz.func60, by kernel_rfl⟩, ⟨Tryz.func61, by kernel_rfl⟩, ⟨Tryz.func62, by kernel_rfl⟩, ⟨Tryz.func63, by kernel_rfl⟩, ⟨Tryz.func64, by kernel_rfl⟩, ⟨Tryz.func65, by kernel_rfl⟩, ⟨Tryz.func67, by kernel_rfl⟩, ⟨Tryz.func68, by kernel_rfl⟩, ⟨Tryz.func69, by kernel_rfl⟩, ⟨Tryz.func70, by kernel_rfl⟩, ⟨Tryz.func71, by kernel_rfl⟩, ⟨Tryz.func72, by kernel_rfl⟩, ⟨Tryz.func73, by kernel_rfl⟩, ⟨Tryz.func74, by kernel_rfl⟩, ⟨Tryz.func75, by kernel_rfl⟩, ⟨Tryz.func76, by kernel_rfl⟩, ⟨Tryz.func77, by kernel_rfl⟩, ⟨Tryz.func78, by kernel_rfl⟩, ⟨Tryz.func79, by kernel_rfl⟩, ⟨Tryz.func80, by kernel_rfl⟩, ⟨Tryz.func81, by kernel_rfl⟩, ⟨Tryz.func82, by kernel_rfl⟩, ⟨Tryz.func83, by kernel_rfl⟩, ⟨Tryz.func84, by kernel_rfl⟩, ⟨Tryz.func86, by kernel_rfl⟩, ⟨Tryz.func87, by kernel_rfl⟩, ⟨Tryz.func88, by kernel_rfl⟩, ⟨Tryz.func89, by kernel_rfl⟩, ⟨Tryz.func90, by kernel_rfl⟩, ⟨Tryz.func91, by kernel_rfl⟩, ⟨Tryz.func92, by kernel_rfl⟩, ⟨Tryz.func93, by kernel_rfl⟩, ⟨Tryz.func94, by kernel_rfl⟩, ⟨Tryz.func95, by kernel_rfl⟩, ⟨Tryz.func96, by kernel_rfl⟩, ⟨Tryz.func97, by kernel_rfl⟩, ⟨Tryz.func98, by kernel_rfl⟩, ⟨Tryz.func99, by kernel_rfl⟩, ⟨Tryz.func100, by kernel_rfl⟩, ⟨Tryz.func101, by kernel_rfl⟩, ⟨Tryz.func102, by kernel_rfl⟩, ⟨Tryz.func103, by kernel_rfl⟩, ⟨Tryz.func104, by kernel_rfl⟩, ⟨Tryz.func105, by kernel_rfl⟩, ⟨Tryz.func106, by kernel_rfl⟩, ⟨Tryz.func107, by kernel_rfl⟩, ⟨Tryz.func108, by kernel_rfl⟩, ⟨Tryz.func109, by kernel_rfl⟩, ⟨Tryz.func110, by kernel_rfl⟩, ⟨Tryz.func111, by kernel_rfl⟩, ⟨Tryz.func112, by kernel_rfl⟩, ⟨Tryz.func113, by kernel_rfl⟩, ⟨Tryz.func114, by kernel_rfl⟩, ⟨Tryz.func115, by kernel_rfl⟩, ⟨Tryz.func116, by kernel_rfl⟩, ⟨Tryz.func117, by kernel_rfl⟩, ⟨Tryz.func118, by kernel_rfl⟩, ⟨Tryz.func119, by kernel_rfl⟩, ⟨Tryz.func120, by kernel_rfl⟩, ⟨Tryz.func121, by kernel_rfl⟩, ⟨Tryz.func122, by kernel_rfl⟩, ⟨Tryz.func123, by kernel_rfl⟩, ⟨Tryz.func124, by kernel_rfl⟩, ⟨Tryz.func125, by kernel_rfl⟩, ⟨Tryz.func126, by kernel_rfl⟩, ⟨Tryz.func127, by kernel_rfl⟩, ⟨Tryz.func128, by kernel_rfl⟩, ⟨Tryz.func129, by kernel_rfl⟩, ⟨Tryz.func130, by kernel_rfl⟩, ⟨Tryz.func131, by kernel_rfl⟩, ⟨Tryz.func132, by kernel_rfl⟩, ⟨Tryz.func133, by kernel_rfl⟩, ⟨Tryz.func134, by kernel_rfl⟩, ⟨Tryz.func135, by kernel_rfl⟩, ⟨Tryz.func136, by kernel_rfl⟩, ⟨Tryz.func137, by kernel_rfl⟩, ⟨Tryz.func138, by kernel_rfl⟩, ⟨Tryz.func139, by kernel_rfl⟩, ⟨Tryz.func140, by kernel_rfl⟩, ⟨Tryz.func141, by kernel_rfl⟩, ⟨Tryz.func142, by kernel_rfl⟩, ⟨Tryz.func143, by kernel_rfl⟩, ⟨Tryz.func144, by kernel_rfl⟩, ⟨Tryz.func145, by kernel_rfl⟩, ⟨Tryz.func146, by kernel_rfl⟩, ⟨Tryz.func147, by kernel_rfl⟩, ⟨Tryz.func148, by kernel_rfl⟩, ⟨Tryz.func149, by kernel_rfl⟩, ⟨Tryz.func150, by kernel_rfl⟩, ⟨Tryz.func151, by kernel_rfl⟩, ⟨Tryz.func152, by kernel_rfl⟩, ⟨Tryz.func153, by kernel_rfl⟩, ⟨Tryz.func154, by kernel_rfl⟩, ⟨Tryz.func155, by kernel_rfl⟩, ⟨Tryz.func156, by kernel_rfl⟩, ⟨Tryz.func157, by kernel_rfl⟩, ⟨Tryz.func158, by kernel_rfl⟩, ⟨Tryz.func159, by kernel_rfl⟩, ⟨Tryz.func160, by kernel_rfl⟩, ⟨Tryz.func161, by kernel_rfl⟩, ⟨Tryz.func162, by kernel_rfl⟩, ⟨Tryz.func163, by kernel_rfl⟩, ⟨Tryz.func164, by kernel_rfl⟩, ⟨Tryz.func165, by kernel_rfl⟩, ⟨Tryz.func166, by kernel_rfl⟩, ⟨Tryz.func167, by kernel_rfl⟩, ⟨Tryz.func168, by kernel_rfl⟩, ⟨Tryz.func169, by kernel_rfl⟩, ⟨Tryz.func170, by kernel_rfl⟩, ⟨Tryz.func171, by kernel_rfl⟩, ⟨Tryz.func172, by kernel_rfl⟩, ⟨Tryz.func173, by kernel_rfl⟩, ⟨Tryz.func174, by kernel_rfl⟩, ⟨Tryz.func175, by kernel_rfl⟩, ⟨Tryz.func176, by kernel_rfl⟩, ⟨Tryz.func177, by kernel_rfl⟩, ⟨Tryz.func178, by kernel_rfl⟩, ⟨Tryz.func179, by kernel_rfl⟩, ⟨Tryz.func180, by kernel_rfl⟩, ⟨Tryz.func181, by kernel_rfl⟩, ⟨Tryz.func182, by kernel_rfl⟩, ⟨Tryz.func183, by kernel_rfl⟩, ⟨Tryz.func184, by kernel_rfl⟩, ⟨Tryz.func185, by kernel_rfl⟩, ⟨Tryz.func186, by kernel_rfl⟩, ⟨Tryz.func187, by kernel_rfl⟩, ⟨Tryz.func188, by kernel_rfl⟩, ⟨Tryz.func189, by kernel_rfl⟩, ⟨Tryz.func190, by kernel_rfl⟩, ⟨Tryz.func191, by kernel_rfl⟩, ⟨Tryz.func192, by kernel_rfl⟩, ⟨Tryz.func194, by kernel_rfl⟩, ⟨Tryz.func195, by kernel_rfl⟩, ⟨Tryz.func196, by kernel_rfl⟩, ⟨Tryz.func197, by kernel_rfl⟩, ⟨Tryz.func198, by kernel_rfl⟩, ⟨Tryz.func199, by kernel_rfl⟩, ⟨Tryz.func200, by kernel_rfl⟩, ⟨Tryz.func201, by kernel_rfl⟩, ⟨Tryz.func202, by kernel_rfl⟩, ⟨Tryz.func204, by kernel_rfl⟩, ⟨Tryz.func205, by kernel_rfl⟩, ⟨Tryz.func206, by kernel_rfl⟩, ⟨Tryz.func207, by kernel_rfl⟩, ⟨Tryz.func208, by kernel_rfl⟩, ⟨Tryz.func209, by kernel_rfl⟩, ⟨Tryz.func210, by kernel_rfl⟩, ⟨Tryz.func211, by kernel_rfl⟩, ⟨Tryz.func212, by kernel_rfl⟩, ⟨Tryz.func213, by kernel_rfl⟩, ⟨Tryz.func214, by kernel_rfl⟩, ⟨Tryz.func215, by kernel_rfl⟩, ⟨Tryz.func216, by kernel_rfl⟩, ⟨Tryz.func217, by kernel_rfl⟩, ⟨Tryz.func218, by kernel_rfl⟩, ⟨Tryz.func219, by kernel_rfl⟩, ⟨Tryz.func221, by kernel_rfl⟩, ⟨Tryz.func222, by kernel_rfl⟩, ⟨Tryz.func223, by kernel_rfl⟩, ⟨Tryz.func224, by kernel_rfl⟩, ⟨Tryz.func225, by kernel_rfl⟩, ⟨Tryz.func226, by kernel_rfl⟩, ⟨Tryz.func227, by kernel_rfl⟩, ⟨Tryz.func228, by kernel_rfl⟩, ⟨Tryz.func229, by kernel_rfl⟩, trivial⟩
open Go.RowKit (Below)
def gl : List (Nat × SV) := [(4, .sl 1 [.str [105, 110, 105, 110], .str [105, 48, 105, 110, 105, 110], .str [105, 110, 105, 48, 105, 110], .str [105, 110, 105, 110, 105, 110]]), (5, .sl 1 [.str [107, 48, 107, 110, 105, 110], .str [107, 110, 107, 48, 105, 110], .str [107, 110, 107, 110, 105, 110]])]
theorem zw3 (w : World) (u : Value) : Calls Tryz.prog F.prims_errs #[u] w fun e w' => e = .returned u /\ Below w.heap.size w w' := by
  refine calls_of_wp Tryz.func148 rfl ?_
  have e0 : (#[u] ++ Array.replicate (Tryz.f148.ntmps - #[u].size) undef) = #[u, undef, undef, undef] := by
    simp [Tryz.f148, Array.replicate]
  rw [e0]
  refine wp_seq (wp_region ?_)
  simp [wpOps, Region.wanted, Oper.wp, execOp, Oper.upon_value, Act.put, Act.eval, Exit.then, List.range, List.range.loop]
  refine .inl (wp_seq (wp_region ?_))
  simp [wpOps, Region.wanted, Oper.wp, execOp, Oper.upon_value, Act.put, Act.eval, Exit.then, List.range, List.range.loop]
  refine .inl (.inl (wp_ret ?_))
  refine ⟨rfl, u, ?_, rfl, Below.refl _ _⟩
  simp [results, Tryz.f148]
def E : Env := { P := Tryz.prog, tt := tt, gl := gl, lend := [F._Plexer_reader__class, F._Plexer_reader__while, F._policy_names__meet, F._Pstrings_Builder__WriteString, F._Pstrings_Builder__String, F.slices_SortFunc___audit_key_audit_key_, F.slices_pdqsortCmpFunc_audit_key_, F.slices_insertionSortCmpFunc_audit_key_], idf := [F.prims_errs], bts := [81] }
theorem zBu : ∀ f, qB f [F.prims_errs] = true -> qN Tryz.prog f /\ ∀ (w : World) (u : Value), Calls Tryz.prog f #[u] w fun e w' => e = .returned u /\ Below w.heap.size w w' := by
  intro f hf
  have : f = F.prims_errs := by simpa using memb_mem.1 hf
  subst this
  exact ⟨⟨_, Tryz.func148, rfl, by decide +kernel⟩, zw3⟩
set_option maxRecDepth 100000 in
theorem ok : EnvOK E := have h := zuv (gl := gl) (ld := []) zz4 mixed zBu; ⟨h.tt', h.mixed, h.idf, h.mt⟩
end Go.Sx.Tz
end
namespace Go.Sx.Tz
open Go.Proofs Go.Shelf
def ren : Go.Shelf.Ren := ⟨fun | 156 => 33 | 165 => 51 | 166 => 22 | 169 => 24 | 240 => 30 | 241 => 66 | 276 => 49 | 277 => 85 | n => n, fun | 0 => 0 | 3 => 3 | 4 => 4 | 5 => 5 | 9 => 9 | 20 => 20 | 31 => 22 | 37 => 23 | 70 => 79 | 72 => 81 | 75 => 83 | 76 => 84 | 80 => 87 | 127 => 100 | 164 => 122 | n => n, fun | n => n⟩
theorem zxn : Lays.n166 Tryz.prog ren := {
  mixed := by kernel_rfl
  f166 := Tryz.func22.trans (congrArg some (by kernel_rfl))
  f240 := Tryz.func30.trans (congrArg some (by kernel_rfl))
  f276 := Tryz.func49.trans (congrArg some (by kernel_rfl))
  t0 := Tryz.underlying0
  a0 := Tryz.isAgg0
  z0 := Tryz.sizeOf0
  v0 := Tryz.zeroValue0
  t3 := Tryz.underlying3
  a3 := Tryz.isAgg3
  z3 := Tryz.sizeOf3
  v3 := Tryz.zeroValue3
  t4 := Tryz.underlying4
  a4 := Tryz.isAgg4
  z4 := Tryz.sizeOf4
  v4 := Tryz.zeroValue4
  t9 := Tryz.underlying9
  a9 := Tryz.isAgg9
  z9 := Tryz.sizeOf9
  v9 := Tryz.zeroValue9
  t20 := Tryz.underlying20
  a20 := Tryz.isAgg20
  z20 := Tryz.sizeOf20
  v20 := Tryz.zeroValue20
  t37 := Tryz.underlying23
  a37 := Tryz.isAgg23
  z37 := Tryz.sizeOf23
  v37 := Tryz.zeroValue23
  t70 := Tryz.underlying79
  a70 := Tryz.isAgg79
  z70 := Tryz.sizeOf79
  v70 := Tryz.zeroValue79
  t72 := Tryz.underlying81
  a72 := Tryz.isAgg81
  z72 := Tryz.sizeOf81
  v72 := Tryz.zeroValue81
  t75 := Tryz.underlying83
  a75 := Tryz.isAgg83
  z75 := Tryz.sizeOf83
  v75 := Tryz.zeroValue83
  t164 := Tryz.underlying122
  a164 := Tryz.isAgg122
  z164 := Tryz.sizeOf122
  v164 := Tryz.zeroValue122 }
theorem zx2 : Lays.n169 Tryz.prog ren := {
  mixed := by kernel_rfl
  f169 := Tryz.func24.trans (congrArg some (by kernel_rfl))
  t0 := Tryz.underlying0
  a0 := Tryz.isAgg0
  z0 := Tryz.sizeOf0
  v0 := Tryz.zeroValue0
  t3 := Tryz.underlying3
  a3 := Tryz.isAgg3
  z3 := Tryz.sizeOf3
  v3 := Tryz.zeroValue3
  t9 := Tryz.underlying9
  a9 := Tryz.isAgg9
  z9 := Tryz.sizeOf9
  v9 := Tryz.zeroValue9
  t37 := Tryz.underlying23
  a37 := Tryz.isAgg23
  z37 := Tryz.sizeOf23
  v37 := Tryz.zeroValue23
  t70 := Tryz.underlying79
  a70 := Tryz.isAgg79
  z70 := Tryz.sizeOf79
  v70 := Tryz.zeroValue79
  t72 := Tryz.underlying81
  a72 := Tryz.isAgg81
  z72 := Tryz.sizeOf81
  v72 := Tryz.zeroValue81
  t127 := Tryz.underlying100
  a127 := Tryz.isAgg100
  z127 := Tryz.sizeOf100
  v127 := Tryz.zeroValue100 }
theorem zxd : Lays.n156 Tryz.prog ren := {
  mixed := by kernel_rfl
  f156 := Tryz.func33.trans (congrArg some (by kernel_rfl))
  f165 := Tryz.func51.trans (congrArg some (by kernel_rfl))
  f166 := Tryz.func22.trans (congrArg some (by kernel_rfl))
  f169 := Tryz.func24.trans (congrArg some (by kernel_rfl))
  f240 := Tryz.func30.trans (congrArg some (by kernel_rfl))
  f241 := Tryz.func66.trans (congrArg some (by kernel_rfl))
  f276 := Tryz.func49.trans (congrArg some (by kernel_rfl))
  f277 := Tryz.func85.trans (congrArg some (by kernel_rfl))
  t0 := Tryz.underlying0
  a0 := Tryz.isAgg0
  z0 := Tryz.sizeOf0
  v0 := Tryz.zeroValue0
  t3 := Tryz.underlying3
  a3 := Tryz.isAgg3
  z3 := Tryz.sizeOf3
  v3 := Tryz.zeroValue3
  t4 := Tryz.underlying4
  a4 := Tryz.isAgg4
  z4 := Tryz.sizeOf4
  v4 := Tryz.zeroValue4
  t9 := Tryz.underlying9
  a9 := Tryz.isAgg9
  z9 := Tryz.sizeOf9
  v9 := Tryz.zeroValue9
  t20 := Tryz.underlying20
  a20 := Tryz.isAgg20
  z20 := Tryz.sizeOf20
  v20 := Tryz.zeroValue20
  t31 := Tryz.underlying22
  a31 := Tryz.isAgg22
  z31 := Tryz.sizeOf22
  v31 := Tryz.zeroValue22
  t37 := Tryz.underlying23
  a37 := Tryz.isAgg23
  z37 := Tryz.sizeOf23
  v37 := Tryz.zeroValue23
  t70 := Tryz.underlying79
  a70 := Tryz.isAgg79
  z70 := Tryz.sizeOf79
  v70 := Tryz.zeroValue79
  t72 := Tryz.underlying81
  a72 := Tryz.isAgg81
  z72 := Tryz.sizeOf81
  v72 := Tryz.zeroValue81
  t75 := Tryz.underlying83
  a75 := Tryz.isAgg83
  z75 := Tryz.sizeOf83
  v75 := Tryz.zeroValue83
  t76 := Tryz.underlying84
  a76 := Tryz.isAgg84
  z76 := Tryz.sizeOf84
  v76 := Tryz.zeroValue84
  t127 := Tryz.underlying100
  a127 := Tryz.isAgg100
  z127 := Tryz.sizeOf100
  v127 := Tryz.zeroValue100
  t164 := Tryz.underlying122
  a164 := Tryz.isAgg122
  z164 := Tryz.sizeOf122
  v164 := Tryz.zeroValue122 }
theorem zmj : Builder.Extra Tryz.prog ren := {
  sizeBuilder := by kernel_rfl
  liesBuilder := by kernel_rfl
  t5 := Tryz.underlying5
  a5 := Tryz.isAgg5
  z5 := Tryz.sizeOf5
  v5 := Tryz.zeroValue5
  infoByte := by kernel_rfl
  cellsByte := by kernel_rfl
  sizeByte := by kernel_rfl
  neB5 := by decide }
def hk : Hk := ⟨[(33, zjx)], [(22, wrS 81 5), (24, stS 81 5)]⟩
set_option maxRecDepth 100000
theorem zB2 : qN E.P 22 := ⟨_, Tryz.func22, rfl, by decide +kernel⟩
theorem zCh : qN E.P 24 := ⟨_, Tryz.func24, rfl, by decide +kernel⟩
theorem zBa : qN E.P 33 := ⟨_, Tryz.func33, rfl, by decide +kernel⟩
theorem h33 : ∀ az r, zjx az = some r -> Ret E 33 az r := fun _ _ h => zu7 (E := E) (ρ := ren) zxd zmj zBa h
theorem h22 : zga E 22 (wrS 81 5) := zyl (E := E) (ρ := ren) zxn zmj (by decide) zB2
theorem h24 : zga E 24 (stS 81 5) := zzu (E := E) (ρ := ren) zx2 zmj zCh
theorem hk_ok : HkOK E hk := ⟨zbj h33 zxk, zkl h22 (zkl h24 zxu)⟩
end Go.Sx.Tz
noncomputable section
namespace Go.Sx.Tz
open Go.Proofs
set_option maxRecDepth 100000
def zph (l : List (List SV × SV)) : List SV -> Rt := fun az => match az with
  | .iptr p :: r => uS l (p :: r)
  | _ => none
def zjs (E : Env) (g : Nat) : List (List SV × SV) -> Prop
  | [] => True
  | (a, v) :: l => (∀ p r, a = p :: r -> Ret E g (.iptr p :: r) v) /\ zjs E g l
theorem zf8 {E : Env} {g : Nat} : ∀ {l : List (List SV × SV)}, zjs E g l -> ∀ p q r, uS l (p :: q) = some r -> Ret E g (.iptr p :: q) r
  | [], _, _, _, _, h => by cases h
  | (a, v) :: l, k, p, q, r, h => by
    unfold uS at h
    split at h
    . rename_i e
      cases h
      exact k.1 p q (zab e)
    . exact zf8 k.2 p q r h
theorem zuj {E : Env} {g : Nat} {l : List (List SV × SV)} (k : zjs E g l) : ∀ az r, zph l az = some r -> Ret E g az r := by
  intro az r h
  unfold zph at h
  split at h
  . exact zf8 k _ _ _ h
  . cases h
def yr : List SV := [.agg [.sl 1 [.str [108, 111, 119], .str [97, 110, 110], .str [98, 111, 98], .str [116, 111, 112]], .sl 1 [.int .u8 15, .int .u8 10, .int .u8 12, .int .u8 8]]]
def C_lattice_Check_1 : SV := .tup [.int .i64 0, .int .i64 0]
theorem zee : Ret E F.lattice_Check yr C_lattice_Check_1 := jk ok zaq HkOK.no (show wM E ft Hk.no 1000 60 (.ret F.lattice_Check yr) = some C_lattice_Check_1 by kernel_rfl)
def zA8 : List (Nat × Func) := wL [F.lattice_Check] ft
def hkM1 : Hk := ⟨(F.lattice_Check, uS [(yr, C_lattice_Check_1)]) :: hk.x, hk.s⟩
theorem hkM1_ok : HkOK E hkM1 := ⟨zbj (fun az r h => zb0 (l := [(yr, C_lattice_Check_1)]) ⟨zee, trivial⟩ az r h) hk_ok.x, hk_ok.s⟩
def yO : List SV := [.agg [.agg [.sl 1 [.str [108, 111, 119], .str [97, 110, 110], .str [98, 111, 98], .str [116, 111, 112]], .sl 1 [.int .u8 15, .int .u8 10, .int .u8 12, .int .u8 8]], .sl 2 [.agg [.str [98, 111, 97, 114, 100], .int .i64 0]], .sl 6 [.agg [.str [109, 97, 114, 107, 115], .agg [.int .i64 1, .int .i64 1, .arr 2 1 [.int .i64 0, .int .i64 0], .int .i64 3]], .agg [.str [110, 97, 109, 101, 115], .agg [.int .i64 2, .int .i64 1, .arr 2 1 [.int .i64 1, .int .i64 0], .int .i64 3]]], .sl 3 [.agg [.int .i64 3, .int .i64 1, .int .i64 5]]]]
def C_policy_Check_1 : SV := .tup [.int .i64 0, .int .i64 0, .int .i64 0]
theorem zfs : Ret E F.policy_Check yO C_policy_Check_1 := jk ok (yz zaq) hkM1_ok (show wM E zA8 hkM1 1000 60 (.ret F.policy_Check yO) = some C_policy_Check_1 by kernel_rfl)
def ftB : List (Nat × Func) := wL [22, 24, 33, F.lattice_Check, F.policy_Check] ft
def hkM2 : Hk := ⟨(F.policy_Check, uS [(yO, C_policy_Check_1)]) :: hkM1.x, hk.s⟩
theorem hkM2_ok : HkOK E hkM2 := ⟨zbj (fun az r h => zb0 (l := [(yO, C_policy_Check_1)]) ⟨zfs, trivial⟩ az r h) hkM1_ok.x, hk_ok.s⟩
def exP : SV := .agg [.agg [.sl 1 [.str [108, 111, 119], .str [97, 110, 110], .str [98, 111, 98], .str [116, 111, 112]], .sl 1 [.int .u8 15, .int .u8 10, .int .u8 12, .int .u8 8]], .sl 2 [.agg [.str [98, 111, 97, 114, 100], .int .i64 0]], .sl 6 [.agg [.str [109, 97, 114, 107, 115], .agg [.int .i64 1, .int .i64 1, .arr 2 1 [.int .i64 0, .int .i64 0], .int .i64 3]], .agg [.str [110, 97, 109, 101, 115], .agg [.int .i64 2, .int .i64 1, .arr 2 1 [.int .i64 1, .int .i64 0], .int .i64 3]]], .sl 3 [.agg [.int .i64 3, .int .i64 1, .int .i64 5]]]
def A_line_1 : List SV := [.iptr exP, .agg [.int .i64 3, .int .i64 1, .int .i64 3, .int .i64 1, .int .i64 5, .arr 2 1 [.int .i64 1, .int .i64 10]]]
def A_line_2 : List SV := [.iptr exP, .agg [.int .i64 9, .int .i64 2, .int .i64 3, .int .i64 1, .int .i64 2, .arr 2 1 [.int .i64 0, .int .i64 0]]]
def C_line_1 : SV := .str [51, 32, 115, 117, 109, 32, 116, 111, 112, 32, 97, 110, 110, 32, 53, 32, 49, 32, 49, 48, 10]
def C_line_2 : SV := .str [57, 32, 99, 111, 117, 110, 116, 32, 116, 111, 112, 32, 97, 110, 110, 32, 50, 32, 48, 32, 48, 10]
theorem zus : Ret E F.audit_line A_line_1 C_line_1 := za3 ok (yz zaq) hkM2_ok (fuel := 1000) (d := 60) (caps := [.ptr 6 [], .ptr 1 []]) (f := F.audit_line) (g := F.audit_line_1) Tryz.func23 Tryz.func32 (show zea E (wM E ftB hkM2 1000 60) 1000 Tryz.f23 F.audit_line_1 Tryz.f32 [.ptr 6 [], .ptr 1 []] A_line_1 = some C_line_1 by kernel_rfl)
theorem zvh : Ret E F.audit_line A_line_2 C_line_2 := za3 ok (yz zaq) hkM2_ok (fuel := 1000) (d := 60) (caps := [.ptr 6 [], .ptr 1 []]) (f := F.audit_line) (g := F.audit_line_1) Tryz.func23 Tryz.func32 (show zea E (wM E ftB hkM2 1000 60) 1000 Tryz.f23 F.audit_line_1 Tryz.f32 [.ptr 6 [], .ptr 1 []] A_line_2 = some C_line_2 by kernel_rfl)
def zvg : List SV := exP :: A_line_1.tail
def zvs : List SV := exP :: A_line_2.tail
def lLine : List (List SV × SV) := [(zvg, C_line_1), (zvs, C_line_2)]
theorem ztn : zjs E F.audit_line lLine := ⟨fun p r e => (by cases e; exact zus), fun p r e => (by cases e; exact zvh), trivial⟩
def hkM3 : Hk := ⟨(F.audit_line, zph lLine) :: hkM2.x, hk.s⟩
theorem zxi : HkOK E hkM3 := ⟨zbj (fun az r h => zuj ztn az r h) hkM2_ok.x, hk_ok.s⟩
def ftC : List (Nat × Func) := wL [22, 24, 33, F.lattice_Check, F.policy_Check, F.audit_line] ft
def V_invigilatorlaw30_awake : SV := .bool true
theorem L_invigilatorlaw30_awake : Ret E F.invigilatorlaw30_awake [] V_invigilatorlaw30_awake := jk ok (yz zaq) zxi (show wM E ftC hkM3 1000 60 (.ret F.invigilatorlaw30_awake []) = some V_invigilatorlaw30_awake by kernel_rfl)
end Go.Sx.Tz
end
