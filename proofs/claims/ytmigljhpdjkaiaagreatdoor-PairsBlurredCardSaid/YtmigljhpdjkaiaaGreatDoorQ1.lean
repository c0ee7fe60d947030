/-
  An own text of this claim.
-/
import Derived.Test.YtmigljhpdjkaiaaGreatDoorP2
import Derived.Test.YtmigljhpdjkaiaaGreatDoorProg
noncomputable section
namespace Go.Sx.Tz
open Go.Proofs
def tt : List (Nat × TI) := [(1, ⟨.fn, 1, 8, .nilf, false⟩),
  (2, ⟨.int .i64, 1, 8, .int .i64 0, false⟩),
  (3, ⟨.int .i64, 1, 8, .int .i64 0, false⟩),
  (4, ⟨.bool, 1, 1, .fls, false⟩),
  (5, ⟨.int .u8, 1, 1, .int .u8 0, false⟩),
  (6, ⟨.int .u8, 1, 1, .int .u8 0, false⟩),
  (7, ⟨.strct [(2, 0), (3, 1), (4, 2), (6, 3)], 4, 24, .agg [.int .i64 0, .int .i64 0, .fls, .int .u8 0], true⟩),
  (8, ⟨.strct [(2, 0), (3, 1), (4, 2), (6, 3)], 4, 24, .agg [.int .i64 0, .int .i64 0, .fls, .int .u8 0], true⟩),
  (9, ⟨.str, 1, 16, .str [], false⟩),
  (10, ⟨.str, 1, 16, .str [], false⟩),
  (11, ⟨.str, 1, 16, .str [], false⟩),
  (12, ⟨.int .u64, 1, 8, .int .u64 0, false⟩),
  (13, ⟨.strct [(9, 0), (12, 1)], 2, 24, .agg [.str [], .int .u64 0], false⟩),
  (14, ⟨.strct [(9, 0), (12, 1)], 2, 24, .agg [.str [], .int .u64 0], false⟩),
  (15, ⟨.ptr 301, 1, 8, .nilp, false⟩),
  (16, ⟨.ptr 304, 1, 8, .nilp, false⟩),
  (17, ⟨.ptr 313, 1, 8, .nilp, false⟩),
  (18, ⟨.strct [(17, 0)], 1, 8, .agg [.nilp], false⟩),
  (19, ⟨.strct [(17, 0)], 1, 8, .agg [.nilp], false⟩),
  (20, ⟨.ifc, 1, 16, .nili, false⟩),
  (21, ⟨.int .i32, 1, 4, .int .i32 0, false⟩),
  (22, ⟨.sl 9, 1, 24, .nils, false⟩),
  (23, ⟨.sl 5, 1, 24, .nils, false⟩),
  (24, ⟨.strct [(22, 0), (23, 1)], 2, 48, .agg [.nils, .nils], true⟩),
  (25, ⟨.strct [(22, 0), (23, 1)], 2, 48, .agg [.nils, .nils], true⟩),
  (26, ⟨.sl 87, 1, 24, .nils, false⟩),
  (27, ⟨.sl 73, 1, 24, .nils, false⟩),
  (28, ⟨.sl 91, 1, 24, .nils, false⟩),
  (29, ⟨.strct [(25, 0), (26, 2), (27, 3), (28, 4)], 5, 120, .agg [.agg [.nils, .nils], .nils, .nils, .nils], true⟩),
  (30, ⟨.strct [(25, 0), (26, 2), (27, 3), (28, 4)], 5, 120, .agg [.agg [.nils, .nils], .nils, .nils, .nils], true⟩),
  (31, ⟨.sl 54, 1, 24, .nils, false⟩),
  (32, ⟨.fn, 1, 8, .nilf, false⟩),
  (33, ⟨.fn, 1, 8, .nilf, false⟩),
  (34, ⟨.int .i64, 1, 8, .int .i64 0, false⟩),
  (36, ⟨.fn, 1, 8, .nilf, false⟩),
  (38, ⟨.fn, 1, 8, .nilf, false⟩),
  (40, ⟨.fn, 1, 8, .nilf, false⟩),
  (41, ⟨.sl 47, 1, 24, .nils, false⟩),
  (43, ⟨.fn, 1, 8, .nilf, false⟩),
  (44, ⟨.fn, 1, 8, .nilf, false⟩),
  (45, ⟨.arr 2 4, 2, 2, .arr 2 1 [.fls, .fls], true⟩),
  (46, ⟨.strct [(45, 0), (4, 2)], 3, 3, .agg [.arr 2 1 [.fls, .fls], .fls], true⟩),
  (47, ⟨.strct [(45, 0), (4, 2)], 3, 3, .agg [.arr 2 1 [.fls, .fls], .fls], true⟩),
  (48, ⟨.fn, 1, 8, .nilf, false⟩),
  (49, ⟨.arr 2 3, 2, 16, .arr 2 1 [.int .i64 0, .int .i64 0], true⟩),
  (50, ⟨.sl 2, 1, 24, .nils, false⟩),
  (51, ⟨.strct [(3, 0), (3, 1), (49, 2), (50, 4)], 5, 56, .agg [.int .i64 0, .int .i64 0, .arr 2 1 [.int .i64 0, .int .i64 0], .nils], true⟩),
  (52, ⟨.strct [(3, 0), (3, 1), (49, 2), (50, 4)], 5, 56, .agg [.int .i64 0, .int .i64 0, .arr 2 1 [.int .i64 0, .int .i64 0], .nils], true⟩),
  (53, ⟨.strct [(9, 0), (52, 1)], 6, 72, .agg [.str [], .agg [.int .i64 0, .int .i64 0, .arr 2 1 [.int .i64 0, .int .i64 0], .nils]], true⟩),
  (54, ⟨.strct [(9, 0), (52, 1)], 6, 72, .agg [.str [], .agg [.int .i64 0, .int .i64 0, .arr 2 1 [.int .i64 0, .int .i64 0], .nils]], true⟩),
  (55, ⟨.fn, 1, 8, .nilf, false⟩),
  (56, ⟨.fn, 1, 8, .nilf, false⟩),
  (57, ⟨.fn, 1, 8, .nilf, false⟩),
  (58, ⟨.fn, 1, 8, .nilf, false⟩),
  (60, ⟨.fn, 1, 8, .nilf, false⟩),
  (61, ⟨.sl 3, 1, 24, .nils, false⟩),
  (63, ⟨.fn, 1, 8, .nilf, false⟩),
  (64, ⟨.fn, 1, 8, .nilf, false⟩),
  (65, ⟨.fn, 1, 8, .nilf, false⟩),
  (66, ⟨.fn, 1, 8, .nilf, false⟩),
  (67, ⟨.fn, 1, 8, .nilf, false⟩),
  (69, ⟨.fn, 1, 8, .nilf, false⟩),
  (70, ⟨.strct [(3, 0), (3, 1), (49, 2), (3, 4)], 5, 40, .agg [.int .i64 0, .int .i64 0, .arr 2 1 [.int .i64 0, .int .i64 0], .int .i64 0], true⟩),
  (71, ⟨.strct [(3, 0), (3, 1), (49, 2), (3, 4)], 5, 40, .agg [.int .i64 0, .int .i64 0, .arr 2 1 [.int .i64 0, .int .i64 0], .int .i64 0], true⟩),
  (72, ⟨.strct [(9, 0), (71, 1)], 6, 56, .agg [.str [], .agg [.int .i64 0, .int .i64 0, .arr 2 1 [.int .i64 0, .int .i64 0], .int .i64 0]], true⟩),
  (73, ⟨.strct [(9, 0), (71, 1)], 6, 56, .agg [.str [], .agg [.int .i64 0, .int .i64 0, .arr 2 1 [.int .i64 0, .int .i64 0], .int .i64 0]], true⟩),
  (74, ⟨.fn, 1, 8, .nilf, false⟩),
  (75, ⟨.fn, 1, 8, .nilf, false⟩),
  (76, ⟨.ptr 30, 1, 8, .nilp, false⟩),
  (77, ⟨.fn, 1, 8, .nilf, false⟩),
  (79, ⟨.fn, 1, 8, .nilf, false⟩),
  (80, ⟨.fn, 1, 8, .nilf, false⟩),
  (81, ⟨.fn, 1, 8, .nilf, false⟩),
  (82, ⟨.fn, 1, 8, .nilf, false⟩),
  (83, ⟨.fn, 1, 8, .nilf, false⟩),
  (84, ⟨.fn, 1, 8, .nilf, false⟩),
  (85, ⟨.fn, 1, 8, .nilf, false⟩),
  (86, ⟨.strct [(9, 0), (3, 1)], 2, 24, .agg [.str [], .int .i64 0], true⟩),
  (87, ⟨.strct [(9, 0), (3, 1)], 2, 24, .agg [.str [], .int .i64 0], true⟩),
  (88, ⟨.fn, 1, 8, .nilf, false⟩),
  (89, ⟨.fn, 1, 8, .nilf, false⟩),
  (90, ⟨.strct [(3, 0), (3, 1), (3, 2)], 3, 24, .agg [.int .i64 0, .int .i64 0, .int .i64 0], true⟩),
  (91, ⟨.strct [(3, 0), (3, 1), (3, 2)], 3, 24, .agg [.int .i64 0, .int .i64 0, .int .i64 0], true⟩),
  (92, ⟨.fn, 1, 8, .nilf, false⟩),
  (93, ⟨.fn, 1, 8, .nilf, false⟩),
  (94, ⟨.fn, 1, 8, .nilf, false⟩),
  (95, ⟨.fn, 1, 8, .nilf, false⟩),
  (96, ⟨.fn, 1, 8, .nilf, false⟩),
  (97, ⟨.fn, 1, 8, .nilf, false⟩),
  (99, ⟨.fn, 1, 8, .nilf, false⟩),
  (100, ⟨.fn, 1, 8, .nilf, false⟩),
  (101, ⟨.fn, 1, 8, .nilf, false⟩),
  (102, ⟨.fn, 1, 8, .nilf, false⟩),
  (103, ⟨.fn, 1, 8, .nilf, false⟩),
  (104, ⟨.sl 31, 1, 24, .nils, false⟩),
  (106, ⟨.fn, 1, 8, .nilf, false⟩),
  (108, ⟨.fn, 1, 8, .nilf, false⟩),
  (109, ⟨.fn, 1, 8, .nilf, false⟩),
  (110, ⟨.fn, 1, 8, .nilf, false⟩),
  (111, ⟨.fn, 1, 8, .nilf, false⟩),
  (112, ⟨.fn, 1, 8, .nilf, false⟩),
  (113, ⟨.strct [(22, 0), (23, 1)], 2, 48, .agg [.nils, .nils], true⟩),
  (114, ⟨.fn, 1, 8, .nilf, false⟩),
  (115, ⟨.ptr 113, 1, 8, .nilp, false⟩),
  (116, ⟨.fn, 1, 8, .nilf, false⟩),
  (117, ⟨.ptr 52, 1, 8, .nilp, false⟩),
  (118, ⟨.fn, 1, 8, .nilf, false⟩),
  (119, ⟨.fn, 1, 8, .nilf, false⟩),
  (120, ⟨.fn, 1, 8, .nilf, false⟩),
  (121, ⟨.fn, 1, 8, .nilf, false⟩),
  (122, ⟨.fn, 1, 8, .nilf, false⟩),
  (123, ⟨.fn, 1, 8, .nilf, false⟩),
  (124, ⟨.fn, 1, 8, .nilf, false⟩),
  (125, ⟨.fn, 1, 8, .nilf, false⟩),
  (126, ⟨.fn, 1, 8, .nilf, false⟩),
  (127, ⟨.sl 131, 1, 24, .nils, false⟩),
  (128, ⟨.fn, 1, 8, .nilf, false⟩),
  (129, ⟨.fn, 1, 8, .nilf, false⟩),
  (130, ⟨.strct [(129, 0)], 1, 8, .agg [.nilf], true⟩),
  (131, ⟨.strct [(129, 0)], 1, 8, .agg [.nilf], true⟩),
  (132, ⟨.strct [(25, 0), (3, 2)], 3, 56, .agg [.agg [.nils, .nils], .int .i64 0], true⟩),
  (133, ⟨.strct [(25, 0), (3, 2)], 3, 56, .agg [.agg [.nils, .nils], .int .i64 0], true⟩),
  (135, ⟨.fn, 1, 8, .nilf, false⟩),
  (136, ⟨.fn, 1, 8, .nilf, false⟩),
  (137, ⟨.fn, 1, 8, .nilf, false⟩),
  (138, ⟨.sl 3, 1, 24, .nils, false⟩),
  (139, ⟨.fn, 1, 8, .nilf, false⟩),
  (140, ⟨.fn, 1, 8, .nilf, false⟩),
  (141, ⟨.fn, 1, 8, .nilf, false⟩),
  (142, ⟨.fn, 1, 8, .nilf, false⟩),
  (143, ⟨.fn, 1, 8, .nilf, false⟩),
  (144, ⟨.fn, 1, 8, .nilf, false⟩),
  (145, ⟨.fn, 1, 8, .nilf, false⟩),
  (146, ⟨.fn, 1, 8, .nilf, false⟩),
  (147, ⟨.fn, 1, 8, .nilf, false⟩),
  (148, ⟨.fn, 1, 8, .nilf, false⟩),
  (149, ⟨.arr 8 5, 8, 8, .arr 8 1 [.int .u8 0, .int .u8 0, .int .u8 0, .int .u8 0, .int .u8 0, .int .u8 0, .int .u8 0, .int .u8 0], true⟩),
  (150, ⟨.arr 8 5, 8, 8, .arr 8 1 [.int .u8 0, .int .u8 0, .int .u8 0, .int .u8 0, .int .u8 0, .int .u8 0, .int .u8 0, .int .u8 0], true⟩),
  (151, ⟨.arr 8 5, 8, 8, .arr 8 1 [.int .u8 0, .int .u8 0, .int .u8 0, .int .u8 0, .int .u8 0, .int .u8 0, .int .u8 0, .int .u8 0], true⟩),
  (152, ⟨.strct [(3, 0), (150, 1), (151, 9)], 17, 24, .agg [.int .i64 0, .arr 8 1 [.int .u8 0, .int .u8 0, .int .u8 0, .int .u8 0, .int .u8 0, .int .u8 0, .int .u8 0, .int .u8 0], .arr 8 1 [.int .u8 0, .int .u8 0, .int .u8 0, .int .u8 0, .int .u8 0, .int .u8 0, .int .u8 0, .int .u8 0]], true⟩),
  (153, ⟨.strct [(3, 0), (150, 1), (151, 9)], 17, 24, .agg [.int .i64 0, .arr 8 1 [.int .u8 0, .int .u8 0, .int .u8 0, .int .u8 0, .int .u8 0, .int .u8 0, .int .u8 0, .int .u8 0], .arr 8 1 [.int .u8 0, .int .u8 0, .int .u8 0, .int .u8 0, .int .u8 0, .int .u8 0, .int .u8 0, .int .u8 0]], true⟩),
  (154, ⟨.fn, 1, 8, .nilf, false⟩),
  (155, ⟨.ptr 25, 1, 8, .nilp, false⟩),
  (156, ⟨.fn, 1, 8, .nilf, false⟩),
  (157, ⟨.fn, 1, 8, .nilf, false⟩),
  (158, ⟨.fn, 1, 8, .nilf, false⟩),
  (159, ⟨.fn, 1, 8, .nilf, false⟩),
  (160, ⟨.int .u64, 1, 8, .int .u64 0, false⟩),
  (161, ⟨.ifc, 1, 16, .nili, false⟩),
  (162, ⟨.ifc, 1, 16, .nili, false⟩),
  (163, ⟨.fn, 1, 8, .nilf, false⟩),
  (164, ⟨.fn, 1, 8, .nilf, false⟩),
  (165, ⟨.fn, 1, 8, .nilf, false⟩),
  (166, ⟨.strct [(3, 0), (3, 1), (3, 2), (2, 3), (9, 4)], 5, 48, .agg [.int .i64 0, .int .i64 0, .int .i64 0, .int .i64 0, .str []], true⟩),
  (167, ⟨.strct [(3, 0), (3, 1), (3, 2), (2, 3), (9, 4)], 5, 48, .agg [.int .i64 0, .int .i64 0, .int .i64 0, .int .i64 0, .str []], true⟩),
  (168, ⟨.fn, 1, 8, .nilf, false⟩),
  (169, ⟨.mp 9 4, 1, 8, .any, false⟩),
  (170, ⟨.mp 9 4, 1, 8, .any, false⟩),
  (171, ⟨.fn, 1, 8, .nilf, false⟩),
  (172, ⟨.fn, 1, 8, .nilf, false⟩),
  (173, ⟨.mp 49 4, 1, 8, .any, false⟩),
  (174, ⟨.fn, 1, 8, .nilf, false⟩),
  (175, ⟨.fn, 1, 8, .nilf, false⟩),
  (176, ⟨.fn, 1, 8, .nilf, false⟩),
  (177, ⟨.fn, 1, 8, .nilf, false⟩),
  (178, ⟨.fn, 1, 8, .nilf, false⟩),
  (179, ⟨.fn, 1, 8, .nilf, false⟩),
  (180, ⟨.int .i64, 1, 8, .int .i64 0, false⟩),
  (182, ⟨.fn, 1, 8, .nilf, false⟩),
  (183, ⟨.fn, 1, 8, .nilf, false⟩),
  (184, ⟨.fn, 1, 8, .nilf, false⟩),
  (186, ⟨.fn, 1, 8, .nilf, false⟩),
  (187, ⟨.fn, 1, 8, .nilf, false⟩),
  (188, ⟨.int .u32, 1, 4, .int .u32 0, false⟩),
  (189, ⟨.fn, 1, 8, .nilf, false⟩),
  (190, ⟨.int .u64, 1, 8, .int .u64 0, false⟩),
  (191, ⟨.fn, 1, 8, .nilf, false⟩),
  (193, ⟨.fn, 1, 8, .nilf, false⟩),
  (194, ⟨.fn, 1, 8, .nilf, false⟩),
  (195, ⟨.fn, 1, 8, .nilf, false⟩),
  (196, ⟨.fn, 1, 8, .nilf, false⟩),
  (197, ⟨.int .u64, 1, 8, .int .u64 0, false⟩),
  (198, ⟨.fn, 1, 8, .nilf, false⟩),
  (199, ⟨.fn, 1, 8, .nilf, false⟩),
  (200, ⟨.fn, 1, 8, .nilf, false⟩),
  (201, ⟨.ptr 3, 1, 8, .nilp, false⟩),
  (202, ⟨.fn, 1, 8, .nilf, false⟩),
  (204, ⟨.fn, 1, 8, .nilf, false⟩),
  (205, ⟨.fn, 1, 8, .nilf, false⟩),
  (206, ⟨.arr 256 4, 256, 256, .arr 256 1 [.fls, .fls, .fls, .fls, .fls, .fls, .fls, .fls, .fls, .fls, .fls, .fls, .fls, .fls, .fls, .fls, .fls, .fls, .fls, .fls, .fls, .fls, .fls, .fls, .fls, .fls, .fls, .fls, .fls, .fls, .fls, .fls, .fls, .fls, .fls, .fls, .fls, .fls, .fls, .fls, .fls, .fls, .fls, .fls, .fls, .fls, .fls, .fls, .fls, .fls, .fls, .fls, .fls, .fls, .fls, .fls, .fls, .fls, .fls, .fls, .fls, .fls, .fls, .fls, .fls, .fls, .fls, .fls, .fls, .fls, .fls, .fls, .fls, .fls, .fls, .fls, .fls, .fls, .fls, .fls, .fls, .fls, .fls, .fls, .fls, .fls, .fls, .fls, .fls, .fls, .fls, .fls, .fls, .fls, .fls, .fls, .fls, .fls, .fls, .fls, .fls, .fls, .fls, .fls, .fls, .fls, .fls, .fls, .fls, .fls, .fls, .fls, .fls, .fls, .fls, .fls, .fls, .fls, .fls, .fls, .fls, .fls, .fls, .fls, .fls, .fls, .fls, .fls, .fls, .fls, .fls, .fls, .fls, .fls, .fls, .fls, .fls, .fls, .fls, .fls, .fls, .fls, .fls, .fls, .fls, .fls, .fls, .fls, .fls, .fls, .fls, .fls, .fls, .fls, .fls, .fls, .fls, .fls, .fls, .fls, .fls, .fls, .fls, .fls, .fls, .fls, .fls, .fls, .fls, .fls, .fls, .fls, .fls, .fls, .fls, .fls, .fls, .fls, .fls, .fls, .fls, .fls, .fls, .fls, .fls, .fls, .fls, .fls, .fls, .fls, .fls, .fls, .fls, .fls, .fls, .fls, .fls, .fls, .fls, .fls, .fls, .fls, .fls, .fls, .fls, .fls, .fls, .fls, .fls, .fls, .fls, .fls, .fls, .fls, .fls, .fls, .fls, .fls, .fls, .fls, .fls, .fls, .fls, .fls, .fls, .fls, .fls, .fls, .fls, .fls, .fls, .fls, .fls, .fls, .fls, .fls, .fls, .fls, .fls, .fls, .fls, .fls, .fls, .fls, .fls, .fls, .fls, .fls, .fls, .fls, .fls, .fls, .fls, .fls, .fls, .fls], true⟩),
  (207, ⟨.arr 256 4, 256, 256, .arr 256 1 [.fls, .fls, .fls, .fls, .fls, .fls, .fls, .fls, .fls, .fls, .fls, .fls, .fls, .fls, .fls, .fls, .fls, .fls, .fls, .fls, .fls, .fls, .fls, .fls, .fls, .fls, .fls, .fls, .fls, .fls, .fls, .fls, .fls, .fls, .fls, .fls, .fls, .fls, .fls, .fls, .fls, .fls, .fls, .fls, .fls, .fls, .fls, .fls, .fls, .fls, .fls, .fls, .fls, .fls, .fls, .fls, .fls, .fls, .fls, .fls, .fls, .fls, .fls, .fls, .fls, .fls, .fls, .fls, .fls, .fls, .fls, .fls, .fls, .fls, .fls, .fls, .fls, .fls, .fls, .fls, .fls, .fls, .fls, .fls, .fls, .fls, .fls, .fls, .fls, .fls, .fls, .fls, .fls, .fls, .fls, .fls, .fls, .fls, .fls, .fls, .fls, .fls, .fls, .fls, .fls, .fls, .fls, .fls, .fls, .fls, .fls, .fls, .fls, .fls, .fls, .fls, .fls, .fls, .fls, .fls, .fls, .fls, .fls, .fls, .fls, .fls, .fls, .fls, .fls, .fls, .fls, .fls, .fls, .fls, .fls, .fls, .fls, .fls, .fls, .fls, .fls, .fls, .fls, .fls, .fls, .fls, .fls, .fls, .fls, .fls, .fls, .fls, .fls, .fls, .fls, .fls, .fls, .fls, .fls, .fls, .fls, .fls, .fls, .fls, .fls, .fls, .fls, .fls, .fls, .fls, .fls, .fls, .fls, .fls, .fls, .fls, .fls, .fls, .fls, .fls, .fls, .fls, .fls, .fls, .fls, .fls, .fls, .fls, .fls, .fls, .fls, .fls, .fls, .fls, .fls, .fls, .fls, .fls, .fls, .fls, .fls, .fls, .fls, .fls, .fls, .fls, .fls, .fls, .fls, .fls, .fls, .fls, .fls, .fls, .fls, .fls, .fls, .fls, .fls, .fls, .fls, .fls, .fls, .fls, .fls, .fls, .fls, .fls, .fls, .fls, .fls, .fls, .fls, .fls, .fls, .fls, .fls, .fls, .fls, .fls, .fls, .fls, .fls, .fls, .fls, .fls, .fls, .fls, .fls, .fls, .fls, .fls, .fls, .fls, .fls, .fls], true⟩),
  (209, ⟨.fn, 1, 8, .nilf, false⟩),
  (210, ⟨.fn, 1, 8, .nilf, false⟩),
  (211, ⟨.ptr 207, 1, 8, .nilp, false⟩),
  (212, ⟨.ptr 197, 1, 8, .nilp, false⟩),
  (214, ⟨.fn, 1, 8, .nilf, false⟩),
  (216, ⟨.fn, 1, 8, .nilf, false⟩),
  (217, ⟨.fn, 1, 8, .nilf, false⟩),
  (218, ⟨.sl 224, 1, 24, .nils, false⟩),
  (219, ⟨.fn, 1, 8, .nilf, false⟩),
  (220, ⟨.sl 34, 1, 24, .nils, false⟩),
  (221, ⟨.fn, 1, 8, .nilf, false⟩),
  (222, ⟨.fn, 1, 8, .nilf, false⟩),
  (223, ⟨.strct [(9, 0), (22, 1), (220, 2), (221, 3), (222, 4)], 5, 80, .agg [.str [], .nils, .nils, .nilf, .nilf], true⟩),
  (224, ⟨.strct [(9, 0), (22, 1), (220, 2), (221, 3), (222, 4)], 5, 80, .agg [.str [], .nils, .nils, .nilf, .nilf], true⟩),
  (225, ⟨.ptr 227, 1, 8, .nilp, false⟩),
  (226, ⟨.strct [(9, 0), (3, 1)], 2, 24, .agg [.str [], .int .i64 0], true⟩),
  (227, ⟨.strct [(9, 0), (3, 1)], 2, 24, .agg [.str [], .int .i64 0], true⟩),
  (228, ⟨.fn, 1, 8, .nilf, false⟩),
  (229, ⟨.fn, 1, 8, .nilf, false⟩),
  (231, ⟨.fn, 1, 8, .nilf, false⟩),
  (232, ⟨.fn, 1, 8, .nilf, false⟩),
  (233, ⟨.fn, 1, 8, .nilf, false⟩),
  (235, ⟨.fn, 1, 8, .nilf, false⟩),
  (236, ⟨.fn, 1, 8, .nilf, false⟩),
  (237, ⟨.fn, 1, 8, .nilf, false⟩),
  (238, ⟨.fn, 1, 8, .nilf, false⟩),
  (239, ⟨.fn, 1, 8, .nilf, false⟩),
  (240, ⟨.arr 256 5, 256, 256, .arr 256 1 [.int .u8 0, .int .u8 0, .int .u8 0, .int .u8 0, .int .u8 0, .int .u8 0, .int .u8 0, .int .u8 0, .int .u8 0, .int .u8 0, .int .u8 0, .int .u8 0, .int .u8 0, .int .u8 0, .int .u8 0, .int .u8 0, .int .u8 0, .int .u8 0, .int .u8 0, .int .u8 0, .int .u8 0, .int .u8 0, .int .u8 0, .int .u8 0, .int .u8 0, .int .u8 0, .int .u8 0, .int .u8 0, .int .u8 0, .int .u8 0, .int .u8 0, .int .u8 0, .int .u8 0, .int .u8 0, .int .u8 0, .int .u8 0, .int .u8 0, .int .u8 0, .int .u8 0, .int .u8 0, .int .u8 0, .int .u8 0, .int .u8 0, .int .u8 0, .int .u8 0, .int .u8 0, .int .u8 0, .int .u8 0, .int .u8 0, .int .u8 0, .int .u8 0, .int .u8 0, .int .u8 0, .int .u8 0, .int .u8 0, .int .u8 0, .int .u8 0, .int .u8 0, .int .u8 0, .int .u8 0, .int .u8 0, .int .u8 0, .int .u8 0, .int .u8 0, .int .u8 0, .int .u8 0, .int .u8 0, .int .u8 0, .int .u8 0, .int .u8 0, .int .u8 0, .int .u8 0, .int .u8 0, .int .u8 0, .int .u8 0, .int .u8 0, .int .u8 0, .int .u8 0, .int .u8 0, .int .u8 0, .int .u8 0, .int .u8 0, .int .u8 0, .int .u8 0, .int .u8 0, .int .u8 0, .int .u8 0, .int .u8 0, .int .u8 0, .int .u8 0, .int .u8 0, .int .u8 0, .int .u8 0, .int .u8 0, .int .u8 0, .int .u8 0, .int .u8 0, .int .u8 0, .int .u8 0, .int .u8 0, .int .u8 0, .int .u8 0, .int .u8 0, .int .u8 0, .int .u8 0, .int .u8 0, .int .u8 0, .int .u8 0, .int .u8 0, .int .u8 0, .int .u8 0, .int .u8 0, .int .u8 0, .int .u8 0, .int .u8 0, .int .u8 0, .int .u8 0, .int .u8 0, .int .u8 0, .int .u8 0, .int .u8 0, .int .u8 0, .int .u8 0, .int .u8 0, .int .u8 0, .int .u8 0, .int .u8 0, .int .u8 0, .int .u8 0, .int .u8 0, .int .u8 0, .int .u8 0, .int .u8 0, .int .u8 0, .int .u8 0, .int .u8 0, .int .u8 0, .int .u8 0, .int .u8 0, .int .u8 0, .int .u8 0, .int .u8 0, .int .u8 0, .int .u8 0, .int .u8 0, .int .u8 0, .int .u8 0, .int .u8 0, .int .u8 0, .int .u8 0, .int .u8 0, .int .u8 0, .int .u8 0, .int .u8 0, .int .u8 0, .int .u8 0, .int .u8 0, .int .u8 0, .int .u8 0, .int .u8 0, .int .u8 0, .int .u8 0, .int .u8 0, .int .u8 0, .int .u8 0, .int .u8 0, .int .u8 0, .int .u8 0, .int .u8 0, .int .u8 0, .int .u8 0, .int .u8 0, .int .u8 0, .int .u8 0, .int .u8 0, .int .u8 0, .int .u8 0, .int .u8 0, .int .u8 0, .int .u8 0, .int .u8 0, .int .u8 0, .int .u8 0, .int .u8 0, .int .u8 0, .int .u8 0, .int .u8 0, .int .u8 0, .int .u8 0, .int .u8 0, .int .u8 0, .int .u8 0, .int .u8 0, .int .u8 0, .int .u8 0, .int .u8 0, .int .u8 0, .int .u8 0, .int .u8 0, .int .u8 0, .int .u8 0, .int .u8 0, .int .u8 0, .int .u8 0, .int .u8 0, .int .u8 0, .int .u8 0, .int .u8 0, .int .u8 0, .int .u8 0, .int .u8 0, .int .u8 0, .int .u8 0, .int .u8 0, .int .u8 0, .int .u8 0, .int .u8 0, .int .u8 0, .int .u8 0, .int .u8 0, .int .u8 0, .int .u8 0, .int .u8 0, .int .u8 0, .int .u8 0, .int .u8 0, .int .u8 0, .int .u8 0, .int .u8 0, .int .u8 0, .int .u8 0, .int .u8 0, .int .u8 0, .int .u8 0, .int .u8 0, .int .u8 0, .int .u8 0, .int .u8 0, .int .u8 0, .int .u8 0, .int .u8 0, .int .u8 0, .int .u8 0, .int .u8 0, .int .u8 0, .int .u8 0, .int .u8 0, .int .u8 0, .int .u8 0, .int .u8 0, .int .u8 0, .int .u8 0, .int .u8 0, .int .u8 0, .int .u8 0, .int .u8 0], true⟩),
  (241, ⟨.strct [(5, 0), (5, 1)], 2, 2, .agg [.int .u8 0, .int .u8 0], true⟩),
  (242, ⟨.strct [(5, 0), (5, 1)], 2, 2, .agg [.int .u8 0, .int .u8 0], true⟩),
  (243, ⟨.arr 16 242, 32, 32, .arr 16 2 [.agg [.int .u8 0, .int .u8 0], .agg [.int .u8 0, .int .u8 0], .agg [.int .u8 0, .int .u8 0], .agg [.int .u8 0, .int .u8 0], .agg [.int .u8 0, .int .u8 0], .agg [.int .u8 0, .int .u8 0], .agg [.int .u8 0, .int .u8 0], .agg [.int .u8 0, .int .u8 0], .agg [.int .u8 0, .int .u8 0], .agg [.int .u8 0, .int .u8 0], .agg [.int .u8 0, .int .u8 0], .agg [.int .u8 0, .int .u8 0], .agg [.int .u8 0, .int .u8 0], .agg [.int .u8 0, .int .u8 0], .agg [.int .u8 0, .int .u8 0], .agg [.int .u8 0, .int .u8 0]], true⟩),
  (244, ⟨.fn, 1, 8, .nilf, false⟩),
  (245, ⟨.arr 5 2, 5, 40, .arr 5 1 [.int .i64 0, .int .i64 0, .int .i64 0, .int .i64 0, .int .i64 0], true⟩),
  (246, ⟨.fn, 1, 8, .nilf, false⟩),
  (247, ⟨.fn, 1, 8, .nilf, false⟩),
  (248, ⟨.fn, 1, 8, .nilf, false⟩),
  (249, ⟨.fn, 1, 8, .nilf, false⟩),
  (250, ⟨.fn, 1, 8, .nilf, false⟩),
  (251, ⟨.fn, 1, 8, .nilf, false⟩),
  (252, ⟨.fn, 1, 8, .nilf, false⟩),
  (253, ⟨.fn, 1, 8, .nilf, false⟩),
  (254, ⟨.fn, 1, 8, .nilf, false⟩),
  (256, ⟨.fn, 1, 8, .nilf, false⟩),
  (258, ⟨.fn, 1, 8, .nilf, false⟩),
  (259, ⟨.fn, 1, 8, .nilf, false⟩),
  (260, ⟨.fn, 1, 8, .nilf, false⟩),
  (261, ⟨.fn, 1, 8, .nilf, false⟩),
  (262, ⟨.fn, 1, 8, .nilf, false⟩),
  (263, ⟨.sl 50, 1, 24, .nils, false⟩),
  (265, ⟨.fn, 1, 8, .nilf, false⟩),
  (266, ⟨.fn, 1, 8, .nilf, false⟩),
  (267, ⟨.fn, 1, 8, .nilf, false⟩),
  (268, ⟨.fn, 1, 8, .nilf, false⟩),
  (270, ⟨.fn, 1, 8, .nilf, false⟩),
  (271, ⟨.fn, 1, 8, .nilf, false⟩),
  (272, ⟨.fn, 1, 8, .nilf, false⟩),
  (273, ⟨.fn, 1, 8, .nilf, false⟩),
  (274, ⟨.mp 2 2, 1, 8, .any, false⟩),
  (275, ⟨.arr 10 9, 10, 160, .arr 10 1 [.str [], .str [], .str [], .str [], .str [], .str [], .str [], .str [], .str [], .str []], true⟩),
  (276, ⟨.fn, 1, 8, .nilf, false⟩),
  (277, ⟨.fn, 1, 8, .nilf, false⟩),
  (278, ⟨.fn, 1, 8, .nilf, false⟩),
  (279, ⟨.sl 52, 1, 24, .nils, false⟩),
  (280, ⟨.fn, 1, 8, .nilf, false⟩),
  (281, ⟨.fn, 1, 8, .nilf, false⟩),
  (282, ⟨.fn, 1, 8, .nilf, false⟩),
  (283, ⟨.fn, 1, 8, .nilf, false⟩),
  (284, ⟨.fn, 1, 8, .nilf, false⟩),
  (285, ⟨.fn, 1, 8, .nilf, false⟩),
  (286, ⟨.fn, 1, 8, .nilf, false⟩),
  (287, ⟨.fn, 1, 8, .nilf, false⟩),
  (288, ⟨.int .i64, 1, 8, .int .i64 0, false⟩),
  (290, ⟨.fn, 1, 8, .nilf, false⟩),
  (291, ⟨.fn, 1, 8, .nilf, false⟩),
  (292, ⟨.fn, 1, 8, .nilf, false⟩),
  (293, ⟨.arr 33 286, 33, 264, .arr 33 1 [.nilf, .nilf, .nilf, .nilf, .nilf, .nilf, .nilf, .nilf, .nilf, .nilf, .nilf, .nilf, .nilf, .nilf, .nilf, .nilf, .nilf, .nilf, .nilf, .nilf, .nilf, .nilf, .nilf, .nilf, .nilf, .nilf, .nilf, .nilf, .nilf, .nilf, .nilf, .nilf, .nilf], true⟩),
  (295, ⟨.fn, 1, 8, .nilf, false⟩),
  (296, ⟨.fn, 1, 8, .nilf, false⟩),
  (297, ⟨.fn, 1, 8, .nilf, false⟩),
  (298, ⟨.fn, 1, 8, .nilf, false⟩),
  (299, ⟨.fn, 1, 8, .nilf, false⟩),
  (300, ⟨.strct [(17, 0), (17, 1), (17, 2), (9, 3)], 4, 40, .agg [.nilp, .nilp, .nilp, .str []], false⟩),
  (301, ⟨.strct [(17, 0), (17, 1), (17, 2), (9, 3)], 4, 40, .agg [.nilp, .nilp, .nilp, .str []], false⟩),
  (302, ⟨.arr 0 16, 0, 0, .arr 0 1 [], true⟩),
  (303, ⟨.strct [(302, 0)], 0, 0, .agg [.arr 0 1 []], false⟩),
  (304, ⟨.strct [(302, 0)], 0, 0, .agg [.arr 0 1 []], false⟩),
  (305, ⟨.fn, 1, 8, .nilf, false⟩),
  (306, ⟨.int .u8, 1, 1, .int .u8 0, false⟩),
  (307, ⟨.int .u8, 1, 1, .int .u8 0, false⟩),
  (308, ⟨.fn, 1, 8, .nilf, false⟩),
  (309, ⟨.ptr 5, 1, 8, .nilp, false⟩),
  (310, ⟨.int .i32, 1, 4, .int .i32 0, false⟩),
  (311, ⟨.int .i32, 1, 4, .int .i32 0, false⟩),
  (312, ⟨.strct [(12, 0), (12, 1), (188, 2), (306, 3), (5, 4), (5, 5), (307, 6), (308, 7), (309, 8), (310, 9), (311, 10)], 11, 48, .agg [.int .u64 0, .int .u64 0, .int .u32 0, .int .u8 0, .int .u8 0, .int .u8 0, .int .u8 0, .nilf, .nilp, .int .i32 0, .int .i32 0], false⟩),
  (313, ⟨.strct [(12, 0), (12, 1), (188, 2), (306, 3), (5, 4), (5, 5), (307, 6), (308, 7), (309, 8), (310, 9), (311, 10)], 11, 48, .agg [.int .u64 0, .int .u64 0, .int .u32 0, .int .u8 0, .int .u8 0, .int .u8 0, .int .u8 0, .nilf, .nilp, .int .i32 0, .int .i32 0], false⟩)]
set_option maxRecDepth 100000 in
theorem zDx : ttB Tryz.prog tt = true := by kernel_rfl
theorem mixed : Tryz.prog.follows .mixedOrders = true := by kernel_rfl
abbrev F.invigilatorlaw32_awake : Nat := 5
abbrev F.pairs_each_int_ : Nat := 36
abbrev F.slices_DeleteFunc___int_int_ : Nat := 39
abbrev F.policy_Check : Nat := 51
abbrev F.slices_IndexFunc___int_int_ : Nat := 59
abbrev F.policy_parts : Nat := 73
abbrev F.lattice_Check : Nat := 81
abbrev F.slices_Clone___int_int_ : Nat := 83
abbrev F.slices_SortFunc___int_int_ : Nat := 84
abbrev F.labels_compare : Nat := 86
abbrev F.slices_Compact___int_int_ : Nat := 87
abbrev F.slices_pdqsortCmpFunc_int_ : Nat := 110
abbrev F._policy_names__meet : Nat := 118
abbrev F.slices_insertionSortCmpFunc_int_ : Nat := 127
abbrev F.prims_table : Nat := 166
abbrev F._Plexer_reader__class : Nat := 167
abbrev F._Plexer_reader__while : Nat := 168
abbrev F.prims_errs : Nat := 177
abbrev F.prims_pair : Nat := 189
abbrev F.internal_stringslite_IndexByte : Nat := 243
def ft : List (Nat × Func) := [(5, Tryz.f5), (8, Tryz.f8), (11, Tryz.f11), (14, Tryz.f14), (15, Tryz.f15), (16, Tryz.f16), (17, Tryz.f17), (18, Tryz.f18), (19, Tryz.f19), (20, Tryz.f20), (23, Tryz.f23), (24, Tryz.f24), (26, Tryz.f26), (32, Tryz.f32), (33, Tryz.f33), (35, Tryz.f35), (36, Tryz.f36), (37, Tryz.f37), (38, Tryz.f38), (39, Tryz.f39), (40, Tryz.f40), (41, Tryz.f41), (42, Tryz.f42), (43, Tryz.f43), (44, Tryz.f44), (51, Tryz.f51), (52, Tryz.f52), (53, Tryz.f53), (54, Tryz.f54), (55, Tryz.f55), (56, Tryz.f56), (57, Tryz.f57), (59, Tryz.f59), (60, Tryz.f60), (61, Tryz.f61), (62, Tryz.f62), (73, Tryz.f73), (74, Tryz.f74), (75, Tryz.f75), (76, Tryz.f76), (77, Tryz.f77), (78, Tryz.f78), (79, Tryz.f79), (80, Tryz.f80), (81, Tryz.f81), (82, Tryz.f82), (83, Tryz.f83), (84, Tryz.f84), (85, Tryz.f85), (86, Tryz.f86), (87, Tryz.f87), (88, Tryz.f88), (92, Tryz.f92), (93, Tryz.f93), (94, Tryz.f94), (95, Tryz.f95), (96, Tryz.f96), (97, Tryz.f97), (98, Tryz.f98), (99, Tryz.f99), (100, Tryz.f100), (101, Tryz.f101), (102, Tryz.f102), (103, Tryz.f103), (104, Tryz.f104), (105, Tryz.f105), (106, Tryz.f106), (107, Tryz.f107), (108, Tryz.f108), (109, Tryz.f109), (110, Tryz.f110), (111, Tryz.f111), (118, Tryz.f118), (119, Tryz.f119), (120, Tryz.f120), (121, Tryz.f121), (122, Tryz.f122), (123, Tryz.f123), (124, Tryz.f124), (125, Tryz.f125), (126, Tryz.f126), (127, Tryz.f127), (128, Tryz.f128), (129, Tryz.f129), (130, Tryz.f130), (131, Tryz.f131), (132, Tryz.f132), (133, Tryz.f133), (134, Tryz.f134), (135, Tryz.f135), (136, Tryz.f136), (140, Tryz.f140), (141, Tryz.f141), (142, Tryz.f142), (143, Tryz.f143), (144, Tryz.f144), (145, Tryz.f145), (146, Tryz.f146), (147, Tryz.f147), (148, Tryz.f148), (149, Tryz.f149), (153, Tryz.f153), (154, Tryz.f154), (155, Tryz.f155), (156, Tryz.f156), (157, Tryz.f157), (158, Tryz.f158), (159, Tryz.f159), (160, Tryz.f160), (161, Tryz.f161), (162, Tryz.f162), (163, Tryz.f163), (166, Tryz.f166), (167, Tryz.f167), (168, Tryz.f168), (169, Tryz.f169), (170, Tryz.f170), (171, Tryz.f171), (172, Tryz.f172), (173, Tryz.f173), (177, Tryz.f177), (178, Tryz.f178), (179, Tryz.f179), (180, Tryz.f180), (182, Tryz.f182), (183, Tryz.f183), (184, Tryz.f184), (185, Tryz.f185), (186, Tryz.f186), (187, Tryz.f187), (188, Tryz.f188), (190, Tryz.f190), (191, Tryz.f191), (192, Tryz.f192), (193, Tryz.f193), (194, Tryz.f194), (195, Tryz.f195), (196, Tryz.f196), (197, Tryz.f197), (198, Tryz.f198), (199, Tryz.f199), (200, Tryz.f200), (201, Tryz.f201), (202, Tryz.f202), (203, Tryz.f203), (204, Tryz.f204), (205, Tryz.f205), (206, Tryz.f206), (207, Tryz.f207), (208, Tryz.f208), (209, Tryz.f209), (210, Tryz.f210), (211, Tryz.f211), (212, Tryz.f212), (213, Tryz.f213), (214, Tryz.f214), (215, Tryz.f215), (216, Tryz.f216), (217, Tryz.f217), (218, Tryz.f218), (219, Tryz.f219), (220, Tryz.f220), (221, Tryz.f221), (222, Tryz.f222), (223, Tryz.f223), (225, Tryz.f225), (226, Tryz.f226), (227, Tryz.f227), (228, Tryz.f228), (229, Tryz.f229), (230, Tryz.f230), (231, Tryz.f231), (232, Tryz.f232), (234, Tryz.f234), (235, Tryz.f235), (236, Tryz.f236), (237, Tryz.f237), (238, Tryz.f238), (239, Tryz.f239), (240, Tryz.f240), (241, Tryz.f241), (242, Tryz.f242), (243, Tryz.f243), (244, Tryz.f244), (245, Tryz.f245), (246, Tryz.f246), (248, Tryz.f248), (249, Tryz.f249), (250, Tryz.f250), (251, Tryz.f251), (252, Tryz.f252), (253, Tryz.f253), (254, Tryz.f254), (255, Tryz.f255), (256, Tryz.f256), (257, Tryz.f257), (258, Tryz.f258), (259, Tryz.f259), (260, Tryz.f260), (261, Tryz.f261), (262, Tryz.f262), (263, Tryz.f263), (264, Tryz.f264), (265, Tryz.f265), (266, Tryz.f266), (267, Tryz.f267), (268, Tryz.f268), (269, Tryz.f269), (270, Tryz.f270), (271, Tryz.f271), (272, Tryz.f272), (288, Tryz.f288)]
set_option maxRecDepth 100000 in
theorem zij : zbf Tryz.prog ft := ⟨⟨Tryz.func5, by kernel_rfl⟩, ⟨Tryz.func8, by kernel_rfl⟩, ⟨Tryz.func11, by kernel_rfl⟩, ⟨Tryz.func14, by kernel_rfl⟩, ⟨Tryz.func15, by kernel_rfl⟩, ⟨Tryz.func16, by kernel_rfl⟩, ⟨Tryz.func17, by kernel_rfl⟩, ⟨Tryz.func18, by kernel_rfl⟩, ⟨Tryz.func19, by kernel_rfl⟩, ⟨Tryz.func20, by kernel_rfl⟩, ⟨Tryz.func23, by kernel_rfl⟩, ⟨Tryz.func24, by kernel_rfl⟩, ⟨Tryz.func26, by kernel_rfl⟩, ⟨Tryz.func32, by kernel_rfl⟩, ⟨Tryz.func33, by kernel_rfl⟩, ⟨Tryz.func35, by kernel_rfl⟩, ⟨Tryz.func36, by kernel_rfl⟩, ⟨Tryz.func37, by kernel_rfl⟩, ⟨Tryz.func38, by kernel_rfl⟩, ⟨Tryz.func39, by kernel_rfl⟩, ⟨Tryz.func40, by kernel_rfl⟩, ⟨Tryz.func41, by kernel_rfl⟩, ⟨Tryz.func42, by kernel_rfl⟩, ⟨Tryz.func43, by kernel_rfl⟩, ⟨Tryz.func44, by kernel_rfl⟩, ⟨Tryz.func51, by kernel_rfl⟩, ⟨Tryz.func52, by kernel_rfl⟩, ⟨Tryz.func53, by kernel_rfl⟩, ⟨Tryz.func54, by kernel_rfl⟩, ⟨Tryz.func55, by kernel_rfl⟩, ⟨Tryz.func56, by kernel_rfl⟩, ⟨Tryz.func57, by kernel_rfl⟩, ⟨Tryz.func59, by kernel_rfl⟩, ⟨Tryz.func60, by kernel_rfl⟩, ⟨Tryz.func61, by kernel_rfl⟩, ⟨Tryz.func62, by kernel_rfl⟩, ⟨Tryz.func73, by kernel_rfl⟩, ⟨Tryz.func74, by kernel_rfl⟩, ⟨Tryz.func75, by kernel_rfl⟩, ⟨Tryz.func76, by kernel_rfl⟩, ⟨Tryz.func77, by kernel_rfl⟩, ⟨Tryz.func78, by kernel_rfl⟩, ⟨Tryz.func79, by kernel_rfl⟩, ⟨Tryz.func80, by kernel_rfl⟩, ⟨Tryz.func81, by kernel_rfl⟩, ⟨Tryz.func82, by kernel_rfl⟩, ⟨Tryz.func83, by kernel_rfl⟩, ⟨Tryz.func84, by kernel_rfl⟩, ⟨Tryz.func85, by kernel_rfl⟩, ⟨Tryz.func86, by kernel_rfl⟩, ⟨Tryz.func87, by kernel_rfl⟩, ⟨Tryz.func88, by kernel_rfl⟩, ⟨Tryz.func92, by kernel_rfl⟩, ⟨Tryz.func93, by kernel_rfl⟩, ⟨Tryz.func94, by kernel_rfl⟩, ⟨Tryz.func95, by kernel_rfl⟩, ⟨Tryz.func96, by kernel_rfl⟩, ⟨Tryz.func97, by kernel_rfl⟩, ⟨Tryz.func98, by kernel_rfl⟩, ⟨Tryz.func99, by kernel_rfl⟩, ⟨Tryz.func100, by kernel_rfl⟩, ⟨Tryz.func101, by kernel_rfl⟩, ⟨Tryz.func102, by kernel_rfl⟩, ⟨Tryz.func103, by kernel_rfl⟩, ⟨Tryz.func104, by kernel_rfl⟩, ⟨Tryz.func105, by kernel_rfl⟩, ⟨Tryz.func106, by kernel_rfl⟩, ⟨Tryz.func107, by kernel_rfl⟩, ⟨Tryz.func108, by kernel_rfl⟩, ⟨Tryz.func109, by kernel_rfl⟩, ⟨Tryz.func110, by kernel_rfl⟩, ⟨Tryz.func111, by kernel_rfl⟩, ⟨Tryz.func118, by kernel_rfl⟩, ⟨Tryz.func119, by kernel_rfl⟩, ⟨Tryz.func120, by kernel_rfl⟩, ⟨Tryz.func121, by kernel_rfl⟩, ⟨Tryz.func122, by kernel_rfl⟩, ⟨Tryz.func123, by kernel_rfl⟩, ⟨Tryz.func124, by kernel_rfl⟩, ⟨Tryz.func125, by kernel_rfl⟩, ⟨Tryz.func126, by kernel_rfl⟩, ⟨Tryz.func127, by kernel_rfl⟩, ⟨Tryz.func128, by kernel_rfl⟩, ⟨Tryz.func129, by kernel_rfl⟩, ⟨Tryz.func130, by kernel_rfl⟩, ⟨Tryz.func131, by kernel_rfl⟩, ⟨Tryz.func132, by kernel_rfl⟩, ⟨Tryz.func133, by kernel_rfl⟩, ⟨Tryz.func134, by kernel_rfl⟩, ⟨Tryz.func135, by kernel_rfl⟩, ⟨Tryz.func136, by kernel_rfl⟩, ⟨Tryz.func140, by kernel_rfl⟩, ⟨Tryz.func141, by kernel_rfl⟩, ⟨Tryz.func142, by kernel_rfl⟩, ⟨Tryz.func143, by kernel_rfl⟩, ⟨Tryz.func144, by kernel_rfl⟩, ⟨Tryz.func145, by kernel_rfl⟩, ⟨Tryz.func146, by kernel_rfl⟩, ⟨Tryz.func147, by kernel_rfl⟩, ⟨Tryz.func148, by kernel_rfl⟩, ⟨Tryz.func149, by kernel_rfl⟩, ⟨Tryz.func153, by kernel_rfl⟩, ⟨Tryz.func154, by kernel_rfl⟩, ⟨Tryz.func155, by kernel_rfl⟩, ⟨Tryz.func156, by kernel_rfl⟩, ⟨Tryz.func157, by kernel_rfl⟩, ⟨Tryz.func158, by kernel_rfl⟩, ⟨Tryz.func159, by kernel_rfl⟩, ⟨Tryz.func160, by kernel_rfl⟩, ⟨Tryz.func161, by kernel_rfl⟩, ⟨Tryz.func162, by kernel_rfl⟩, ⟨Tryz.func163, by kernel_rfl⟩, ⟨Tryz.func166, by kernel_rfl⟩, ⟨Tryz.func167, by kernel_rfl⟩, ⟨Tryz.func168, by kernel_rfl⟩, ⟨Tryz.func169, by kernel_rfl⟩, ⟨Tryz.func170, by kernel_rfl⟩, ⟨Tryz.func171, by kernel_rfl⟩, ⟨Tryz.func172, by kernel_rfl⟩, ⟨Tryz.func173, by kernel_rfl⟩, ⟨Tryz.func177, by kernel_rfl⟩, ⟨Tryz.func178, by kernel_rfl⟩, ⟨Tryz.func179, by kernel_rfl⟩, ⟨Tryz.func180, by kernel_rfl⟩, ⟨Tryz.func182, by kernel_rfl⟩, ⟨Tryz.func183, by kernel_rfl⟩, ⟨Tryz.func184, by kernel_rfl⟩, ⟨Tryz.func185, by kernel_rfl⟩, ⟨Tryz.func186, by kernel_rfl⟩, ⟨Tryz.func187, by kernel_rfl⟩, ⟨Tryz.func188, by kernel_rfl⟩, ⟨Tryz.func190, by kernel_rfl⟩, ⟨Tryz.func191, by kernel_rfl⟩, ⟨Tryz.func192, by kernel_rfl⟩, ⟨Tryz.func193, by kernel_rfl⟩, ⟨Tryz.func194, by kernel_rfl⟩, ⟨Tryz.func195, by kernel_rfl⟩, ⟨Tryz.func196, by kernel_rfl⟩, ⟨Tryz.func197, by kernel_rfl⟩, ⟨Tryz.func198, by kernel_rfl⟩, ⟨Tryz.func199, by kernel_rfl⟩, ⟨Tryz.func200, by kernel_rfl⟩, ⟨Tryz.func201, by kernel_rfl⟩, ⟨Tryz.func202, by kernel_rfl⟩, ⟨Tryz.func203, by kernel_rfl⟩, ⟨Tryz.func204, by kernel_rfl⟩, ⟨Tryz.func205, by kernel_rfl⟩, ⟨Tryz.func206, by kernel_rfl⟩, ⟨Tryz.func207, by kernel_rfl⟩, ⟨Tryz.func208, by kernel_rfl⟩, ⟨Tryz.func209, by kernel_rfl⟩, ⟨Tryz.func210, by kernel_rfl⟩, ⟨Tryz.func211, by kernel_rfl⟩, ⟨Tryz.func212, by kernel_rfl⟩, ⟨Tryz.func213, by kernel_rfl⟩, ⟨Tryz.func214, by kernel_rfl⟩, ⟨Tryz.func215, by kernel_rfl⟩, ⟨Tryz.func216, by kernel_rfl⟩, ⟨Tryz.func217, by kernel_rfl⟩, ⟨Tryz.func218, by kernel_rfl⟩, ⟨Tryz.func219, by kernel_rfl⟩, ⟨Tryz.func220, by kernel_rfl⟩, ⟨Tryz.func221, by kernel_rfl⟩, ⟨Tryz.func222, by kernel_rfl⟩, ⟨Tryz.func223, by kernel_rfl⟩, ⟨Tryz.func225, by kernel_rfl⟩, ⟨Tryz.func226, by kernel_rfl⟩, ⟨Tryz.func227, by kernel_rfl⟩, ⟨Tryz.func228, by kernel_rfl⟩, ⟨Tryz.func229, by kernel_rfl⟩, ⟨Tryz.func230, by kernel_rfl⟩, ⟨Tryz.func231, by kernel_rfl⟩, ⟨Tryz.func232, by kernel_rfl⟩, ⟨Tryz.func234, by kernel_rfl⟩, ⟨Tryz.func235, by kernel_rfl⟩, ⟨Tryz.func236, by kernel_rfl⟩, ⟨Tryz.func237, by kernel_rfl⟩, ⟨Tryz.func238, by kernel_rfl⟩, ⟨Tryz.func239, by kernel_rfl⟩, ⟨Tryz.func240, by kernel_rfl⟩, ⟨Tryz.func241, by kernel_rfl⟩, ⟨Tryz.func242, by kernel_rfl⟩, ⟨Tryz.func243, by kernel_rfl⟩, ⟨Tryz.func244, by kernel_rfl⟩, ⟨Tryz.func245, by kernel_rfl⟩, ⟨Tryz.func246, by kernel_rfl⟩, ⟨Tryz.func248, by kernel_rfl⟩, ⟨Tryz.func249, by kernel_rfl⟩, ⟨Tryz.func250, by kernel_rfl⟩, ⟨Tryz.func251, by kernel_rfl⟩, ⟨Tryz.func252, by kernel_rfl⟩, ⟨Tryz.func253, by kernel_rfl⟩, ⟨Tryz.func254, by kernel_rfl⟩, ⟨Tryz.func255, by kernel_rfl⟩, ⟨Tryz.func256, by kernel_rfl⟩, ⟨Tryz.func257, by kernel_rfl⟩, ⟨Tryz.func258, by kernel_rfl⟩, ⟨Tryz.func259, by kernel_rfl⟩, ⟨Tryz.func260, by kernel_rfl⟩, ⟨Tryz.func261, by kernel_rfl⟩, ⟨Tryz.func262, by kernel_rfl⟩, ⟨Tryz.func263, by kernel_rfl⟩, ⟨Tryz.func264, by kernel_rfl⟩, ⟨Tryz.func265, by kernel_rfl⟩, ⟨Tryz.func266, by kernel_rfl⟩, ⟨Tryz.func267, by kernel_rfl⟩, ⟨Tryz.func268, by kernel_rfl⟩, ⟨Tryz.func269, by kernel_rfl⟩, ⟨Tryz.func270, by kernel_rfl⟩, ⟨Tryz.func271, by kernel_rfl⟩, ⟨Tryz.func272, by kernel_rfl⟩, ⟨Tryz.func288, by kernel_rfl⟩, trivial⟩
open Go.RowKit (Below)
def gl : List (Nat × SV) := [(0, .sl 1 [.str [105, 110, 105, 110], .str [105, 48, 105, 110, 105, 110], .str [105, 110, 105, 48, 105, 110], .str [105, 110, 105, 110, 105, 110]]), (1, .sl 1 [.str [107, 48, 107, 110, 105, 110], .str [107, 110, 107, 48, 105, 110], .str [107, 110, 107, 110, 105, 110]])]
theorem zz3 (w : World) (u : Value) : Calls Tryz.prog F.prims_errs #[u] w fun e w' => e = .returned u /\ Below w.heap.size w w' := by
  refine calls_of_wp Tryz.func177 rfl ?_
  have e0 : (#[u] ++ Array.replicate (Tryz.f177.ntmps - #[u].size) undef) = #[u, undef, undef, undef] := by
    simp [Tryz.f177, Array.replicate]
  rw [e0]
  refine wp_seq (wp_region ?_)
  simp [wpOps, Region.wanted, Oper.wp, execOp, Oper.upon_value, Act.put, Act.eval, Exit.then, List.range, List.range.loop]
  refine .inl (wp_seq (wp_region ?_))
  simp [wpOps, Region.wanted, Oper.wp, execOp, Oper.upon_value, Act.put, Act.eval, Exit.then, List.range, List.range.loop]
  refine .inl (.inl (wp_ret ?_))
  refine ⟨rfl, u, ?_, rfl, Below.refl _ _⟩
  simp [results, Tryz.f177]
def E : Env := { P := Tryz.prog, tt := tt, gl := gl, lend := [F._Plexer_reader__class, F._Plexer_reader__while, F._policy_names__meet, F.pairs_each_int_, F.slices_DeleteFunc___int_int_, F.slices_SortFunc___int_int_, F.slices_pdqsortCmpFunc_int_, F.slices_insertionSortCmpFunc_int_, F.slices_Compact___int_int_, F.slices_Clone___int_int_, F.labels_compare, F.slices_IndexFunc___int_int_ + 11000000], idf := [F.prims_errs], mt := [(138, "invigilator/labels.less", 288)] }
theorem zE5 : ∀ f, wi f [F.prims_errs] = true -> ww Tryz.prog f /\ ∀ (w : World) (u : Value), Calls Tryz.prog f #[u] w fun e w' => e = .returned u /\ Below w.heap.size w w' := by
  intro f hf
  have : f = F.prims_errs := by simpa using memb_mem.1 hf
  subst this
  exact ⟨⟨_, Tryz.func177, rfl, by decide +kernel⟩, zz3⟩
set_option maxRecDepth 100000 in
theorem zAl (w : World) (v : Value) : (method (E.P.types.size + Made.depth) 138 v "invigilator/labels.less").run E.P w = .ok (288, v) w := by kernel_rfl
theorem zDz : ∀ T name f, lkM E.mt T name = some f -> ∀ (w : World) (v : Value), (method (E.P.types.size + Made.depth) T v name).run E.P w = .ok (f, v) w := by
  intro T name f h w v
  have e : E.mt = [(138, "invigilator/labels.less", 288)] := rfl
  rw [e] at h
  unfold lkM at h
  split at h
  . rename_i h1 h2
    cases h
    have := zq h1; subst this
    have e2 : name = "invigilator/labels.less" := (of_decide_eq_true h2).symm
    subst e2
    exact zAl w v
  . unfold lkM at h; cases h
theorem ok : EnvOK E := have h := zyv (gl := gl) (ld := []) zDx mixed zE5; ⟨h.tt', h.mixed, h.idf, zDz⟩
end Go.Sx.Tz
end
namespace Go.Sx.Tz
open Go Go.Proofs Go.Shelf
end Go.Sx.Tz
noncomputable section
namespace Go.Sx.Tz
open Go.Proofs
set_option maxRecDepth 100000
theorem zi8 {E : Env} : ∀ f az r, lkX [] f az = some r -> Ret E f az r := fun _ _ _ h => by cases h
theorem zaq {E : Env} {g : Nat} {k : List SV -> Rt} {l : List (Nat × (List SV -> Rt))} (h : ∀ az r, k az = some r -> Ret E g az r) (hl : ∀ f az r, lkX l f az = some r -> Ret E f az r) :
    ∀ f az r, lkX ((g, k) :: l) f az = some r -> Ret E f az r := by
  intro f az r hk
  simp only [lkX] at hk
  split at hk
  . rename_i e
    have := zq e; subst this
    exact h az r hk
  . exact hl f az r hk
def E2 : Env := { E with lend := F.prims_errs :: E.lend }
theorem ok2 : EnvOK E2 := ⟨ok.tt', ok.mixed, ok.idf, ok.mt⟩
theorem jp {f : FuncId} {l : List SV} {r : SV} (h : Ret E2 f l r) : Ret E f l r := h
def ft2 : List (Nat × Func) := [(189, Tryz.f189), (177, Tryz.f177)]
theorem wT : zbf Tryz.prog ft2 E2.lend := ⟨⟨Tryz.func189, by kernel_rfl⟩, ⟨Tryz.func177, by kernel_rfl⟩, trivial⟩
def zfs : List SV := [.str [97, 100, 100], .sl 1 [.int .i64 12]]
def C_pair_0 : SV := .agg [.str [97, 100, 100], .sl 1 [.str [105, 48, 105, 110, 105, 110], .str [105, 110, 105, 48, 105, 110], .str [105, 110, 105, 110, 105, 110]], .sl 1 [.int .i64 11, .int .i64 12], .nilf, .nilf]
theorem zwy : Ret E F.prims_pair zfs C_pair_0 := jp (qy ok2 wT HkOK.no (show qM E2 ft2 Hk.no 1000 60 (.ret F.prims_pair zfs) = some C_pair_0 by kernel_rfl))
def zf1 : List SV := [.str [115, 117, 98], .sl 1 [.int .i64 12]]
def C_pair_1 : SV := .agg [.str [115, 117, 98], .sl 1 [.str [105, 48, 105, 110, 105, 110], .str [105, 110, 105, 48, 105, 110], .str [105, 110, 105, 110, 105, 110]], .sl 1 [.int .i64 11, .int .i64 12], .nilf, .nilf]
theorem zxi : Ret E F.prims_pair zf1 C_pair_1 := jp (qy ok2 wT HkOK.no (show qM E2 ft2 Hk.no 1000 60 (.ret F.prims_pair zf1) = some C_pair_1 by kernel_rfl))
def zfe : List SV := [.str [109, 117, 108], .sl 1 [.int .i64 12]]
def C_pair_2 : SV := .agg [.str [109, 117, 108], .sl 1 [.str [105, 48, 105, 110, 105, 110], .str [105, 110, 105, 48, 105, 110], .str [105, 110, 105, 110, 105, 110]], .sl 1 [.int .i64 11, .int .i64 12], .nilf, .nilf]
theorem zw2 : Ret E F.prims_pair zfe C_pair_2 := jp (qy ok2 wT HkOK.no (show qM E2 ft2 Hk.no 1000 60 (.ret F.prims_pair zfe) = some C_pair_2 by kernel_rfl))
def zfo : List SV := [.str [100, 105, 118], .sl 1 [.int .i64 12, .int .i64 13]]
def C_pair_3 : SV := .agg [.str [100, 105, 118], .sl 1 [.str [105, 48, 105, 110, 105, 110], .str [105, 110, 105, 48, 105, 110], .str [105, 110, 105, 110, 105, 110]], .sl 1 [.int .i64 11, .int .i64 12, .int .i64 13], .nilf, .nilf]
theorem zyk : Ret E F.prims_pair zfo C_pair_3 := jp (qy ok2 wT HkOK.no (show qM E2 ft2 Hk.no 1000 60 (.ret F.prims_pair zfo) = some C_pair_3 by kernel_rfl))
def zf4 : List SV := [.str [109, 111, 100], .sl 1 [.int .i64 13]]
def C_pair_4 : SV := .agg [.str [109, 111, 100], .sl 1 [.str [105, 48, 105, 110, 105, 110], .str [105, 110, 105, 48, 105, 110], .str [105, 110, 105, 110, 105, 110]], .sl 1 [.int .i64 11, .int .i64 13], .nilf, .nilf]
theorem zxf : Ret E F.prims_pair zf4 C_pair_4 := jp (qy ok2 wT HkOK.no (show qM E2 ft2 Hk.no 1000 60 (.ret F.prims_pair zf4) = some C_pair_4 by kernel_rfl))
def zgj : List SV := [.str [112, 108, 117, 115], .nils]
def C_pair_5 : SV := .agg [.str [112, 108, 117, 115], .sl 1 [.str [105, 48, 105, 110, 105, 110], .str [105, 110, 105, 48, 105, 110], .str [105, 110, 105, 110, 105, 110]], .sl 1 [.int .i64 11], .nilf, .nilf]
theorem zwz : Ret E F.prims_pair zgj C_pair_5 := jp (qy ok2 wT HkOK.no (show qM E2 ft2 Hk.no 1000 60 (.ret F.prims_pair zgj) = some C_pair_5 by kernel_rfl))
def zgy : List SV := [.str [109, 105, 110, 117, 115], .nils]
def C_pair_6 : SV := .agg [.str [109, 105, 110, 117, 115], .sl 1 [.str [105, 48, 105, 110, 105, 110], .str [105, 110, 105, 48, 105, 110], .str [105, 110, 105, 110, 105, 110]], .sl 1 [.int .i64 11], .nilf, .nilf]
theorem zw6 : Ret E F.prims_pair zgy C_pair_6 := jp (qy ok2 wT HkOK.no (show qM E2 ft2 Hk.no 1000 60 (.ret F.prims_pair zgy) = some C_pair_6 by kernel_rfl))
def zfu : List SV := [.str [116, 105, 109, 101, 115], .nils]
def C_pair_7 : SV := .agg [.str [116, 105, 109, 101, 115], .sl 1 [.str [105, 48, 105, 110, 105, 110], .str [105, 110, 105, 48, 105, 110], .str [105, 110, 105, 110, 105, 110]], .sl 1 [.int .i64 11], .nilf, .nilf]
theorem zxl : Ret E F.prims_pair zfu C_pair_7 := jp (qy ok2 wT HkOK.no (show qM E2 ft2 Hk.no 1000 60 (.ret F.prims_pair zfu) = some C_pair_7 by kernel_rfl))
def zft : List SV := [.str [108, 116], .nils]
def C_pair_8 : SV := .agg [.str [108, 116], .sl 1 [.str [105, 48, 105, 110, 105, 110], .str [105, 110, 105, 48, 105, 110], .str [105, 110, 105, 110, 105, 110]], .sl 1 [.int .i64 11], .nilf, .nilf]
theorem zw7 : Ret E F.prims_pair zft C_pair_8 := jp (qy ok2 wT HkOK.no (show qM E2 ft2 Hk.no 1000 60 (.ret F.prims_pair zft) = some C_pair_8 by kernel_rfl))
def zf5 : List SV := [.str [108, 101], .nils]
def C_pair_9 : SV := .agg [.str [108, 101], .sl 1 [.str [105, 48, 105, 110, 105, 110], .str [105, 110, 105, 48, 105, 110], .str [105, 110, 105, 110, 105, 110]], .sl 1 [.int .i64 11], .nilf, .nilf]
theorem zyl : Ret E F.prims_pair zf5 C_pair_9 := jp (qy ok2 wT HkOK.no (show qM E2 ft2 Hk.no 1000 60 (.ret F.prims_pair zf5) = some C_pair_9 by kernel_rfl))
def zdj : List SV := [.str [103, 116], .nils]
def C_pair_10 : SV := .agg [.str [103, 116], .sl 1 [.str [105, 48, 105, 110, 105, 110], .str [105, 110, 105, 48, 105, 110], .str [105, 110, 105, 110, 105, 110]], .sl 1 [.int .i64 11], .nilf, .nilf]
theorem zuo : Ret E F.prims_pair zdj C_pair_10 := jp (qy ok2 wT HkOK.no (show qM E2 ft2 Hk.no 1000 60 (.ret F.prims_pair zdj) = some C_pair_10 by kernel_rfl))
def zdu : List SV := [.str [103, 101], .nils]
def C_pair_11 : SV := .agg [.str [103, 101], .sl 1 [.str [105, 48, 105, 110, 105, 110], .str [105, 110, 105, 48, 105, 110], .str [105, 110, 105, 110, 105, 110]], .sl 1 [.int .i64 11], .nilf, .nilf]
theorem zu4 : Ret E F.prims_pair zdu C_pair_11 := jp (qy ok2 wT HkOK.no (show qM E2 ft2 Hk.no 1000 60 (.ret F.prims_pair zdu) = some C_pair_11 by kernel_rfl))
def zda : List SV := [.str [97, 110, 100], .nils]
def C_pair_12 : SV := .agg [.str [97, 110, 100], .sl 1 [.str [105, 48, 105, 110, 105, 110], .str [105, 110, 105, 48, 105, 110], .str [105, 110, 105, 110, 105, 110]], .sl 1 [.int .i64 11], .nilf, .nilf]
theorem zup : Ret E F.prims_pair zda C_pair_12 := jp (qy ok2 wT HkOK.no (show qM E2 ft2 Hk.no 1000 60 (.ret F.prims_pair zda) = some C_pair_12 by kernel_rfl))
def zdv : List SV := [.str [111, 114], .nils]
def C_pair_13 : SV := .agg [.str [111, 114], .sl 1 [.str [105, 48, 105, 110, 105, 110], .str [105, 110, 105, 48, 105, 110], .str [105, 110, 105, 110, 105, 110]], .sl 1 [.int .i64 11], .nilf, .nilf]
theorem zvo : Ret E F.prims_pair zdv C_pair_13 := jp (qy ok2 wT HkOK.no (show qM E2 ft2 Hk.no 1000 60 (.ret F.prims_pair zdv) = some C_pair_13 by kernel_rfl))
def zd5 : List SV := [.str [109, 105, 110], .nils]
def C_pair_14 : SV := .agg [.str [109, 105, 110], .sl 1 [.str [105, 48, 105, 110, 105, 110], .str [105, 110, 105, 48, 105, 110], .str [105, 110, 105, 110, 105, 110]], .sl 1 [.int .i64 11], .nilf, .nilf]
theorem zu5 : Ret E F.prims_pair zd5 C_pair_14 := jp (qy ok2 wT HkOK.no (show qM E2 ft2 Hk.no 1000 60 (.ret F.prims_pair zd5) = some C_pair_14 by kernel_rfl))
def zcz : List SV := [.str [109, 97, 120], .nils]
def C_pair_15 : SV := .agg [.str [109, 97, 120], .sl 1 [.str [105, 48, 105, 110, 105, 110], .str [105, 110, 105, 48, 105, 110], .str [105, 110, 105, 110, 105, 110]], .sl 1 [.int .i64 11], .nilf, .nilf]
theorem zul : Ret E F.prims_pair zcz C_pair_15 := jp (qy ok2 wT HkOK.no (show qM E2 ft2 Hk.no 1000 60 (.ret F.prims_pair zcz) = some C_pair_15 by kernel_rfl))
def zy1 : List (List SV × SV) := [(zfs, C_pair_0), (zf1, C_pair_1), (zfe, C_pair_2), (zfo, C_pair_3), (zf4, C_pair_4), (zgj, C_pair_5), (zgy, C_pair_6), (zfu, C_pair_7), (zft, C_pair_8), (zf5, C_pair_9), (zdj, C_pair_10), (zdu, C_pair_11), (zda, C_pair_12), (zdv, C_pair_13), (zd5, C_pair_14), (zcz, C_pair_15)]
def hkP : Hk := ⟨(F.prims_pair, zca zy1) :: [], []⟩
theorem zBt : HkOK E hkP := ⟨zaq (fun az r h => xl (l := zy1) ⟨zwy, zxi, zw2, zyk, zxf, zwz, zw6, zxl, zw7, zyl, zuo, zu4, zup, zvo, zu5, zul, trivial⟩ az r h) zi8, fun _ _ _ _ _ _ _ _ h => (by cases h)⟩
def V_prims_table : SV := .sl 5 [.agg [.str [], .nils, .nils, .nilf, .nilf], .agg [.str [110, 101, 103], .sl 1 [.str [105, 110, 105, 110]], .sl 1 [.int .i64 12], .nilf, .nilf], .agg [.str [97, 98, 115], .sl 1 [.str [105, 110, 105, 110]], .sl 1 [.int .i64 12], .nilf, .nilf], .agg [.str [110, 111, 116], .sl 1 [.str [105, 110, 105, 110]], .nils, .nilf, .nilf], .agg [.str [115, 104, 97, 112, 101], .sl 1 [.str [107, 110, 105, 49]], .nils, .fn 178 [], .nilf], .agg [.str [114, 97, 118, 101, 108], .sl 1 [.str [107, 110, 107, 49]], .nils, .fn 179 [], .nilf], .agg [.str [114, 101, 118, 101, 114, 115, 101], .sl 1 [.str [107, 49, 107, 49], .str [107, 50, 107, 50]], .nils, .fn 180 [], .nilf], .agg [.str [102, 108, 105, 112], .sl 1 [.str [107, 50, 107, 50]], .nils, .fn 181 [], .nilf], .agg [.str [105, 111, 116, 97], .sl 1 [.str [105, 48, 105, 49]], .sl 1 [.int .i64 13, .int .i64 15], .fn 182 [], .nilf], .agg [.str [115, 117, 109], .sl 1 [.str [105, 49, 105, 48], .str [105, 50, 105, 49]], .sl 1 [.int .i64 12], .fn 183 [], .nilf], .agg [.str [108, 101, 97, 115, 116], .sl 1 [.str [105, 49, 105, 48], .str [105, 50, 105, 49]], .sl 1 [.int .i64 13], .fn 184 [], .nilf], .agg [.str [109, 111, 115, 116], .sl 1 [.str [105, 49, 105, 48], .str [105, 50, 105, 49]], .sl 1 [.int .i64 13], .fn 185 [], .nilf], .agg [.str [99, 111, 117, 110, 116], .sl 1 [.str [107, 49, 105, 48], .str [107, 50, 105, 49]], .nils, .fn 186 [], .nilf], .agg [.str [115, 99, 97, 110], .sl 1 [.str [105, 49, 105, 49], .str [105, 50, 105, 50]], .sl 1 [.int .i64 12], .fn 187 [], .nilf], .agg [.str [103, 114, 97, 100, 101], .sl 1 [.str [105, 49, 105, 49]], .nils, .fn 188 [], .nilf], .agg [.str [97, 100, 100], .sl 1 [.str [105, 48, 105, 110, 105, 110], .str [105, 110, 105, 48, 105, 110], .str [105, 110, 105, 110, 105, 110]], .sl 1 [.int .i64 11, .int .i64 12], .nilf, .nilf], .agg [.str [115, 117, 98], .sl 1 [.str [105, 48, 105, 110, 105, 110], .str [105, 110, 105, 48, 105, 110], .str [105, 110, 105, 110, 105, 110]], .sl 1 [.int .i64 11, .int .i64 12], .nilf, .nilf], .agg [.str [109, 117, 108], .sl 1 [.str [105, 48, 105, 110, 105, 110], .str [105, 110, 105, 48, 105, 110], .str [105, 110, 105, 110, 105, 110]], .sl 1 [.int .i64 11, .int .i64 12], .nilf, .nilf], .agg [.str [100, 105, 118], .sl 1 [.str [105, 48, 105, 110, 105, 110], .str [105, 110, 105, 48, 105, 110], .str [105, 110, 105, 110, 105, 110]], .sl 1 [.int .i64 11, .int .i64 12, .int .i64 13], .nilf, .nilf], .agg [.str [109, 111, 100], .sl 1 [.str [105, 48, 105, 110, 105, 110], .str [105, 110, 105, 48, 105, 110], .str [105, 110, 105, 110, 105, 110]], .sl 1 [.int .i64 11, .int .i64 13], .nilf, .nilf], .agg [.str [112, 108, 117, 115], .sl 1 [.str [105, 48, 105, 110, 105, 110], .str [105, 110, 105, 48, 105, 110], .str [105, 110, 105, 110, 105, 110]], .sl 1 [.int .i64 11], .nilf, .nilf], .agg [.str [109, 105, 110, 117, 115], .sl 1 [.str [105, 48, 105, 110, 105, 110], .str [105, 110, 105, 48, 105, 110], .str [105, 110, 105, 110, 105, 110]], .sl 1 [.int .i64 11], .nilf, .nilf], .agg [.str [116, 105, 109, 101, 115], .sl 1 [.str [105, 48, 105, 110, 105, 110], .str [105, 110, 105, 48, 105, 110], .str [105, 110, 105, 110, 105, 110]], .sl 1 [.int .i64 11], .nilf, .nilf], .agg [.str [101, 113], .sl 1 [.str [107, 48, 107, 110, 105, 110], .str [107, 110, 107, 48, 105, 110], .str [107, 110, 107, 110, 105, 110]], .sl 1 [.int .i64 11], .nilf, .nilf], .agg [.str [110, 101], .sl 1 [.str [107, 48, 107, 110, 105, 110], .str [107, 110, 107, 48, 105, 110], .str [107, 110, 107, 110, 105, 110]], .sl 1 [.int .i64 11], .nilf, .nilf], .agg [.str [108, 116], .sl 1 [.str [105, 48, 105, 110, 105, 110], .str [105, 110, 105, 48, 105, 110], .str [105, 110, 105, 110, 105, 110]], .sl 1 [.int .i64 11], .nilf, .nilf], .agg [.str [108, 101], .sl 1 [.str [105, 48, 105, 110, 105, 110], .str [105, 110, 105, 48, 105, 110], .str [105, 110, 105, 110, 105, 110]], .sl 1 [.int .i64 11], .nilf, .nilf], .agg [.str [103, 116], .sl 1 [.str [105, 48, 105, 110, 105, 110], .str [105, 110, 105, 48, 105, 110], .str [105, 110, 105, 110, 105, 110]], .sl 1 [.int .i64 11], .nilf, .nilf], .agg [.str [103, 101], .sl 1 [.str [105, 48, 105, 110, 105, 110], .str [105, 110, 105, 48, 105, 110], .str [105, 110, 105, 110, 105, 110]], .sl 1 [.int .i64 11], .nilf, .nilf], .agg [.str [97, 110, 100], .sl 1 [.str [105, 48, 105, 110, 105, 110], .str [105, 110, 105, 48, 105, 110], .str [105, 110, 105, 110, 105, 110]], .sl 1 [.int .i64 11], .nilf, .nilf], .agg [.str [111, 114], .sl 1 [.str [105, 48, 105, 110, 105, 110], .str [105, 110, 105, 48, 105, 110], .str [105, 110, 105, 110, 105, 110]], .sl 1 [.int .i64 11], .nilf, .nilf], .agg [.str [109, 105, 110], .sl 1 [.str [105, 48, 105, 110, 105, 110], .str [105, 110, 105, 48, 105, 110], .str [105, 110, 105, 110, 105, 110]], .sl 1 [.int .i64 11], .nilf, .nilf], .agg [.str [109, 97, 120], .sl 1 [.str [105, 48, 105, 110, 105, 110], .str [105, 110, 105, 48, 105, 110], .str [105, 110, 105, 110, 105, 110]], .sl 1 [.int .i64 11], .nilf, .nilf], .agg [.str [116, 97, 107, 101], .sl 1 [.str [105, 48, 107, 49, 107, 49]], .nils, .nilf, .fn 190 []], .agg [.str [100, 114, 111, 112], .sl 1 [.str [105, 48, 107, 49, 107, 49]], .nils, .nilf, .fn 191 []], .agg [.str [102, 105, 108, 108], .sl 1 [.str [105, 48, 107, 48, 107, 49]], .sl 1 [.int .i64 13, .int .i64 15], .nilf, .fn 192 []], .agg [.str [103, 114, 105, 100], .sl 1 [.str [105, 49, 107, 49, 107, 50]], .sl 1 [.int .i64 11, .int .i64 13, .int .i64 15], .nilf, .fn 193 []], .agg [.str [99, 97, 116], .sl 1 [.str [107, 49, 107, 49, 107, 49], .str [107, 50, 107, 50, 107, 50]], .sl 1 [.int .i64 11, .int .i64 15], .nilf, .fn 194 []], .agg [.str [97, 116], .sl 1 [.str [107, 49, 105, 48, 107, 48], .str [107, 49, 105, 49, 107, 49]], .sl 1 [.int .i64 14], .nilf, .fn 195 []], .agg [.str [105, 110], .sl 1 [.str [107, 110, 107, 49, 105, 110]], .nils, .nilf, .fn 196 []], .agg [.str [112, 105, 99, 107], .sl 1 [.str [105, 49, 107, 49, 107, 49]], .sl 1 [.int .i64 11], .nilf, .fn 197 []]]
theorem L_prims_table : Ret E F.prims_table [] V_prims_table := xm ok zij zBt (show qM E ft hkP 1000 60 (.ret F.prims_table []) = some V_prims_table by kernel_rfl)
def hk0 : Hk := ⟨(F.prims_table, zca [([], V_prims_table)]) :: [], []⟩
theorem hk0_ok : HkOK E hk0 := ⟨zaq (fun az r h => xl (l := [([], V_prims_table)]) ⟨L_prims_table, trivial⟩ az r h) zi8, fun _ _ _ _ _ _ _ _ h => (by cases h)⟩
def ft0 : List (Nat × Func) := wy [F.prims_table] ft
end Go.Sx.Tz
end
noncomputable section
namespace Go.Sx.Tz
open Go.Proofs
set_option maxRecDepth 100000
def yw : List SV := [.agg [.sl 1 [.str [108, 111, 119], .str [97, 110, 110], .str [98, 111, 98], .str [116, 111, 112]], .sl 1 [.int .u8 15, .int .u8 10, .int .u8 12, .int .u8 8]]]
def C_lattice_Check_1 : SV := .tup [.int .i64 0, .int .i64 0]
theorem zey : Ret E F.lattice_Check yw C_lattice_Check_1 := xm ok (jb zij) hk0_ok (show qM E ft0 hk0 1000 60 (.ret F.lattice_Check yw) = some C_lattice_Check_1 by kernel_rfl)
def zEe : List (Nat × Func) := wy [F.prims_table, F.lattice_Check] ft
def hkM1 : Hk := ⟨(F.lattice_Check, zca [(yw, C_lattice_Check_1)]) :: hk0.x, []⟩
theorem hkM1_ok : HkOK E hkM1 := ⟨zaq (fun az r h => xl (l := [(yw, C_lattice_Check_1)]) ⟨zey, trivial⟩ az r h) hk0_ok.x, fun _ _ _ _ _ _ _ _ h => (by cases h)⟩
def yO : List SV := [.agg [.agg [.sl 1 [.str [108, 111, 119], .str [97, 110, 110], .str [98, 111, 98], .str [116, 111, 112]], .sl 1 [.int .u8 15, .int .u8 10, .int .u8 12, .int .u8 8]], .sl 2 [.agg [.str [98, 111, 97, 114, 100], .int .i64 0]], .sl 6 [.agg [.str [109, 97, 114, 107, 115], .agg [.int .i64 1, .int .i64 1, .arr 2 1 [.int .i64 0, .int .i64 0], .int .i64 3]], .agg [.str [110, 97, 109, 101, 115], .agg [.int .i64 2, .int .i64 1, .arr 2 1 [.int .i64 1, .int .i64 0], .int .i64 3]]], .sl 3 [.agg [.int .i64 3, .int .i64 1, .int .i64 5]]]]
def C_policy_Check_1 : SV := .tup [.int .i64 0, .int .i64 0, .int .i64 0]
theorem zgc : Ret E F.policy_Check yO C_policy_Check_1 := xm ok (jb zij) hkM1_ok (show qM E zEe hkM1 1000 60 (.ret F.policy_Check yO) = some C_policy_Check_1 by kernel_rfl)
def ftB : List (Nat × Func) := wy [F.prims_table, F.lattice_Check, F.policy_Check] ft
def hkM2 : Hk := ⟨(F.policy_Check, zca [(yO, C_policy_Check_1)]) :: hkM1.x, []⟩
theorem zzz : HkOK E hkM2 := ⟨zaq (fun az r h => xl (l := [(yO, C_policy_Check_1)]) ⟨zgc, trivial⟩ az r h) hkM1_ok.x, fun _ _ _ _ _ _ _ _ h => (by cases h)⟩
def V_invigilatorlaw32_awake : SV := .bool true
theorem L_invigilatorlaw32_awake : Ret E F.invigilatorlaw32_awake [] V_invigilatorlaw32_awake := xm ok (jb zij) zzz (show qM E ftB hkM2 1000 60 (.ret F.invigilatorlaw32_awake []) = some V_invigilatorlaw32_awake by kernel_rfl)
end Go.Sx.Tz
end
