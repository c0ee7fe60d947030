/-
  An own text of this claim.
-/
import Derived.Test.YtkmifafghlbeaaaGreatDoorP2
import Derived.Test.YtkmifafghlbeaaaGreatDoorProg
noncomputable section
namespace Go.Sx.Tz
open Go.Proofs
def tt : List (Nat × TI) := [(1, ⟨.fn, 1, 8, .nilf, false⟩),
  (2, ⟨.int .i64, 1, 8, .int .i64 0, false⟩),
  (3, ⟨.int .i64, 1, 8, .int .i64 0, false⟩),
  (4, ⟨.bool, 1, 1, .fls, false⟩),
  (5, ⟨.int .u8, 1, 1, .int .u8 0, false⟩),
  (6, ⟨.int .u8, 1, 1, .int .u8 0, false⟩),
  (7, ⟨.strct [(2, 0), (3, 1), (4, 2), (6, 3)], 4, 24, .agg [.int .i64 0, .int .i64 0, .fls, .int .u8 0], true⟩),
  (8, ⟨.strct [(2, 0), (3, 1), (4, 2), (6, 3)], 4, 24, .agg [.int .i64 0, .int .i64 0, .fls, .int .u8 0], true⟩),
  (9, ⟨.str, 1, 16, .str [], false⟩),
  (10, ⟨.str, 1, 16, .str [], false⟩),
  (11, ⟨.str, 1, 16, .str [], false⟩),
  (12, ⟨.int .u64, 1, 8, .int .u64 0, false⟩),
  (13, ⟨.strct [(9, 0), (12, 1)], 2, 24, .agg [.str [], .int .u64 0], false⟩),
  (14, ⟨.strct [(9, 0), (12, 1)], 2, 24, .agg [.str [], .int .u64 0], false⟩),
  (15, ⟨.ptr 305, 1, 8, .nilp, false⟩),
  (16, ⟨.ptr 308, 1, 8, .nilp, false⟩),
  (17, ⟨.ptr 316, 1, 8, .nilp, false⟩),
  (18, ⟨.strct [(17, 0)], 1, 8, .agg [.nilp], false⟩),
  (19, ⟨.strct [(17, 0)], 1, 8, .agg [.nilp], false⟩),
  (20, ⟨.ifc, 1, 16, .nili, false⟩),
  (21, ⟨.int .i32, 1, 4, .int .i32 0, false⟩),
  (22, ⟨.sl 9, 1, 24, .nils, false⟩),
  (23, ⟨.sl 5, 1, 24, .nils, false⟩),
  (24, ⟨.strct [(22, 0), (23, 1)], 2, 48, .agg [.nils, .nils], true⟩),
  (25, ⟨.strct [(22, 0), (23, 1)], 2, 48, .agg [.nils, .nils], true⟩),
  (26, ⟨.sl 43, 1, 24, .nils, false⟩),
  (27, ⟨.sl 48, 1, 24, .nils, false⟩),
  (28, ⟨.sl 74, 1, 24, .nils, false⟩),
  (29, ⟨.strct [(25, 0), (26, 2), (27, 3), (28, 4)], 5, 120, .agg [.agg [.nils, .nils], .nils, .nils, .nils], true⟩),
  (30, ⟨.strct [(25, 0), (26, 2), (27, 3), (28, 4)], 5, 120, .agg [.agg [.nils, .nils], .nils, .nils, .nils], true⟩),
  (31, ⟨.sl 64, 1, 24, .nils, false⟩),
  (32, ⟨.fn, 1, 8, .nilf, false⟩),
  (33, ⟨.fn, 1, 8, .nilf, false⟩),
  (34, ⟨.fn, 1, 8, .nilf, false⟩),
  (35, ⟨.sl 40, 1, 24, .nils, false⟩),
  (36, ⟨.int .i64, 1, 8, .int .i64 0, false⟩),
  (38, ⟨.fn, 1, 8, .nilf, false⟩),
  (39, ⟨.strct [(3, 0), (3, 1), (3, 2), (3, 3), (3, 4)], 5, 40, .agg [.int .i64 0, .int .i64 0, .int .i64 0, .int .i64 0, .int .i64 0], true⟩),
  (40, ⟨.strct [(3, 0), (3, 1), (3, 2), (3, 3), (3, 4)], 5, 40, .agg [.int .i64 0, .int .i64 0, .int .i64 0, .int .i64 0, .int .i64 0], true⟩),
  (41, ⟨.fn, 1, 8, .nilf, false⟩),
  (42, ⟨.strct [(9, 0), (3, 1)], 2, 24, .agg [.str [], .int .i64 0], true⟩),
  (43, ⟨.strct [(9, 0), (3, 1)], 2, 24, .agg [.str [], .int .i64 0], true⟩),
  (44, ⟨.arr 2 3, 2, 16, .arr 2 1 [.int .i64 0, .int .i64 0], true⟩),
  (45, ⟨.strct [(3, 0), (3, 1), (44, 2), (3, 4)], 5, 40, .agg [.int .i64 0, .int .i64 0, .arr 2 1 [.int .i64 0, .int .i64 0], .int .i64 0], true⟩),
  (46, ⟨.strct [(3, 0), (3, 1), (44, 2), (3, 4)], 5, 40, .agg [.int .i64 0, .int .i64 0, .arr 2 1 [.int .i64 0, .int .i64 0], .int .i64 0], true⟩),
  (47, ⟨.strct [(9, 0), (46, 1)], 6, 56, .agg [.str [], .agg [.int .i64 0, .int .i64 0, .arr 2 1 [.int .i64 0, .int .i64 0], .int .i64 0]], true⟩),
  (48, ⟨.strct [(9, 0), (46, 1)], 6, 56, .agg [.str [], .agg [.int .i64 0, .int .i64 0, .arr 2 1 [.int .i64 0, .int .i64 0], .int .i64 0]], true⟩),
  (49, ⟨.fn, 1, 8, .nilf, false⟩),
  (50, ⟨.fn, 1, 8, .nilf, false⟩),
  (52, ⟨.fn, 1, 8, .nilf, false⟩),
  (53, ⟨.fn, 1, 8, .nilf, false⟩),
  (55, ⟨.fn, 1, 8, .nilf, false⟩),
  (57, ⟨.fn, 1, 8, .nilf, false⟩),
  (59, ⟨.fn, 1, 8, .nilf, false⟩),
  (60, ⟨.mp 66 40, 1, 8, .any, false⟩),
  (61, ⟨.sl 66, 1, 24, .nils, false⟩),
  (62, ⟨.arr 2 2, 2, 16, .arr 2 1 [.int .i64 0, .int .i64 0], true⟩),
  (63, ⟨.strct [(3, 0), (3, 1), (3, 2), (3, 3), (3, 4), (62, 5)], 7, 56, .agg [.int .i64 0, .int .i64 0, .int .i64 0, .int .i64 0, .int .i64 0, .arr 2 1 [.int .i64 0, .int .i64 0]], true⟩),
  (64, ⟨.strct [(3, 0), (3, 1), (3, 2), (3, 3), (3, 4), (62, 5)], 7, 56, .agg [.int .i64 0, .int .i64 0, .int .i64 0, .int .i64 0, .int .i64 0, .arr 2 1 [.int .i64 0, .int .i64 0]], true⟩),
  (65, ⟨.arr 3 3, 3, 24, .arr 3 1 [.int .i64 0, .int .i64 0, .int .i64 0], true⟩),
  (66, ⟨.arr 3 3, 3, 24, .arr 3 1 [.int .i64 0, .int .i64 0, .int .i64 0], true⟩),
  (68, ⟨.fn, 1, 8, .nilf, false⟩),
  (69, ⟨.fn, 1, 8, .nilf, false⟩),
  (70, ⟨.fn, 1, 8, .nilf, false⟩),
  (71, ⟨.fn, 1, 8, .nilf, false⟩),
  (72, ⟨.fn, 1, 8, .nilf, false⟩),
  (73, ⟨.strct [(3, 0), (3, 1), (3, 2)], 3, 24, .agg [.int .i64 0, .int .i64 0, .int .i64 0], true⟩),
  (74, ⟨.strct [(3, 0), (3, 1), (3, 2)], 3, 24, .agg [.int .i64 0, .int .i64 0, .int .i64 0], true⟩),
  (75, ⟨.fn, 1, 8, .nilf, false⟩),
  (76, ⟨.fn, 1, 8, .nilf, false⟩),
  (77, ⟨.ptr 30, 1, 8, .nilp, false⟩),
  (78, ⟨.ptr 80, 1, 8, .nilp, false⟩),
  (79, ⟨.strct [(78, 0), (23, 1)], 2, 32, .agg [.nilp, .nils], true⟩),
  (80, ⟨.strct [(78, 0), (23, 1)], 2, 32, .agg [.nilp, .nils], true⟩),
  (81, ⟨.ifc, 1, 16, .nili, false⟩),
  (82, ⟨.ifc, 1, 16, .nili, false⟩),
  (84, ⟨.fn, 1, 8, .nilf, false⟩),
  (85, ⟨.fn, 1, 8, .nilf, false⟩),
  (86, ⟨.fn, 1, 8, .nilf, false⟩),
  (88, ⟨.fn, 1, 8, .nilf, false⟩),
  (89, ⟨.fn, 1, 8, .nilf, false⟩),
  (90, ⟨.fn, 1, 8, .nilf, false⟩),
  (91, ⟨.fn, 1, 8, .nilf, false⟩),
  (92, ⟨.int .u64, 1, 8, .int .u64 0, false⟩),
  (93, ⟨.fn, 1, 8, .nilf, false⟩),
  (94, ⟨.sl 3, 1, 24, .nils, false⟩),
  (95, ⟨.sl 31, 1, 24, .nils, false⟩),
  (96, ⟨.fn, 1, 8, .nilf, false⟩),
  (97, ⟨.fn, 1, 8, .nilf, false⟩),
  (98, ⟨.fn, 1, 8, .nilf, false⟩),
  (99, ⟨.ptr 5, 1, 8, .nilp, false⟩),
  (100, ⟨.sl 104, 1, 24, .nils, false⟩),
  (101, ⟨.fn, 1, 8, .nilf, false⟩),
  (102, ⟨.fn, 1, 8, .nilf, false⟩),
  (103, ⟨.strct [(102, 0)], 1, 8, .agg [.nilf], true⟩),
  (104, ⟨.strct [(102, 0)], 1, 8, .agg [.nilf], true⟩),
  (105, ⟨.fn, 1, 8, .nilf, false⟩),
  (106, ⟨.fn, 1, 8, .nilf, false⟩),
  (107, ⟨.ptr 64, 1, 8, .nilp, false⟩),
  (108, ⟨.fn, 1, 8, .nilf, false⟩),
  (109, ⟨.int .i64, 1, 8, .int .i64 0, false⟩),
  (111, ⟨.fn, 1, 8, .nilf, false⟩),
  (112, ⟨.fn, 1, 8, .nilf, false⟩),
  (113, ⟨.fn, 1, 8, .nilf, false⟩),
  (115, ⟨.fn, 1, 8, .nilf, false⟩),
  (116, ⟨.fn, 1, 8, .nilf, false⟩),
  (117, ⟨.int .u32, 1, 4, .int .u32 0, false⟩),
  (118, ⟨.fn, 1, 8, .nilf, false⟩),
  (119, ⟨.int .u64, 1, 8, .int .u64 0, false⟩),
  (120, ⟨.fn, 1, 8, .nilf, false⟩),
  (121, ⟨.fn, 1, 8, .nilf, false⟩),
  (122, ⟨.fn, 1, 8, .nilf, false⟩),
  (124, ⟨.fn, 1, 8, .nilf, false⟩),
  (125, ⟨.fn, 1, 8, .nilf, false⟩),
  (126, ⟨.fn, 1, 8, .nilf, false⟩),
  (127, ⟨.fn, 1, 8, .nilf, false⟩),
  (128, ⟨.strct [(9, 0), (127, 1)], 2, 24, .agg [.str [], .nilf], true⟩),
  (129, ⟨.strct [(9, 0), (127, 1)], 2, 24, .agg [.str [], .nilf], true⟩),
  (130, ⟨.arr 5 129, 10, 120, .arr 5 2 [.agg [.str [], .nilf], .agg [.str [], .nilf], .agg [.str [], .nilf], .agg [.str [], .nilf], .agg [.str [], .nilf]], true⟩),
  (131, ⟨.fn, 1, 8, .nilf, false⟩),
  (132, ⟨.fn, 1, 8, .nilf, false⟩),
  (133, ⟨.ptr 25, 1, 8, .nilp, false⟩),
  (134, ⟨.int .u64, 1, 8, .int .u64 0, false⟩),
  (135, ⟨.fn, 1, 8, .nilf, false⟩),
  (136, ⟨.fn, 1, 8, .nilf, false⟩),
  (137, ⟨.fn, 1, 8, .nilf, false⟩),
  (138, ⟨.ptr 3, 1, 8, .nilp, false⟩),
  (139, ⟨.fn, 1, 8, .nilf, false⟩),
  (140, ⟨.fn, 1, 8, .nilf, false⟩),
  (141, ⟨.fn, 1, 8, .nilf, false⟩),
  (142, ⟨.fn, 1, 8, .nilf, false⟩),
  (143, ⟨.fn, 1, 8, .nilf, false⟩),
  (144, ⟨.fn, 1, 8, .nilf, false⟩),
  (145, ⟨.fn, 1, 8, .nilf, false⟩),
  (146, ⟨.fn, 1, 8, .nilf, false⟩),
  (147, ⟨.fn, 1, 8, .nilf, false⟩),
  (148, ⟨.arr 5 9, 5, 80, .arr 5 1 [.str [], .str [], .str [], .str [], .str []], true⟩),
  (149, ⟨.fn, 1, 8, .nilf, false⟩),
  (150, ⟨.sl 2, 1, 24, .nils, false⟩),
  (151, ⟨.fn, 1, 8, .nilf, false⟩),
  (152, ⟨.arr 8 5, 8, 8, .arr 8 1 [.int .u8 0, .int .u8 0, .int .u8 0, .int .u8 0, .int .u8 0, .int .u8 0, .int .u8 0, .int .u8 0], true⟩),
  (153, ⟨.arr 8 5, 8, 8, .arr 8 1 [.int .u8 0, .int .u8 0, .int .u8 0, .int .u8 0, .int .u8 0, .int .u8 0, .int .u8 0, .int .u8 0], true⟩),
  (154, ⟨.arr 8 5, 8, 8, .arr 8 1 [.int .u8 0, .int .u8 0, .int .u8 0, .int .u8 0, .int .u8 0, .int .u8 0, .int .u8 0, .int .u8 0], true⟩),
  (155, ⟨.strct [(3, 0), (153, 1), (154, 9)], 17, 24, .agg [.int .i64 0, .arr 8 1 [.int .u8 0, .int .u8 0, .int .u8 0, .int .u8 0, .int .u8 0, .int .u8 0, .int .u8 0, .int .u8 0], .arr 8 1 [.int .u8 0, .int .u8 0, .int .u8 0, .int .u8 0, .int .u8 0, .int .u8 0, .int .u8 0, .int .u8 0]], true⟩),
  (156, ⟨.strct [(3, 0), (153, 1), (154, 9)], 17, 24, .agg [.int .i64 0, .arr 8 1 [.int .u8 0, .int .u8 0, .int .u8 0, .int .u8 0, .int .u8 0, .int .u8 0, .int .u8 0, .int .u8 0], .arr 8 1 [.int .u8 0, .int .u8 0, .int .u8 0, .int .u8 0, .int .u8 0, .int .u8 0, .int .u8 0, .int .u8 0]], true⟩),
  (157, ⟨.fn, 1, 8, .nilf, false⟩),
  (158, ⟨.fn, 1, 8, .nilf, false⟩),
  (159, ⟨.fn, 1, 8, .nilf, false⟩),
  (160, ⟨.mp 9 4, 1, 8, .any, false⟩),
  (161, ⟨.mp 9 4, 1, 8, .any, false⟩),
  (162, ⟨.fn, 1, 8, .nilf, false⟩),
  (163, ⟨.mp 44 4, 1, 8, .any, false⟩),
  (164, ⟨.ptr 134, 1, 8, .nilp, false⟩),
  (166, ⟨.fn, 1, 8, .nilf, false⟩),
  (167, ⟨.fn, 1, 8, .nilf, false⟩),
  (168, ⟨.fn, 1, 8, .nilf, false⟩),
  (169, ⟨.arr 24 5, 24, 24, .arr 24 1 [.int .u8 0, .int .u8 0, .int .u8 0, .int .u8 0, .int .u8 0, .int .u8 0, .int .u8 0, .int .u8 0, .int .u8 0, .int .u8 0, .int .u8 0, .int .u8 0, .int .u8 0, .int .u8 0, .int .u8 0, .int .u8 0, .int .u8 0, .int .u8 0, .int .u8 0, .int .u8 0, .int .u8 0, .int .u8 0, .int .u8 0, .int .u8 0], true⟩),
  (170, ⟨.fn, 1, 8, .nilf, false⟩),
  (172, ⟨.fn, 1, 8, .nilf, false⟩),
  (173, ⟨.fn, 1, 8, .nilf, false⟩),
  (175, ⟨.fn, 1, 8, .nilf, false⟩),
  (176, ⟨.fn, 1, 8, .nilf, false⟩),
  (177, ⟨.fn, 1, 8, .nilf, false⟩),
  (178, ⟨.fn, 1, 8, .nilf, false⟩),
  (179, ⟨.fn, 1, 8, .nilf, false⟩),
  (180, ⟨.fn, 1, 8, .nilf, false⟩),
  (181, ⟨.strct [(3, 0), (3, 1), (3, 2), (2, 3), (9, 4)], 5, 48, .agg [.int .i64 0, .int .i64 0, .int .i64 0, .int .i64 0, .str []], true⟩),
  (182, ⟨.strct [(3, 0), (3, 1), (3, 2), (2, 3), (9, 4)], 5, 48, .agg [.int .i64 0, .int .i64 0, .int .i64 0, .int .i64 0, .str []], true⟩),
  (183, ⟨.fn, 1, 8, .nilf, false⟩),
  (184, ⟨.fn, 1, 8, .nilf, false⟩),
  (185, ⟨.fn, 1, 8, .nilf, false⟩),
  (186, ⟨.arr 20 119, 20, 160, .arr 20 1 [.int .u64 0, .int .u64 0, .int .u64 0, .int .u64 0, .int .u64 0, .int .u64 0, .int .u64 0, .int .u64 0, .int .u64 0, .int .u64 0, .int .u64 0, .int .u64 0, .int .u64 0, .int .u64 0, .int .u64 0, .int .u64 0, .int .u64 0, .int .u64 0, .int .u64 0, .int .u64 0], true⟩),
  (187, ⟨.arr 65 5, 65, 65, .arr 65 1 [.int .u8 0, .int .u8 0, .int .u8 0, .int .u8 0, .int .u8 0, .int .u8 0, .int .u8 0, .int .u8 0, .int .u8 0, .int .u8 0, .int .u8 0, .int .u8 0, .int .u8 0, .int .u8 0, .int .u8 0, .int .u8 0, .int .u8 0, .int .u8 0, .int .u8 0, .int .u8 0, .int .u8 0, .int .u8 0, .int .u8 0, .int .u8 0, .int .u8 0, .int .u8 0, .int .u8 0, .int .u8 0, .int .u8 0, .int .u8 0, .int .u8 0, .int .u8 0, .int .u8 0, .int .u8 0, .int .u8 0, .int .u8 0, .int .u8 0, .int .u8 0, .int .u8 0, .int .u8 0, .int .u8 0, .int .u8 0, .int .u8 0, .int .u8 0, .int .u8 0, .int .u8 0, .int .u8 0, .int .u8 0, .int .u8 0, .int .u8 0, .int .u8 0, .int .u8 0, .int .u8 0, .int .u8 0, .int .u8 0, .int .u8 0, .int .u8 0, .int .u8 0, .int .u8 0, .int .u8 0, .int .u8 0, .int .u8 0, .int .u8 0, .int .u8 0, .int .u8 0], true⟩),
  (188, ⟨.fn, 1, 8, .nilf, false⟩),
  (189, ⟨.fn, 1, 8, .nilf, false⟩),
  (190, ⟨.int .i64, 1, 8, .int .i64 0, false⟩),
  (192, ⟨.fn, 1, 8, .nilf, false⟩),
  (193, ⟨.fn, 1, 8, .nilf, false⟩),
  (194, ⟨.fn, 1, 8, .nilf, false⟩),
  (195, ⟨.fn, 1, 8, .nilf, false⟩),
  (196, ⟨.fn, 1, 8, .nilf, false⟩),
  (197, ⟨.strct [(22, 0), (23, 1)], 2, 48, .agg [.nils, .nils], true⟩),
  (198, ⟨.fn, 1, 8, .nilf, false⟩),
  (199, ⟨.fn, 1, 8, .nilf, false⟩),
  (200, ⟨.fn, 1, 8, .nilf, false⟩),
  (202, ⟨.fn, 1, 8, .nilf, false⟩),
  (203, ⟨.fn, 1, 8, .nilf, false⟩),
  (204, ⟨.arr 33 188, 33, 264, .arr 33 1 [.nilf, .nilf, .nilf, .nilf, .nilf, .nilf, .nilf, .nilf, .nilf, .nilf, .nilf, .nilf, .nilf, .nilf, .nilf, .nilf, .nilf, .nilf, .nilf, .nilf, .nilf, .nilf, .nilf, .nilf, .nilf, .nilf, .nilf, .nilf, .nilf, .nilf, .nilf, .nilf, .nilf], true⟩),
  (205, ⟨.fn, 1, 8, .nilf, false⟩),
  (206, ⟨.arr 256 4, 256, 256, .arr 256 1 [.fls, .fls, .fls, .fls, .fls, .fls, .fls, .fls, .fls, .fls, .fls, .fls, .fls, .fls, .fls, .fls, .fls, .fls, .fls, .fls, .fls, .fls, .fls, .fls, .fls, .fls, .fls, .fls, .fls, .fls, .fls, .fls, .fls, .fls, .fls, .fls, .fls, .fls, .fls, .fls, .fls, .fls, .fls, .fls, .fls, .fls, .fls, .fls, .fls, .fls, .fls, .fls, .fls, .fls, .fls, .fls, .fls, .fls, .fls, .fls, .fls, .fls, .fls, .fls, .fls, .fls, .fls, .fls, .fls, .fls, .fls, .fls, .fls, .fls, .fls, .fls, .fls, .fls, .fls, .fls, .fls, .fls, .fls, .fls, .fls, .fls, .fls, .fls, .fls, .fls, .fls, .fls, .fls, .fls, .fls, .fls, .fls, .fls, .fls, .fls, .fls, .fls, .fls, .fls, .fls, .fls, .fls, .fls, .fls, .fls, .fls, .fls, .fls, .fls, .fls, .fls, .fls, .fls, .fls, .fls, .fls, .fls, .fls, .fls, .fls, .fls, .fls, .fls, .fls, .fls, .fls, .fls, .fls, .fls, .fls, .fls, .fls, .fls, .fls, .fls, .fls, .fls, .fls, .fls, .fls, .fls, .fls, .fls, .fls, .fls, .fls, .fls, .fls, .fls, .fls, .fls, .fls, .fls, .fls, .fls, .fls, .fls, .fls, .fls, .fls, .fls, .fls, .fls, .fls, .fls, .fls, .fls, .fls, .fls, .fls, .fls, .fls, .fls, .fls, .fls, .fls, .fls, .fls, .fls, .fls, .fls, .fls, .fls, .fls, .fls, .fls, .fls, .fls, .fls, .fls, .fls, .fls, .fls, .fls, .fls, .fls, .fls, .fls, .fls, .fls, .fls, .fls, .fls, .fls, .fls, .fls, .fls, .fls, .fls, .fls, .fls, .fls, .fls, .fls, .fls, .fls, .fls, .fls, .fls, .fls, .fls, .fls, .fls, .fls, .fls, .fls, .fls, .fls, .fls, .fls, .fls, .fls, .fls, .fls, .fls, .fls, .fls, .fls, .fls, .fls, .fls, .fls, .fls, .fls, .fls, .fls, .fls, .fls, .fls, .fls, .fls], true⟩),
  (207, ⟨.arr 256 4, 256, 256, .arr 256 1 [.fls, .fls, .fls, .fls, .fls, .fls, .fls, .fls, .fls, .fls, .fls, .fls, .fls, .fls, .fls, .fls, .fls, .fls, .fls, .fls, .fls, .fls, .fls, .fls, .fls, .fls, .fls, .fls, .fls, .fls, .fls, .fls, .fls, .fls, .fls, .fls, .fls, .fls, .fls, .fls, .fls, .fls, .fls, .fls, .fls, .fls, .fls, .fls, .fls, .fls, .fls, .fls, .fls, .fls, .fls, .fls, .fls, .fls, .fls, .fls, .fls, .fls, .fls, .fls, .fls, .fls, .fls, .fls, .fls, .fls, .fls, .fls, .fls, .fls, .fls, .fls, .fls, .fls, .fls, .fls, .fls, .fls, .fls, .fls, .fls, .fls, .fls, .fls, .fls, .fls, .fls, .fls, .fls, .fls, .fls, .fls, .fls, .fls, .fls, .fls, .fls, .fls, .fls, .fls, .fls, .fls, .fls, .fls, .fls, .fls, .fls, .fls, .fls, .fls, .fls, .fls, .fls, .fls, .fls, .fls, .fls, .fls, .fls, .fls, .fls, .fls, .fls, .fls, .fls, .fls, .fls, .fls, .fls, .fls, .fls, .fls, .fls, .fls, .fls, .fls, .fls, .fls, .fls, .fls, .fls, .fls, .fls, .fls, .fls, .fls, .fls, .fls, .fls, .fls, .fls, .fls, .fls, .fls, .fls, .fls, .fls, .fls, .fls, .fls, .fls, .fls, .fls, .fls, .fls, .fls, .fls, .fls, .fls, .fls, .fls, .fls, .fls, .fls, .fls, .fls, .fls, .fls, .fls, .fls, .fls, .fls, .fls, .fls, .fls, .fls, .fls, .fls, .fls, .fls, .fls, .fls, .fls, .fls, .fls, .fls, .fls, .fls, .fls, .fls, .fls, .fls, .fls, .fls, .fls, .fls, .fls, .fls, .fls, .fls, .fls, .fls, .fls, .fls, .fls, .fls, .fls, .fls, .fls, .fls, .fls, .fls, .fls, .fls, .fls, .fls, .fls, .fls, .fls, .fls, .fls, .fls, .fls, .fls, .fls, .fls, .fls, .fls, .fls, .fls, .fls, .fls, .fls, .fls, .fls, .fls, .fls, .fls, .fls, .fls, .fls, .fls], true⟩),
  (209, ⟨.fn, 1, 8, .nilf, false⟩),
  (210, ⟨.fn, 1, 8, .nilf, false⟩),
  (211, ⟨.ptr 207, 1, 8, .nilp, false⟩),
  (212, ⟨.sl 218, 1, 24, .nils, false⟩),
  (213, ⟨.fn, 1, 8, .nilf, false⟩),
  (214, ⟨.sl 36, 1, 24, .nils, false⟩),
  (215, ⟨.fn, 1, 8, .nilf, false⟩),
  (216, ⟨.fn, 1, 8, .nilf, false⟩),
  (217, ⟨.strct [(9, 0), (22, 1), (214, 2), (215, 3), (216, 4)], 5, 80, .agg [.str [], .nils, .nils, .nilf, .nilf], true⟩),
  (218, ⟨.strct [(9, 0), (22, 1), (214, 2), (215, 3), (216, 4)], 5, 80, .agg [.str [], .nils, .nils, .nilf, .nilf], true⟩),
  (219, ⟨.ptr 221, 1, 8, .nilp, false⟩),
  (220, ⟨.strct [(9, 0), (3, 1)], 2, 24, .agg [.str [], .int .i64 0], true⟩),
  (221, ⟨.strct [(9, 0), (3, 1)], 2, 24, .agg [.str [], .int .i64 0], true⟩),
  (222, ⟨.fn, 1, 8, .nilf, false⟩),
  (223, ⟨.ptr 197, 1, 8, .nilp, false⟩),
  (225, ⟨.fn, 1, 8, .nilf, false⟩),
  (226, ⟨.arr 32 5, 32, 32, .arr 32 1 [.int .u8 0, .int .u8 0, .int .u8 0, .int .u8 0, .int .u8 0, .int .u8 0, .int .u8 0, .int .u8 0, .int .u8 0, .int .u8 0, .int .u8 0, .int .u8 0, .int .u8 0, .int .u8 0, .int .u8 0, .int .u8 0, .int .u8 0, .int .u8 0, .int .u8 0, .int .u8 0, .int .u8 0, .int .u8 0, .int .u8 0, .int .u8 0, .int .u8 0, .int .u8 0, .int .u8 0, .int .u8 0, .int .u8 0, .int .u8 0, .int .u8 0, .int .u8 0], true⟩),
  (227, ⟨.arr 64 5, 64, 64, .arr 64 1 [.int .u8 0, .int .u8 0, .int .u8 0, .int .u8 0, .int .u8 0, .int .u8 0, .int .u8 0, .int .u8 0, .int .u8 0, .int .u8 0, .int .u8 0, .int .u8 0, .int .u8 0, .int .u8 0, .int .u8 0, .int .u8 0, .int .u8 0, .int .u8 0, .int .u8 0, .int .u8 0, .int .u8 0, .int .u8 0, .int .u8 0, .int .u8 0, .int .u8 0, .int .u8 0, .int .u8 0, .int .u8 0, .int .u8 0, .int .u8 0, .int .u8 0, .int .u8 0, .int .u8 0, .int .u8 0, .int .u8 0, .int .u8 0, .int .u8 0, .int .u8 0, .int .u8 0, .int .u8 0, .int .u8 0, .int .u8 0, .int .u8 0, .int .u8 0, .int .u8 0, .int .u8 0, .int .u8 0, .int .u8 0, .int .u8 0, .int .u8 0, .int .u8 0, .int .u8 0, .int .u8 0, .int .u8 0, .int .u8 0, .int .u8 0, .int .u8 0, .int .u8 0, .int .u8 0, .int .u8 0, .int .u8 0, .int .u8 0, .int .u8 0, .int .u8 0], true⟩),
  (229, ⟨.fn, 1, 8, .nilf, false⟩),
  (230, ⟨.fn, 1, 8, .nilf, false⟩),
  (231, ⟨.fn, 1, 8, .nilf, false⟩),
  (232, ⟨.fn, 1, 8, .nilf, false⟩),
  (234, ⟨.fn, 1, 8, .nilf, false⟩),
  (235, ⟨.fn, 1, 8, .nilf, false⟩),
  (236, ⟨.fn, 1, 8, .nilf, false⟩),
  (237, ⟨.fn, 1, 8, .nilf, false⟩),
  (238, ⟨.fn, 1, 8, .nilf, false⟩),
  (239, ⟨.fn, 1, 8, .nilf, false⟩),
  (240, ⟨.arr 256 5, 256, 256, .arr 256 1 [.int .u8 0, .int .u8 0, .int .u8 0, .int .u8 0, .int .u8 0, .int .u8 0, .int .u8 0, .int .u8 0, .int .u8 0, .int .u8 0, .int .u8 0, .int .u8 0, .int .u8 0, .int .u8 0, .int .u8 0, .int .u8 0, .int .u8 0, .int .u8 0, .int .u8 0, .int .u8 0, .int .u8 0, .int .u8 0, .int .u8 0, .int .u8 0, .int .u8 0, .int .u8 0, .int .u8 0, .int .u8 0, .int .u8 0, .int .u8 0, .int .u8 0, .int .u8 0, .int .u8 0, .int .u8 0, .int .u8 0, .int .u8 0, .int .u8 0, .int .u8 0, .int .u8 0, .int .u8 0, .int .u8 0, .int .u8 0, .int .u8 0, .int .u8 0, .int .u8 0, .int .u8 0, .int .u8 0, .int .u8 0, .int .u8 0, .int .u8 0, .int .u8 0, .int .u8 0, .int .u8 0, .int .u8 0, .int .u8 0, .int .u8 0, .int .u8 0, .int .u8 0, .int .u8 0, .int .u8 0, .int .u8 0, .int .u8 0, .int .u8 0, .int .u8 0, .int .u8 0, .int .u8 0, .int .u8 0, .int .u8 0, .int .u8 0, .int .u8 0, .int .u8 0, .int .u8 0, .int .u8 0, .int .u8 0, .int .u8 0, .int .u8 0, .int .u8 0, .int .u8 0, .int .u8 0, .int .u8 0, .int .u8 0, .int .u8 0, .int .u8 0, .int .u8 0, .int .u8 0, .int .u8 0, .int .u8 0, .int .u8 0, .int .u8 0, .int .u8 0, .int .u8 0, .int .u8 0, .int .u8 0, .int .u8 0, .int .u8 0, .int .u8 0, .int .u8 0, .int .u8 0, .int .u8 0, .int .u8 0, .int .u8 0, .int .u8 0, .int .u8 0, .int .u8 0, .int .u8 0, .int .u8 0, .int .u8 0, .int .u8 0, .int .u8 0, .int .u8 0, .int .u8 0, .int .u8 0, .int .u8 0, .int .u8 0, .int .u8 0, .int .u8 0, .int .u8 0, .int .u8 0, .int .u8 0, .int .u8 0, .int .u8 0, .int .u8 0, .int .u8 0, .int .u8 0, .int .u8 0, .int .u8 0, .int .u8 0, .int .u8 0, .int .u8 0, .int .u8 0, .int .u8 0, .int .u8 0, .int .u8 0, .int .u8 0, .int .u8 0, .int .u8 0, .int .u8 0, .int .u8 0, .int .u8 0, .int .u8 0, .int .u8 0, .int .u8 0, .int .u8 0, .int .u8 0, .int .u8 0, .int .u8 0, .int .u8 0, .int .u8 0, .int .u8 0, .int .u8 0, .int .u8 0, .int .u8 0, .int .u8 0, .int .u8 0, .int .u8 0, .int .u8 0, .int .u8 0, .int .u8 0, .int .u8 0, .int .u8 0, .int .u8 0, .int .u8 0, .int .u8 0, .int .u8 0, .int .u8 0, .int .u8 0, .int .u8 0, .int .u8 0, .int .u8 0, .int .u8 0, .int .u8 0, .int .u8 0, .int .u8 0, .int .u8 0, .int .u8 0, .int .u8 0, .int .u8 0, .int .u8 0, .int .u8 0, .int .u8 0, .int .u8 0, .int .u8 0, .int .u8 0, .int .u8 0, .int .u8 0, .int .u8 0, .int .u8 0, .int .u8 0, .int .u8 0, .int .u8 0, .int .u8 0, .int .u8 0, .int .u8 0, .int .u8 0, .int .u8 0, .int .u8 0, .int .u8 0, .int .u8 0, .int .u8 0, .int .u8 0, .int .u8 0, .int .u8 0, .int .u8 0, .int .u8 0, .int .u8 0, .int .u8 0, .int .u8 0, .int .u8 0, .int .u8 0, .int .u8 0, .int .u8 0, .int .u8 0, .int .u8 0, .int .u8 0, .int .u8 0, .int .u8 0, .int .u8 0, .int .u8 0, .int .u8 0, .int .u8 0, .int .u8 0, .int .u8 0, .int .u8 0, .int .u8 0, .int .u8 0, .int .u8 0, .int .u8 0, .int .u8 0, .int .u8 0, .int .u8 0, .int .u8 0, .int .u8 0, .int .u8 0, .int .u8 0, .int .u8 0, .int .u8 0, .int .u8 0, .int .u8 0, .int .u8 0, .int .u8 0, .int .u8 0, .int .u8 0, .int .u8 0, .int .u8 0, .int .u8 0, .int .u8 0, .int .u8 0, .int .u8 0, .int .u8 0, .int .u8 0, .int .u8 0, .int .u8 0, .int .u8 0, .int .u8 0, .int .u8 0, .int .u8 0], true⟩),
  (241, ⟨.strct [(5, 0), (5, 1)], 2, 2, .agg [.int .u8 0, .int .u8 0], true⟩),
  (242, ⟨.strct [(5, 0), (5, 1)], 2, 2, .agg [.int .u8 0, .int .u8 0], true⟩),
  (243, ⟨.arr 16 242, 32, 32, .arr 16 2 [.agg [.int .u8 0, .int .u8 0], .agg [.int .u8 0, .int .u8 0], .agg [.int .u8 0, .int .u8 0], .agg [.int .u8 0, .int .u8 0], .agg [.int .u8 0, .int .u8 0], .agg [.int .u8 0, .int .u8 0], .agg [.int .u8 0, .int .u8 0], .agg [.int .u8 0, .int .u8 0], .agg [.int .u8 0, .int .u8 0], .agg [.int .u8 0, .int .u8 0], .agg [.int .u8 0, .int .u8 0], .agg [.int .u8 0, .int .u8 0], .agg [.int .u8 0, .int .u8 0], .agg [.int .u8 0, .int .u8 0], .agg [.int .u8 0, .int .u8 0], .agg [.int .u8 0, .int .u8 0]], true⟩),
  (245, ⟨.fn, 1, 8, .nilf, false⟩),
  (246, ⟨.fn, 1, 8, .nilf, false⟩),
  (247, ⟨.fn, 1, 8, .nilf, false⟩),
  (248, ⟨.strct [(3, 0), (3, 1), (44, 2), (150, 4)], 5, 56, .agg [.int .i64 0, .int .i64 0, .arr 2 1 [.int .i64 0, .int .i64 0], .nils], true⟩),
  (249, ⟨.strct [(3, 0), (3, 1), (44, 2), (150, 4)], 5, 56, .agg [.int .i64 0, .int .i64 0, .arr 2 1 [.int .i64 0, .int .i64 0], .nils], true⟩),
  (250, ⟨.fn, 1, 8, .nilf, false⟩),
  (251, ⟨.fn, 1, 8, .nilf, false⟩),
  (252, ⟨.fn, 1, 8, .nilf, false⟩),
  (253, ⟨.fn, 1, 8, .nilf, false⟩),
  (254, ⟨.fn, 1, 8, .nilf, false⟩),
  (255, ⟨.fn, 1, 8, .nilf, false⟩),
  (256, ⟨.fn, 1, 8, .nilf, false⟩),
  (257, ⟨.fn, 1, 8, .nilf, false⟩),
  (258, ⟨.fn, 1, 8, .nilf, false⟩),
  (260, ⟨.fn, 1, 8, .nilf, false⟩),
  (262, ⟨.fn, 1, 8, .nilf, false⟩),
  (263, ⟨.fn, 1, 8, .nilf, false⟩),
  (264, ⟨.fn, 1, 8, .nilf, false⟩),
  (265, ⟨.fn, 1, 8, .nilf, false⟩),
  (266, ⟨.sl 150, 1, 24, .nils, false⟩),
  (268, ⟨.fn, 1, 8, .nilf, false⟩),
  (269, ⟨.fn, 1, 8, .nilf, false⟩),
  (270, ⟨.fn, 1, 8, .nilf, false⟩),
  (271, ⟨.fn, 1, 8, .nilf, false⟩),
  (273, ⟨.fn, 1, 8, .nilf, false⟩),
  (274, ⟨.fn, 1, 8, .nilf, false⟩),
  (275, ⟨.fn, 1, 8, .nilf, false⟩),
  (276, ⟨.fn, 1, 8, .nilf, false⟩),
  (277, ⟨.mp 2 2, 1, 8, .any, false⟩),
  (278, ⟨.fn, 1, 8, .nilf, false⟩),
  (279, ⟨.arr 10 9, 10, 160, .arr 10 1 [.str [], .str [], .str [], .str [], .str [], .str [], .str [], .str [], .str [], .str []], true⟩),
  (280, ⟨.fn, 1, 8, .nilf, false⟩),
  (281, ⟨.fn, 1, 8, .nilf, false⟩),
  (283, ⟨.fn, 1, 8, .nilf, false⟩),
  (284, ⟨.fn, 1, 8, .nilf, false⟩),
  (285, ⟨.fn, 1, 8, .nilf, false⟩),
  (286, ⟨.fn, 1, 8, .nilf, false⟩),
  (287, ⟨.sl 249, 1, 24, .nils, false⟩),
  (288, ⟨.fn, 1, 8, .nilf, false⟩),
  (289, ⟨.fn, 1, 8, .nilf, false⟩),
  (290, ⟨.fn, 1, 8, .nilf, false⟩),
  (291, ⟨.fn, 1, 8, .nilf, false⟩),
  (292, ⟨.fn, 1, 8, .nilf, false⟩),
  (293, ⟨.fn, 1, 8, .nilf, false⟩),
  (294, ⟨.arr 5 2, 5, 40, .arr 5 1 [.int .i64 0, .int .i64 0, .int .i64 0, .int .i64 0, .int .i64 0], true⟩),
  (295, ⟨.fn, 1, 8, .nilf, false⟩),
  (296, ⟨.fn, 1, 8, .nilf, false⟩),
  (297, ⟨.fn, 1, 8, .nilf, false⟩),
  (298, ⟨.fn, 1, 8, .nilf, false⟩),
  (299, ⟨.fn, 1, 8, .nilf, false⟩),
  (300, ⟨.fn, 1, 8, .nilf, false⟩),
  (301, ⟨.fn, 1, 8, .nilf, false⟩),
  (302, ⟨.fn, 1, 8, .nilf, false⟩),
  (303, ⟨.fn, 1, 8, .nilf, false⟩),
  (304, ⟨.strct [(17, 0), (17, 1), (17, 2), (9, 3)], 4, 40, .agg [.nilp, .nilp, .nilp, .str []], false⟩),
  (305, ⟨.strct [(17, 0), (17, 1), (17, 2), (9, 3)], 4, 40, .agg [.nilp, .nilp, .nilp, .str []], false⟩),
  (306, ⟨.arr 0 16, 0, 0, .arr 0 1 [], true⟩),
  (307, ⟨.strct [(306, 0)], 0, 0, .agg [.arr 0 1 []], false⟩),
  (308, ⟨.strct [(306, 0)], 0, 0, .agg [.arr 0 1 []], false⟩),
  (309, ⟨.fn, 1, 8, .nilf, false⟩),
  (310, ⟨.int .u8, 1, 1, .int .u8 0, false⟩),
  (311, ⟨.int .u8, 1, 1, .int .u8 0, false⟩),
  (312, ⟨.fn, 1, 8, .nilf, false⟩),
  (313, ⟨.int .i32, 1, 4, .int .i32 0, false⟩),
  (314, ⟨.int .i32, 1, 4, .int .i32 0, false⟩),
  (315, ⟨.strct [(12, 0), (12, 1), (117, 2), (310, 3), (5, 4), (5, 5), (311, 6), (312, 7), (99, 8), (313, 9), (314, 10)], 11, 48, .agg [.int .u64 0, .int .u64 0, .int .u32 0, .int .u8 0, .int .u8 0, .int .u8 0, .int .u8 0, .nilf, .nilp, .int .i32 0, .int .i32 0], false⟩),
  (316, ⟨.strct [(12, 0), (12, 1), (117, 2), (310, 3), (5, 4), (5, 5), (311, 6), (312, 7), (99, 8), (313, 9), (314, 10)], 11, 48, .agg [.int .u64 0, .int .u64 0, .int .u32 0, .int .u8 0, .int .u8 0, .int .u8 0, .int .u8 0, .nilf, .nilp, .int .i32 0, .int .i32 0], false⟩)]
set_option maxRecDepth 100000 in
theorem zB7 : ttB Tryz.prog tt = true := by kernel_rfl
theorem mixed : Tryz.prog.follows .mixedOrders = true := by kernel_rfl
abbrev F.invigilatorlaw30_awake : Nat := 6
abbrev F.slices_SortFunc___audit_key_audit_key_ : Nat := 16
abbrev F._audit_key__order : Nat := 17
abbrev F._Pstrings_Builder__WriteString : Nat := 23
abbrev F.audit_line : Nat := 24
abbrev F._Pstrings_Builder__String : Nat := 25
abbrev F.policy_Check : Nat := 26
abbrev F.slices_pdqsortCmpFunc_audit_key_ : Nat := 28
abbrev F.audit_line_1 : Nat := 35
abbrev F.policy_parts : Nat := 38
abbrev F.slices_insertionSortCmpFunc_audit_key_ : Nat := 41
abbrev F.release_folds : Nat := 61
abbrev F.lattice_Check : Nat := 63
abbrev F._policy_names__meet : Nat := 96
abbrev F.prims_table : Nat := 164
abbrev F._Plexer_reader__class : Nat := 165
abbrev F._Plexer_reader__while : Nat := 166
abbrev F.prims_errs : Nat := 181
abbrev F.internal_stringslite_IndexByte : Nat := 251
def ft : List (Nat × Func) := [(6, Tryz.f6), (7, Tryz.f7), (10, Tryz.f10), (11, Tryz.f11), (12, Tryz.f12), (13, Tryz.f13), (14, Tryz.f14), (15, Tryz.f15), (16, Tryz.f16), (17, Tryz.f17), (20, Tryz.f20), (21, Tryz.f21), (22, Tryz.f22), (23, Tryz.f23), (24, Tryz.f24), (26, Tryz.f26), (27, Tryz.f27), (28, Tryz.f28), (29, Tryz.f29), (30, Tryz.f30), (33, Tryz.f33), (34, Tryz.f34), (35, Tryz.f35), (36, Tryz.f36), (37, Tryz.f37), (38, Tryz.f38), (39, Tryz.f39), (40, Tryz.f40), (41, Tryz.f41), (42, Tryz.f42), (43, Tryz.f43), (44, Tryz.f44), (45, Tryz.f45), (46, Tryz.f46), (47, Tryz.f47), (48, Tryz.f48), (49, Tryz.f49), (50, Tryz.f50), (51, Tryz.f51), (59, Tryz.f59), (61, Tryz.f61), (62, Tryz.f62), (63, Tryz.f63), (64, Tryz.f64), (65, Tryz.f65), (66, Tryz.f66), (67, Tryz.f67), (68, Tryz.f68), (69, Tryz.f69), (70, Tryz.f70), (71, Tryz.f71), (72, Tryz.f72), (73, Tryz.f73), (83, Tryz.f83), (85, Tryz.f85), (86, Tryz.f86), (87, Tryz.f87), (88, Tryz.f88), (89, Tryz.f89), (90, Tryz.f90), (91, Tryz.f91), (92, Tryz.f92), (93, Tryz.f93), (94, Tryz.f94), (95, Tryz.f95), (96, Tryz.f96), (97, Tryz.f97), (98, Tryz.f98), (102, Tryz.f102), (103, Tryz.f103), (104, Tryz.f104), (105, Tryz.f105), (107, Tryz.f107), (108, Tryz.f108), (109, Tryz.f109), (110, Tryz.f110), (111, Tryz.f111), (112, Tryz.f112), (119, Tryz.f119), (120, Tryz.f120), (121, Tryz.f121), (122, Tryz.f122), (123, Tryz.f123), (124, Tryz.f124), (125, Tryz.f125), (126, Tryz.f126), (127, Tryz.f127), (128, Tryz.f128), (129, Tryz.f129), (130, Tryz.f130), (131, Tryz.f131), (132, Tryz.f132), (133, Tryz.f133), (137, Tryz.f137), (138, Tryz.f138), (139, Tryz.f139), (140, Tryz.f140), (141, Tryz.f141), (142, Tryz.f142), (143, Tryz.f143), (144, Tryz.f144), (145, Tryz.f145), (146, Tryz.f146), (147, Tryz.f147), (148, Tryz.f148), (149, Tryz.f149), (150, Tryz.f150), (151, Tryz.f151), (152, Tryz.f152), (153, Tryz.f153), (154, Tryz.f154), (155, Tryz.f155), (156, Tryz.f156), (157, Tryz.f157), (158, Tryz.f158), (159, Tryz.f159), (160, Tryz.f160), (161, Tryz.f161), (162, Tryz.f162), (163, Tryz.f163), (164, Tryz.f164), (165, Tryz.f165), (166, Tryz.f166), (167, Tryz.f167), (168, Tryz.f168), (172, Tryz.f172), (173, Tryz.f173), (174, Tryz.f174), (175, Tryz.f175), (176, Tryz.f176), (177, Tryz.f177), (178, Tryz.f178), (179, Tryz.f179), (180, Tryz.f180), (181, Tryz.f181), (182, Tryz.f182), (183, Tryz.f183), (184, Tryz.f184), (185, Tryz.f185), (186, Tryz.f186), (187, Tryz.f187), (188, Tryz.f188), (189, Tryz.f189), (190, Tryz.f190), (191, Tryz.f191), (192, Tryz.f192), (193, Tryz.f193), (194, Tryz.f194), (195, Tryz.f195), (196, Tryz.f196), (197, Tryz.f197), (198, Tryz.f198), (199, Tryz.f199), (200, Tryz.f200), (201, Tryz.f201), (202, Tryz.f202), (203, Tryz.f203), (206, Tryz.f206), (207, Tryz.f207), (208, Tryz.f208), (209, Tryz.f209), (210, Tryz.f210), (211, Tryz.f211), (212, Tryz.f212), (213, Tryz.f213), (214, Tryz.f214), (215, Tryz.f215), (216, Tryz.f216), (217, Tryz.f217), (218, Tryz.f218), (219, Tryz.f219), (220, Tryz.f220), (221, Tryz.f221), (222, Tryz.f222), (223, Tryz.f223), (224, Tryz.f224), (225, Tryz.f225), (226, Tryz.f226), (227, Tryz.f227), (229, Tryz.f229), (230, Tryz.f230), (231, Tryz.f231), (232, Tryz.f232), (233, Tryz.f233), (234, Tryz.f234), (238, Tryz.f238), (239, Tryz.f239), (240, Tryz.f240), (242, Tryz.f242), (243, Tryz.f243), (244, Tryz.f244), (245, Tryz.f245), (246, Tryz.f246), (247, Tryz.f247), (248, Tryz.f248), (249, Tryz.f249), (250, Tryz.f250), (251, Tryz.f251), (252, Tryz.f252), (253, Tryz.f253), (254, Tryz.f254), (255, Tryz.f255), (256, Tryz.f256), (257, Tryz.f257), (259, Tryz.f259), (260, Tryz.f260), (261, Tryz.f261), (262, Tryz.f262), (263, Tryz.f263), (264, Tryz.f264), (265, Tryz.f265), (266, Tryz.f266), (267, Tryz.f267)]
set_option maxRecDepth 100000 in
theorem za4 : zd6 Tryz.prog ft := ⟨⟨Tryz.func6, by kernel_rfl⟩, ⟨Tryz.func7, by kernel_rfl⟩, ⟨Tryz.func10, by kernel_rfl⟩, ⟨Tryz.func11, by kernel_rfl⟩, ⟨Tryz.func12, by kernel_rfl⟩, ⟨Tryz.func13, by kernel_rfl⟩, ⟨Tryz.func14, by kernel_rfl⟩, ⟨Tryz.func15, by kernel_rfl⟩, ⟨Tryz.func16, by kernel_rfl⟩, ⟨Tryz.func17, by kernel_rfl⟩, ⟨Tryz.func20, by kernel_rfl⟩, ⟨Tryz.func21, by kernel_rfl⟩, ⟨Tryz.func22, by kernel_rfl⟩, ⟨Tryz.func23, by kernel_rfl⟩, ⟨Tryz.func24, by kernel_rfl⟩, ⟨Tryz.func26, by kernel_rfl⟩, ⟨Tryz.func27, by kernel_rfl⟩, ⟨Tryz.func28, by kernel_rfl⟩, ⟨Tryz.func29, by kernel_rfl⟩, ⟨Tryz.func30, by kernel_rfl⟩, ⟨Tryz.func33, by kernel_rfl⟩, ⟨Tryz.func34, by kernel_rfl⟩, ⟨Tryz.func35, by kernel_rfl⟩, ⟨Tryz.func36, by kernel_rfl⟩, ⟨Tryz.func37, by kernel_rfl⟩, ⟨Tryz.func38, by kernel_rfl⟩, ⟨Tryz.func39, by kernel_rfl⟩, ⟨Tryz.func40, by kernel_rfl⟩, ⟨Tryz.func41, by kernel_rfl⟩, ⟨Tryz.func42, by kernel_rfl⟩, ⟨Tryz.func43, by kernel_rfl⟩, ⟨Tryz.func44, by kernel_rfl⟩, ⟨Tryz.func45, by kernel_rfl⟩, ⟨Tryz.func46, by kernel_rfl⟩, ⟨Tryz.func47, by kernel_rfl⟩, ⟨Tryz.func48, by kernel_rfl⟩, ⟨Tryz.func49, by kernel_rfl⟩, ⟨Tryz.func50, by kernel_rfl⟩, ⟨Tryz.func51, by kernel_rfl⟩, ⟨Tryz.func59, by kernel_rfl⟩, ⟨Tryz.func61, by kernel_rfl⟩, ⟨Tryz.func62, by kernel_rfl⟩, ⟨Tryz.func63, by kernel_rfl⟩, ⟨Tryz.func64, by kernel_rfl⟩, ⟨Tryz.func65, by kernel_rfl⟩, ⟨Tryz.func66, by kernel_rfl⟩, ⟨Tryz.func67, by kernel_rfl⟩, ⟨Tryz.func68, by kernel_rfl⟩, ⟨Tryz.func69, by kernel_rfl⟩, ⟨Tryz.func70, by kernel_rfl⟩, ⟨Tryz.func71, by kernel_rfl⟩, ⟨Tryz.func72, by kernel_rfl⟩, ⟨Tryz.func73, by kernel_rfl⟩, ⟨Tryz.func83, by kernel_rfl⟩, ⟨Tryz.func85, by kernel_rfl⟩, ⟨Tryz.func86, by kernel_rfl⟩, ⟨Tryz.func87, by kernel_rfl⟩, ⟨Tryz.func88, by kernel_rfl⟩, ⟨Tryz.func89, by kernel_rfl⟩, ⟨Tryz.func90, by kernel_rfl⟩, ⟨Tryz.func91, by kernel_rfl⟩, ⟨Tryz.func92, by kernel_rfl⟩, ⟨Tryz.func93, by kernel_rfl⟩, ⟨Tryz.func94, by kernel_rfl⟩, ⟨Tryz.func95, by kernel_rfl⟩, ⟨Tryz.func96, by kernel_rfl⟩, ⟨Tryz.func97, by kernel_rfl⟩, ⟨Tryz.func98, by kernel_rfl⟩, ⟨Tryz.func102, by kernel_rfl⟩, ⟨Tryz.func103, by kernel_rfl⟩, ⟨Tryz.func104, by kernel_rfl⟩, ⟨Tryz.func105, by kernel_rfl⟩, ⟨Tryz.func107, by kernel_rfl⟩, ⟨Tryz.func108, by kernel_rfl⟩, ⟨Tryz.func109, by kernel_rfl⟩, ⟨Tryz.func110, by kernel_rfl⟩, ⟨Tryz.func111, by kernel_rfl⟩, ⟨Tryz.func112, by kernel_rfl⟩, ⟨Tryz.func119, by kernel_rfl⟩, ⟨Tryz.func120, by kernel_rfl⟩, ⟨Tryz.func121, by kernel_rfl⟩, ⟨Tryz.func122, by kernel_rfl⟩, ⟨Tryz.func123, by kernel_rfl⟩, ⟨Tryz.func124, by kernel_rfl⟩, ⟨Tryz.func125, by kernel_rfl⟩, ⟨Tryz.func126, by kernel_rfl⟩, ⟨Tryz.func127, by kernel_rfl⟩, ⟨Tryz.func128, by kernel_rfl⟩, ⟨Tryz.func129, by kernel_rfl⟩, ⟨Tryz.func130, by kernel_rfl⟩, ⟨Tryz.func131, by kernel_rfl⟩, ⟨Tryz.func132, by kernel_rfl⟩, ⟨Tryz.func133, by kernel_rfl⟩, ⟨Tryz.func137, by kernel_rfl⟩, ⟨Tryz.func138, by kernel_rfl⟩, ⟨Tryz.func139, by kernel_rfl⟩, ⟨Tryz.func140, by kernel_rfl⟩, ⟨Tryz.func141, by kernel_rfl⟩, ⟨Tryz.func142, by kernel_rfl⟩, ⟨Tryz.func143, by kernel_rfl⟩, ⟨Tryz.func144, by kernel_rfl⟩, ⟨Tryz.func145, by kernel_rfl⟩, ⟨Tryz.func146, by kernel_rfl⟩, ⟨Tryz.func147, by kernel_rfl⟩, ⟨Tryz.func148, by kernel_rfl⟩, ⟨Tryz.func149, by kernel_rfl⟩, ⟨Tryz.func150, by kernel_rfl⟩, ⟨Tryz.func151, by kernel_rfl⟩, ⟨Tryz.func152, by kernel_rfl⟩, ⟨Tryz.func153, by kernel_rfl⟩, ⟨Tryz.func154, by kernel_rfl⟩, ⟨Tryz.func155, by kernel_rfl⟩, ⟨Tryz.func156, by kernel_rfl⟩, ⟨Tryz.func157, by kernel_rfl⟩, ⟨Tryz.func158, by kernel_rfl⟩, ⟨Tryz.func159, by kernel_rfl⟩, ⟨Tryz.func160, by kernel_rfl⟩, ⟨Tryz.func161, by kernel_rfl⟩, ⟨Tryz.func162, by kernel_rfl⟩, ⟨Tryz.func163, by kernel_rfl⟩, ⟨Tryz.func164, by kernel_rfl⟩, ⟨Tryz.func165, by kernel_rfl⟩, ⟨Tryz.func166, by kernel_rfl⟩, ⟨Tryz.func167, by kernel_rfl⟩, ⟨Tryz.func168, by kernel_rfl⟩, ⟨Tryz.func172, by kernel_rfl⟩, ⟨Tryz.func173, by kernel_rfl⟩, ⟨Tryz.func174, by kernel_rfl⟩, ⟨Tryz.func175, by kernel_rfl⟩, ⟨Tryz.func176, by kernel_rfl⟩, ⟨Tryz.func177, by kernel_rfl⟩, ⟨Tryz.func178, by kernel_rfl⟩, ⟨Tryz.func179, by kernel_rfl⟩, ⟨Tryz.func180, by kernel_rfl⟩, ⟨Tryz.func181, by kernel_rfl⟩, ⟨Tryz.func182, by kernel_rfl⟩, ⟨Tryz.func183, by kernel_rfl⟩, ⟨Tryz.func184, by kernel_rfl⟩, ⟨Tryz.func185, by kernel_rfl⟩, ⟨Tryz.func186, by kernel_rfl⟩, ⟨Tryz.func187, by kernel_rfl⟩, ⟨Tryz.func188, by kernel_rfl⟩, ⟨Tryz.func189, by kernel_rfl⟩, ⟨Tryz.func190, by kernel_rfl⟩, ⟨Tryz.func191, by kernel_rfl⟩, ⟨Tryz.func192, by kernel_rfl⟩, ⟨Tryz.func193, by kernel_rfl⟩, ⟨Tryz.func194, by kernel_rfl⟩, ⟨Tryz.func195, by kernel_rfl⟩, ⟨Tryz.func196, by kernel_rfl⟩, ⟨Tryz.func197, by kernel_rfl⟩, ⟨Tryz.func198, by kernel_rfl⟩, ⟨Tryz.func199, by kernel_rfl⟩, ⟨Tryz.func200, by kernel_rfl⟩, ⟨Tryz.func201, by kernel_rfl⟩, ⟨Tryz.func202, by kernel_rfl⟩, ⟨Tryz.func203, by kernel_rfl⟩, ⟨Tryz.func206, by kernel_rfl⟩, ⟨Tryz.func207, by kernel_rfl⟩, ⟨Tryz.func208, by kernel_rfl⟩, ⟨Tryz.func209, by kernel_rfl⟩, ⟨Tryz.func210, by kernel_rfl⟩, ⟨Tryz.func211, by kernel_rfl⟩, ⟨Tryz.func212, by kernel_rfl⟩, ⟨Tryz.func213, by kernel_rfl⟩, ⟨Tryz.func214, by kernel_rfl⟩, ⟨Tryz.func215, by kernel_rfl⟩, ⟨Tryz.func216, by kernel_rfl⟩, ⟨Tryz.func217, by kernel_rfl⟩, ⟨Tryz.func218, by kernel_rfl⟩, ⟨Tryz.func219, by kernel_rfl⟩, ⟨Tryz.func220, by kernel_rfl⟩, ⟨Tryz.func221, by kernel_rfl⟩, ⟨Tryz.func222, by kernel_rfl⟩, ⟨Tryz.func223, by kernel_rfl⟩, ⟨Tryz.func224, by kernel_rfl⟩, ⟨Tryz.func225, by kernel_rfl⟩, ⟨Tryz.func226, by kernel_rfl⟩, ⟨Tryz.func227, by kernel_rfl⟩, ⟨Tryz.func229, by kernel_rfl⟩, ⟨Tryz.func230, by kernel_rfl⟩, ⟨Tryz.func231, by kernel_rfl⟩, ⟨Tryz.func232, by kernel_rfl⟩, ⟨Tryz.func233, by kernel_rfl⟩, ⟨Tryz.func234, by kernel_rfl⟩, ⟨Tryz.func238, by kernel_rfl⟩, ⟨Tryz.func239, by kernel_rfl⟩, ⟨Tryz.func240, by kernel_rfl⟩, ⟨Tryz.func242, by kernel_rfl⟩, ⟨Tryz.func243, by kernel_rfl⟩, ⟨Tryz.func244, by kernel_rfl⟩, ⟨Tryz.func245, by kernel_rfl⟩, ⟨Tryz.func246, by kernel_rfl⟩, ⟨Tryz.func247, by kernel_rfl⟩, ⟨Tryz.func248, by kernel_rfl⟩, ⟨Tryz.func249, by kernel_rfl⟩, ⟨Tryz.func250, by kernel_rfl⟩, ⟨Tryz.func251, by kernel_rfl⟩, ⟨Tryz.func252, by kernel_rfl⟩, ⟨Tryz.func253, by kernel_rfl⟩, ⟨Tryz.func254, by kernel_rfl⟩, ⟨Tryz.func255, by kernel_rfl⟩, ⟨Tryz.func256, by kernel_rfl⟩, ⟨Tryz.func257, by kernel_rfl⟩, ⟨Tryz.func259, by kernel_rfl⟩, ⟨Tryz.func260, by kernel_rfl⟩, ⟨Tryz.func261, by kernel_rfl⟩, ⟨Tryz.func262, by kernel_rfl⟩, ⟨Tryz.func263, by kernel_rfl⟩, ⟨Tryz.func264, by kernel_rfl⟩, ⟨Tryz.func265, by kernel_rfl⟩, ⟨Tryz.func266, by kernel_rfl⟩, ⟨Tryz.func267, by kernel_rfl⟩, trivial⟩
open Go.RowKit (Below)
def gl : List (Nat × SV) := [(4, .sl 1 [.str [105, 110, 105, 110], .str [105, 48, 105, 110, 105, 110], .str [105, 110, 105, 48, 105, 110], .str [105, 110, 105, 110, 105, 110]]), (5, .sl 1 [.str [107, 48, 107, 110, 105, 110], .str [107, 110, 107, 48, 105, 110], .str [107, 110, 107, 110, 105, 110]])]
theorem zyg (w : World) (u : Value) : Calls Tryz.prog F.prims_errs #[u] w fun e w' => e = .returned u /\ Below w.heap.size w w' := by
  refine calls_of_wp Tryz.func181 rfl ?_
  have e0 : (#[u] ++ Array.replicate (Tryz.f181.ntmps - #[u].size) undef) = #[u, undef, undef, undef] := by
    simp [Tryz.f181, Array.replicate]
  rw [e0]
  refine wp_seq (wp_region ?_)
  simp [wpOps, Region.wanted, Oper.wp, execOp, Oper.upon_value, Act.put, Act.eval, Exit.then, List.range, List.range.loop]
  refine .inl (wp_seq (wp_region ?_))
  simp [wpOps, Region.wanted, Oper.wp, execOp, Oper.upon_value, Act.put, Act.eval, Exit.then, List.range, List.range.loop]
  refine .inl (.inl (wp_ret ?_))
  refine ⟨rfl, u, ?_, rfl, Below.refl _ _⟩
  simp [results, Tryz.f181]
def E : Env := { P := Tryz.prog, tt := tt, gl := gl, lend := [F._Plexer_reader__class, F._Plexer_reader__while, F._policy_names__meet, F._Pstrings_Builder__WriteString, F._Pstrings_Builder__String, F.slices_SortFunc___audit_key_audit_key_, F.slices_pdqsortCmpFunc_audit_key_, F.slices_insertionSortCmpFunc_audit_key_], idf := [F.prims_errs], bts := [80] }
theorem zEu : ∀ f, qF f [F.prims_errs] = true -> qR Tryz.prog f /\ ∀ (w : World) (u : Value), Calls Tryz.prog f #[u] w fun e w' => e = .returned u /\ Below w.heap.size w w' := by
  intro f hf
  have : f = F.prims_errs := by simpa using memb_mem.1 hf
  subst this
  exact ⟨⟨_, Tryz.func181, rfl, by decide +kernel⟩, zyg⟩
set_option maxRecDepth 100000 in
theorem ok : EnvOK E := have h := zvw (gl := gl) (ld := []) zB7 mixed zEu; ⟨h.tt', h.mixed, h.idf, h.mt⟩
end Go.Sx.Tz
end
namespace Go.Sx.Tz
open Go.Proofs Go.Shelf
def ren : Go.Shelf.Ren := ⟨fun | 156 => 36 | 165 => 60 | 166 => 23 | 169 => 25 | 240 => 33 | 241 => 84 | 276 => 58 | 277 => 106 | n => n, fun | 0 => 0 | 3 => 3 | 4 => 4 | 5 => 5 | 9 => 9 | 20 => 20 | 31 => 22 | 37 => 23 | 70 => 78 | 72 => 80 | 75 => 82 | 76 => 83 | 80 => 86 | 127 => 99 | 164 => 123 | n => n, fun | n => n⟩
theorem zy2 : Lays.n166 Tryz.prog ren := {
  mixed := by kernel_rfl
  f166 := Tryz.func23.trans (congrArg some (by kernel_rfl))
  f240 := Tryz.func33.trans (congrArg some (by kernel_rfl))
  f276 := Tryz.func58.trans (congrArg some (by kernel_rfl))
  t0 := Tryz.underlying0
  a0 := Tryz.isAgg0
  z0 := Tryz.sizeOf0
  v0 := Tryz.zeroValue0
  t3 := Tryz.underlying3
  a3 := Tryz.isAgg3
  z3 := Tryz.sizeOf3
  v3 := Tryz.zeroValue3
  t4 := Tryz.underlying4
  a4 := Tryz.isAgg4
  z4 := Tryz.sizeOf4
  v4 := Tryz.zeroValue4
  t9 := Tryz.underlying9
  a9 := Tryz.isAgg9
  z9 := Tryz.sizeOf9
  v9 := Tryz.zeroValue9
  t20 := Tryz.underlying20
  a20 := Tryz.isAgg20
  z20 := Tryz.sizeOf20
  v20 := Tryz.zeroValue20
  t37 := Tryz.underlying23
  a37 := Tryz.isAgg23
  z37 := Tryz.sizeOf23
  v37 := Tryz.zeroValue23
  t70 := Tryz.underlying78
  a70 := Tryz.isAgg78
  z70 := Tryz.sizeOf78
  v70 := Tryz.zeroValue78
  t72 := Tryz.underlying80
  a72 := Tryz.isAgg80
  z72 := Tryz.sizeOf80
  v72 := Tryz.zeroValue80
  t75 := Tryz.underlying82
  a75 := Tryz.isAgg82
  z75 := Tryz.sizeOf82
  v75 := Tryz.zeroValue82
  t164 := Tryz.underlying123
  a164 := Tryz.isAgg123
  z164 := Tryz.sizeOf123
  v164 := Tryz.zeroValue123 }
theorem zzl : Lays.n169 Tryz.prog ren := {
  mixed := by kernel_rfl
  f169 := Tryz.func25.trans (congrArg some (by kernel_rfl))
  t0 := Tryz.underlying0
  a0 := Tryz.isAgg0
  z0 := Tryz.sizeOf0
  v0 := Tryz.zeroValue0
  t3 := Tryz.underlying3
  a3 := Tryz.isAgg3
  z3 := Tryz.sizeOf3
  v3 := Tryz.zeroValue3
  t9 := Tryz.underlying9
  a9 := Tryz.isAgg9
  z9 := Tryz.sizeOf9
  v9 := Tryz.zeroValue9
  t37 := Tryz.underlying23
  a37 := Tryz.isAgg23
  z37 := Tryz.sizeOf23
  v37 := Tryz.zeroValue23
  t70 := Tryz.underlying78
  a70 := Tryz.isAgg78
  z70 := Tryz.sizeOf78
  v70 := Tryz.zeroValue78
  t72 := Tryz.underlying80
  a72 := Tryz.isAgg80
  z72 := Tryz.sizeOf80
  v72 := Tryz.zeroValue80
  t127 := Tryz.underlying99
  a127 := Tryz.isAgg99
  z127 := Tryz.sizeOf99
  v127 := Tryz.zeroValue99 }
theorem zy0 : Lays.n156 Tryz.prog ren := {
  mixed := by kernel_rfl
  f156 := Tryz.func36.trans (congrArg some (by kernel_rfl))
  f165 := Tryz.func60.trans (congrArg some (by kernel_rfl))
  f166 := Tryz.func23.trans (congrArg some (by kernel_rfl))
  f169 := Tryz.func25.trans (congrArg some (by kernel_rfl))
  f240 := Tryz.func33.trans (congrArg some (by kernel_rfl))
  f241 := Tryz.func84.trans (congrArg some (by kernel_rfl))
  f276 := Tryz.func58.trans (congrArg some (by kernel_rfl))
  f277 := Tryz.func106.trans (congrArg some (by kernel_rfl))
  t0 := Tryz.underlying0
  a0 := Tryz.isAgg0
  z0 := Tryz.sizeOf0
  v0 := Tryz.zeroValue0
  t3 := Tryz.underlying3
  a3 := Tryz.isAgg3
  z3 := Tryz.sizeOf3
  v3 := Tryz.zeroValue3
  t4 := Tryz.underlying4
  a4 := Tryz.isAgg4
  z4 := Tryz.sizeOf4
  v4 := Tryz.zeroValue4
  t9 := Tryz.underlying9
  a9 := Tryz.isAgg9
  z9 := Tryz.sizeOf9
  v9 := Tryz.zeroValue9
  t20 := Tryz.underlying20
  a20 := Tryz.isAgg20
  z20 := Tryz.sizeOf20
  v20 := Tryz.zeroValue20
  t31 := Tryz.underlying22
  a31 := Tryz.isAgg22
  z31 := Tryz.sizeOf22
  v31 := Tryz.zeroValue22
  t37 := Tryz.underlying23
  a37 := Tryz.isAgg23
  z37 := Tryz.sizeOf23
  v37 := Tryz.zeroValue23
  t70 := Tryz.underlying78
  a70 := Tryz.isAgg78
  z70 := Tryz.sizeOf78
  v70 := Tryz.zeroValue78
  t72 := Tryz.underlying80
  a72 := Tryz.isAgg80
  z72 := Tryz.sizeOf80
  v72 := Tryz.zeroValue80
  t75 := Tryz.underlying82
  a75 := Tryz.isAgg82
  z75 := Tryz.sizeOf82
  v75 := Tryz.zeroValue82
  t76 := Tryz.underlying83
  a76 := Tryz.isAgg83
  z76 := Tryz.sizeOf83
  v76 := Tryz.zeroValue83
  t127 := Tryz.underlying99
  a127 := Tryz.isAgg99
  z127 := Tryz.sizeOf99
  v127 := Tryz.zeroValue99
  t164 := Tryz.underlying123
  a164 := Tryz.isAgg123
  z164 := Tryz.sizeOf123
  v164 := Tryz.zeroValue123 }
theorem znu : Builder.Extra Tryz.prog ren := {
  sizeBuilder := by kernel_rfl
  liesBuilder := by kernel_rfl
  t5 := Tryz.underlying5
  a5 := Tryz.isAgg5
  z5 := Tryz.sizeOf5
  v5 := Tryz.zeroValue5
  infoByte := by kernel_rfl
  cellsByte := by kernel_rfl
  sizeByte := by kernel_rfl
  neB5 := by decide }
def hk : Hk := ⟨[(36, zkx)], [(23, wrS 80 5), (25, stS 80 5)]⟩
set_option maxRecDepth 100000
theorem zD3 : qR E.P 23 := ⟨_, Tryz.func23, rfl, by decide +kernel⟩
theorem zEi : qR E.P 25 := ⟨_, Tryz.func25, rfl, by decide +kernel⟩
theorem zEq : qR E.P 36 := ⟨_, Tryz.func36, rfl, by decide +kernel⟩
theorem h36 : ∀ az r, zkx az = some r -> Ret E 36 az r := fun _ _ h => zxr (E := E) (ρ := ren) zy0 znu zEq h
theorem h23 : zhq E 23 (wrS 80 5) := zAe (E := E) (ρ := ren) zy2 znu (by decide) zD3
theorem h25 : zhq E 25 (stS 80 5) := zA9 (E := E) (ρ := ren) zzl znu zEi
theorem hk_ok : HkOK E hk := ⟨zcr h36 zzb, zla h23 (zla h25 zzk)⟩
end Go.Sx.Tz
noncomputable section
namespace Go.Sx.Tz
open Go.Proofs
set_option maxRecDepth 100000
def zr9 (l : List (List SV × SV)) : List SV -> Rt := fun az => match az with
  | .iptr p :: r => uR l (p :: r)
  | _ => none
def zkr (E : Env) (g : Nat) : List (List SV × SV) -> Prop
  | [] => True
  | (a, v) :: l => (∀ p r, a = p :: r -> Ret E g (.iptr p :: r) v) /\ zkr E g l
theorem zgk {E : Env} {g : Nat} : ∀ {l : List (List SV × SV)}, zkr E g l -> ∀ p q r, uR l (p :: q) = some r -> Ret E g (.iptr p :: q) r
  | [], _, _, _, _, h => by cases h
  | (a, v) :: l, k, p, q, r, h => by
    unfold uR at h
    split at h
    . rename_i e
      cases h
      exact k.1 p q (zai e)
    . exact zgk k.2 p q r h
theorem zwu {E : Env} {g : Nat} {l : List (List SV × SV)} (k : zkr E g l) : ∀ az r, zr9 l az = some r -> Ret E g az r := by
  intro az r h
  unfold zr9 at h
  split at h
  . exact zgk k _ _ _ h
  . cases h
def yt : List SV := [.agg [.sl 1 [.str [108, 111, 119], .str [97, 110, 110], .str [98, 111, 98], .str [116, 111, 112]], .sl 1 [.int .u8 15, .int .u8 10, .int .u8 12, .int .u8 8]]]
def C_lattice_Check_1 : SV := .tup [.int .i64 0, .int .i64 0]
theorem zeu : Ret E F.lattice_Check yt C_lattice_Check_1 := jm ok za4 HkOK.no (show wQ E ft Hk.no 1000 60 (.ret F.lattice_Check yt) = some C_lattice_Check_1 by kernel_rfl)
def zEg : List (Nat × Func) := wG [F.lattice_Check] ft
def hkM1 : Hk := ⟨(F.lattice_Check, uR [(yt, C_lattice_Check_1)]) :: hk.x, hk.s⟩
theorem hkM1_ok : HkOK E hkM1 := ⟨zcr (fun az r h => zci (l := [(yt, C_lattice_Check_1)]) ⟨zeu, trivial⟩ az r h) hk_ok.x, hk_ok.s⟩
def yD : List SV := [.agg [.agg [.sl 1 [.str [108, 111, 119], .str [97, 110, 110], .str [98, 111, 98], .str [116, 111, 112]], .sl 1 [.int .u8 15, .int .u8 10, .int .u8 12, .int .u8 8]], .sl 2 [.agg [.str [98, 111, 97, 114, 100], .int .i64 0]], .sl 6 [.agg [.str [109, 97, 114, 107, 115], .agg [.int .i64 1, .int .i64 1, .arr 2 1 [.int .i64 0, .int .i64 0], .int .i64 3]], .agg [.str [110, 97, 109, 101, 115], .agg [.int .i64 2, .int .i64 1, .arr 2 1 [.int .i64 1, .int .i64 0], .int .i64 3]]], .sl 3 [.agg [.int .i64 3, .int .i64 1, .int .i64 5]]]]
def C_policy_Check_1 : SV := .tup [.int .i64 0, .int .i64 0, .int .i64 0]
theorem zfh : Ret E F.policy_Check yD C_policy_Check_1 := jm ok (yx za4) hkM1_ok (show wQ E zEg hkM1 1000 60 (.ret F.policy_Check yD) = some C_policy_Check_1 by kernel_rfl)
def ftB : List (Nat × Func) := wG [23, 25, 36, F.lattice_Check, F.policy_Check] ft
def hkM2 : Hk := ⟨(F.policy_Check, uR [(yD, C_policy_Check_1)]) :: hkM1.x, hk.s⟩
theorem hkM2_ok : HkOK E hkM2 := ⟨zcr (fun az r h => zci (l := [(yD, C_policy_Check_1)]) ⟨zfh, trivial⟩ az r h) hkM1_ok.x, hk_ok.s⟩
def exP : SV := .agg [.agg [.sl 1 [.str [108, 111, 119], .str [97, 110, 110], .str [98, 111, 98], .str [116, 111, 112]], .sl 1 [.int .u8 15, .int .u8 10, .int .u8 12, .int .u8 8]], .sl 2 [.agg [.str [98, 111, 97, 114, 100], .int .i64 0]], .sl 6 [.agg [.str [109, 97, 114, 107, 115], .agg [.int .i64 1, .int .i64 1, .arr 2 1 [.int .i64 0, .int .i64 0], .int .i64 3]], .agg [.str [110, 97, 109, 101, 115], .agg [.int .i64 2, .int .i64 1, .arr 2 1 [.int .i64 1, .int .i64 0], .int .i64 3]]], .sl 3 [.agg [.int .i64 3, .int .i64 1, .int .i64 5]]]
def A_line_1 : List SV := [.iptr exP, .agg [.int .i64 3, .int .i64 1, .int .i64 3, .int .i64 1, .int .i64 5, .arr 2 1 [.int .i64 1, .int .i64 10]]]
def A_line_2 : List SV := [.iptr exP, .agg [.int .i64 9, .int .i64 2, .int .i64 3, .int .i64 1, .int .i64 2, .arr 2 1 [.int .i64 0, .int .i64 0]]]
def C_line_1 : SV := .str [51, 32, 115, 117, 109, 32, 116, 111, 112, 32, 97, 110, 110, 32, 53, 32, 49, 32, 49, 48, 10]
def C_line_2 : SV := .str [57, 32, 99, 111, 117, 110, 116, 32, 116, 111, 112, 32, 97, 110, 110, 32, 50, 32, 48, 32, 48, 10]
theorem zve : Ret E F.audit_line A_line_1 C_line_1 := zbq ok (yx za4) hkM2_ok (fuel := 1000) (d := 60) (caps := [.ptr 6 [], .ptr 1 []]) (f := F.audit_line) (g := F.audit_line_1) Tryz.func24 Tryz.func35 (show zem E (wQ E ftB hkM2 1000 60) 1000 Tryz.f24 F.audit_line_1 Tryz.f35 [.ptr 6 [], .ptr 1 []] A_line_1 = some C_line_1 by kernel_rfl)
theorem zwx : Ret E F.audit_line A_line_2 C_line_2 := zbq ok (yx za4) hkM2_ok (fuel := 1000) (d := 60) (caps := [.ptr 6 [], .ptr 1 []]) (f := F.audit_line) (g := F.audit_line_1) Tryz.func24 Tryz.func35 (show zem E (wQ E ftB hkM2 1000 60) 1000 Tryz.f24 F.audit_line_1 Tryz.f35 [.ptr 6 [], .ptr 1 []] A_line_2 = some C_line_2 by kernel_rfl)
def zxk : List SV := exP :: A_line_1.tail
def zvg : List SV := exP :: A_line_2.tail
def lLine : List (List SV × SV) := [(zxk, C_line_1), (zvg, C_line_2)]
theorem zvq : zkr E F.audit_line lLine := ⟨fun p r e => (by cases e; exact zve), fun p r e => (by cases e; exact zwx), trivial⟩
def hkM3 : Hk := ⟨(F.audit_line, zr9 lLine) :: hkM2.x, hk.s⟩
theorem zzd : HkOK E hkM3 := ⟨zcr (fun az r h => zwu zvq az r h) hkM2_ok.x, hk_ok.s⟩
def ftC : List (Nat × Func) := wG [23, 25, 36, F.lattice_Check, F.policy_Check, F.audit_line] ft
def V_invigilatorlaw30_awake : SV := .bool true
theorem L_invigilatorlaw30_awake : Ret E F.invigilatorlaw30_awake [] V_invigilatorlaw30_awake := jm ok (yx za4) zzd (show wQ E ftC hkM3 1000 60 (.ret F.invigilatorlaw30_awake []) = some V_invigilatorlaw30_awake by kernel_rfl)
end Go.Sx.Tz
end
