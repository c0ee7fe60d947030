/-
  An own text of this claim.
-/
import Derived.Test.YteaennhfmipmgaaGreatDoorP2
import Derived.Test.YteaennhfmipmgaaGreatDoorProg
noncomputable section
namespace Go.Sx.Tz
open Go.Proofs
def tt : List (Nat × TI) := [(1, ⟨.fn, 1, 8, .nilf, false⟩),
  (2, ⟨.int .i64, 1, 8, .int .i64 0, false⟩),
  (3, ⟨.int .i64, 1, 8, .int .i64 0, false⟩),
  (4, ⟨.bool, 1, 1, .fls, false⟩),
  (5, ⟨.int .u8, 1, 1, .int .u8 0, false⟩),
  (6, ⟨.int .u8, 1, 1, .int .u8 0, false⟩),
  (7, ⟨.strct [(2, 0), (3, 1), (4, 2), (6, 3)], 4, 24, .agg [.int .i64 0, .int .i64 0, .fls, .int .u8 0], true⟩),
  (8, ⟨.strct [(2, 0), (3, 1), (4, 2), (6, 3)], 4, 24, .agg [.int .i64 0, .int .i64 0, .fls, .int .u8 0], true⟩),
  (9, ⟨.str, 1, 16, .str [], false⟩),
  (10, ⟨.str, 1, 16, .str [], false⟩),
  (11, ⟨.str, 1, 16, .str [], false⟩),
  (12, ⟨.int .u64, 1, 8, .int .u64 0, false⟩),
  (13, ⟨.strct [(9, 0), (12, 1)], 2, 24, .agg [.str [], .int .u64 0], false⟩),
  (14, ⟨.strct [(9, 0), (12, 1)], 2, 24, .agg [.str [], .int .u64 0], false⟩),
  (15, ⟨.ptr 298, 1, 8, .nilp, false⟩),
  (16, ⟨.ptr 301, 1, 8, .nilp, false⟩),
  (17, ⟨.ptr 310, 1, 8, .nilp, false⟩),
  (18, ⟨.strct [(17, 0)], 1, 8, .agg [.nilp], false⟩),
  (19, ⟨.strct [(17, 0)], 1, 8, .agg [.nilp], false⟩),
  (20, ⟨.ifc, 1, 16, .nili, false⟩),
  (21, ⟨.int .i32, 1, 4, .int .i32 0, false⟩),
  (22, ⟨.sl 9, 1, 24, .nils, false⟩),
  (23, ⟨.sl 5, 1, 24, .nils, false⟩),
  (24, ⟨.strct [(22, 0), (23, 1)], 2, 48, .agg [.nils, .nils], true⟩),
  (25, ⟨.strct [(22, 0), (23, 1)], 2, 48, .agg [.nils, .nils], true⟩),
  (26, ⟨.sl 77, 1, 24, .nils, false⟩),
  (27, ⟨.sl 70, 1, 24, .nils, false⟩),
  (28, ⟨.sl 81, 1, 24, .nils, false⟩),
  (29, ⟨.strct [(25, 0), (26, 2), (27, 3), (28, 4)], 5, 120, .agg [.agg [.nils, .nils], .nils, .nils, .nils], true⟩),
  (30, ⟨.strct [(25, 0), (26, 2), (27, 3), (28, 4)], 5, 120, .agg [.agg [.nils, .nils], .nils, .nils, .nils], true⟩),
  (31, ⟨.sl 52, 1, 24, .nils, false⟩),
  (32, ⟨.arr 3 31, 3, 72, .arr 3 1 [.nils, .nils, .nils], true⟩),
  (33, ⟨.fn, 1, 8, .nilf, false⟩),
  (34, ⟨.fn, 1, 8, .nilf, false⟩),
  (35, ⟨.fn, 1, 8, .nilf, false⟩),
  (36, ⟨.int .i64, 1, 8, .int .i64 0, false⟩),
  (38, ⟨.fn, 1, 8, .nilf, false⟩),
  (39, ⟨.arr 8 4, 8, 8, .arr 8 1 [.fls, .fls, .fls, .fls, .fls, .fls, .fls, .fls], true⟩),
  (41, ⟨.fn, 1, 8, .nilf, false⟩),
  (42, ⟨.fn, 1, 8, .nilf, false⟩),
  (43, ⟨.fn, 1, 8, .nilf, false⟩),
  (44, ⟨.fn, 1, 8, .nilf, false⟩),
  (45, ⟨.fn, 1, 8, .nilf, false⟩),
  (46, ⟨.fn, 1, 8, .nilf, false⟩),
  (47, ⟨.arr 2 3, 2, 16, .arr 2 1 [.int .i64 0, .int .i64 0], true⟩),
  (48, ⟨.sl 2, 1, 24, .nils, false⟩),
  (49, ⟨.strct [(3, 0), (3, 1), (47, 2), (48, 4)], 5, 56, .agg [.int .i64 0, .int .i64 0, .arr 2 1 [.int .i64 0, .int .i64 0], .nils], true⟩),
  (50, ⟨.strct [(3, 0), (3, 1), (47, 2), (48, 4)], 5, 56, .agg [.int .i64 0, .int .i64 0, .arr 2 1 [.int .i64 0, .int .i64 0], .nils], true⟩),
  (51, ⟨.strct [(9, 0), (50, 1)], 6, 72, .agg [.str [], .agg [.int .i64 0, .int .i64 0, .arr 2 1 [.int .i64 0, .int .i64 0], .nils]], true⟩),
  (52, ⟨.strct [(9, 0), (50, 1)], 6, 72, .agg [.str [], .agg [.int .i64 0, .int .i64 0, .arr 2 1 [.int .i64 0, .int .i64 0], .nils]], true⟩),
  (53, ⟨.fn, 1, 8, .nilf, false⟩),
  (55, ⟨.fn, 1, 8, .nilf, false⟩),
  (56, ⟨.sl 3, 1, 24, .nils, false⟩),
  (58, ⟨.fn, 1, 8, .nilf, false⟩),
  (59, ⟨.fn, 1, 8, .nilf, false⟩),
  (61, ⟨.fn, 1, 8, .nilf, false⟩),
  (62, ⟨.fn, 1, 8, .nilf, false⟩),
  (63, ⟨.fn, 1, 8, .nilf, false⟩),
  (64, ⟨.fn, 1, 8, .nilf, false⟩),
  (66, ⟨.fn, 1, 8, .nilf, false⟩),
  (67, ⟨.strct [(3, 0), (3, 1), (47, 2), (3, 4)], 5, 40, .agg [.int .i64 0, .int .i64 0, .arr 2 1 [.int .i64 0, .int .i64 0], .int .i64 0], true⟩),
  (68, ⟨.strct [(3, 0), (3, 1), (47, 2), (3, 4)], 5, 40, .agg [.int .i64 0, .int .i64 0, .arr 2 1 [.int .i64 0, .int .i64 0], .int .i64 0], true⟩),
  (69, ⟨.strct [(9, 0), (68, 1)], 6, 56, .agg [.str [], .agg [.int .i64 0, .int .i64 0, .arr 2 1 [.int .i64 0, .int .i64 0], .int .i64 0]], true⟩),
  (70, ⟨.strct [(9, 0), (68, 1)], 6, 56, .agg [.str [], .agg [.int .i64 0, .int .i64 0, .arr 2 1 [.int .i64 0, .int .i64 0], .int .i64 0]], true⟩),
  (71, ⟨.fn, 1, 8, .nilf, false⟩),
  (72, ⟨.fn, 1, 8, .nilf, false⟩),
  (73, ⟨.fn, 1, 8, .nilf, false⟩),
  (74, ⟨.fn, 1, 8, .nilf, false⟩),
  (75, ⟨.fn, 1, 8, .nilf, false⟩),
  (76, ⟨.strct [(9, 0), (3, 1)], 2, 24, .agg [.str [], .int .i64 0], true⟩),
  (77, ⟨.strct [(9, 0), (3, 1)], 2, 24, .agg [.str [], .int .i64 0], true⟩),
  (78, ⟨.fn, 1, 8, .nilf, false⟩),
  (79, ⟨.fn, 1, 8, .nilf, false⟩),
  (80, ⟨.strct [(3, 0), (3, 1), (3, 2)], 3, 24, .agg [.int .i64 0, .int .i64 0, .int .i64 0], true⟩),
  (81, ⟨.strct [(3, 0), (3, 1), (3, 2)], 3, 24, .agg [.int .i64 0, .int .i64 0, .int .i64 0], true⟩),
  (82, ⟨.fn, 1, 8, .nilf, false⟩),
  (83, ⟨.ptr 30, 1, 8, .nilp, false⟩),
  (84, ⟨.fn, 1, 8, .nilf, false⟩),
  (85, ⟨.arr 2 4, 2, 2, .arr 2 1 [.fls, .fls], true⟩),
  (86, ⟨.strct [(85, 0), (4, 2)], 3, 3, .agg [.arr 2 1 [.fls, .fls], .fls], true⟩),
  (87, ⟨.strct [(85, 0), (4, 2)], 3, 3, .agg [.arr 2 1 [.fls, .fls], .fls], true⟩),
  (88, ⟨.fn, 1, 8, .nilf, false⟩),
  (89, ⟨.fn, 1, 8, .nilf, false⟩),
  (90, ⟨.fn, 1, 8, .nilf, false⟩),
  (91, ⟨.fn, 1, 8, .nilf, false⟩),
  (92, ⟨.fn, 1, 8, .nilf, false⟩),
  (93, ⟨.fn, 1, 8, .nilf, false⟩),
  (95, ⟨.fn, 1, 8, .nilf, false⟩),
  (97, ⟨.fn, 1, 8, .nilf, false⟩),
  (98, ⟨.fn, 1, 8, .nilf, false⟩),
  (99, ⟨.fn, 1, 8, .nilf, false⟩),
  (100, ⟨.fn, 1, 8, .nilf, false⟩),
  (101, ⟨.fn, 1, 8, .nilf, false⟩),
  (102, ⟨.fn, 1, 8, .nilf, false⟩),
  (103, ⟨.fn, 1, 8, .nilf, false⟩),
  (104, ⟨.fn, 1, 8, .nilf, false⟩),
  (105, ⟨.fn, 1, 8, .nilf, false⟩),
  (106, ⟨.sl 31, 1, 24, .nils, false⟩),
  (108, ⟨.fn, 1, 8, .nilf, false⟩),
  (109, ⟨.fn, 1, 8, .nilf, false⟩),
  (110, ⟨.fn, 1, 8, .nilf, false⟩),
  (111, ⟨.strct [(22, 0), (23, 1)], 2, 48, .agg [.nils, .nils], true⟩),
  (112, ⟨.fn, 1, 8, .nilf, false⟩),
  (113, ⟨.ptr 111, 1, 8, .nilp, false⟩),
  (115, ⟨.fn, 1, 8, .nilf, false⟩),
  (116, ⟨.fn, 1, 8, .nilf, false⟩),
  (117, ⟨.ptr 50, 1, 8, .nilp, false⟩),
  (118, ⟨.fn, 1, 8, .nilf, false⟩),
  (119, ⟨.fn, 1, 8, .nilf, false⟩),
  (120, ⟨.fn, 1, 8, .nilf, false⟩),
  (121, ⟨.fn, 1, 8, .nilf, false⟩),
  (122, ⟨.fn, 1, 8, .nilf, false⟩),
  (123, ⟨.fn, 1, 8, .nilf, false⟩),
  (124, ⟨.fn, 1, 8, .nilf, false⟩),
  (125, ⟨.sl 129, 1, 24, .nils, false⟩),
  (126, ⟨.fn, 1, 8, .nilf, false⟩),
  (127, ⟨.fn, 1, 8, .nilf, false⟩),
  (128, ⟨.strct [(127, 0)], 1, 8, .agg [.nilf], true⟩),
  (129, ⟨.strct [(127, 0)], 1, 8, .agg [.nilf], true⟩),
  (130, ⟨.strct [(25, 0), (3, 2)], 3, 56, .agg [.agg [.nils, .nils], .int .i64 0], true⟩),
  (131, ⟨.strct [(25, 0), (3, 2)], 3, 56, .agg [.agg [.nils, .nils], .int .i64 0], true⟩),
  (133, ⟨.fn, 1, 8, .nilf, false⟩),
  (134, ⟨.fn, 1, 8, .nilf, false⟩),
  (135, ⟨.fn, 1, 8, .nilf, false⟩),
  (136, ⟨.sl 3, 1, 24, .nils, false⟩),
  (137, ⟨.fn, 1, 8, .nilf, false⟩),
  (138, ⟨.fn, 1, 8, .nilf, false⟩),
  (139, ⟨.fn, 1, 8, .nilf, false⟩),
  (140, ⟨.fn, 1, 8, .nilf, false⟩),
  (141, ⟨.fn, 1, 8, .nilf, false⟩),
  (142, ⟨.fn, 1, 8, .nilf, false⟩),
  (143, ⟨.fn, 1, 8, .nilf, false⟩),
  (144, ⟨.fn, 1, 8, .nilf, false⟩),
  (145, ⟨.fn, 1, 8, .nilf, false⟩),
  (146, ⟨.fn, 1, 8, .nilf, false⟩),
  (147, ⟨.arr 8 5, 8, 8, .arr 8 1 [.int .u8 0, .int .u8 0, .int .u8 0, .int .u8 0, .int .u8 0, .int .u8 0, .int .u8 0, .int .u8 0], true⟩),
  (148, ⟨.arr 8 5, 8, 8, .arr 8 1 [.int .u8 0, .int .u8 0, .int .u8 0, .int .u8 0, .int .u8 0, .int .u8 0, .int .u8 0, .int .u8 0], true⟩),
  (149, ⟨.arr 8 5, 8, 8, .arr 8 1 [.int .u8 0, .int .u8 0, .int .u8 0, .int .u8 0, .int .u8 0, .int .u8 0, .int .u8 0, .int .u8 0], true⟩),
  (150, ⟨.strct [(3, 0), (148, 1), (149, 9)], 17, 24, .agg [.int .i64 0, .arr 8 1 [.int .u8 0, .int .u8 0, .int .u8 0, .int .u8 0, .int .u8 0, .int .u8 0, .int .u8 0, .int .u8 0], .arr 8 1 [.int .u8 0, .int .u8 0, .int .u8 0, .int .u8 0, .int .u8 0, .int .u8 0, .int .u8 0, .int .u8 0]], true⟩),
  (151, ⟨.strct [(3, 0), (148, 1), (149, 9)], 17, 24, .agg [.int .i64 0, .arr 8 1 [.int .u8 0, .int .u8 0, .int .u8 0, .int .u8 0, .int .u8 0, .int .u8 0, .int .u8 0, .int .u8 0], .arr 8 1 [.int .u8 0, .int .u8 0, .int .u8 0, .int .u8 0, .int .u8 0, .int .u8 0, .int .u8 0, .int .u8 0]], true⟩),
  (152, ⟨.fn, 1, 8, .nilf, false⟩),
  (153, ⟨.ptr 25, 1, 8, .nilp, false⟩),
  (154, ⟨.fn, 1, 8, .nilf, false⟩),
  (155, ⟨.fn, 1, 8, .nilf, false⟩),
  (156, ⟨.fn, 1, 8, .nilf, false⟩),
  (157, ⟨.fn, 1, 8, .nilf, false⟩),
  (158, ⟨.int .u64, 1, 8, .int .u64 0, false⟩),
  (159, ⟨.ifc, 1, 16, .nili, false⟩),
  (160, ⟨.ifc, 1, 16, .nili, false⟩),
  (161, ⟨.fn, 1, 8, .nilf, false⟩),
  (162, ⟨.fn, 1, 8, .nilf, false⟩),
  (163, ⟨.fn, 1, 8, .nilf, false⟩),
  (164, ⟨.strct [(3, 0), (3, 1), (3, 2), (2, 3), (9, 4)], 5, 48, .agg [.int .i64 0, .int .i64 0, .int .i64 0, .int .i64 0, .str []], true⟩),
  (165, ⟨.strct [(3, 0), (3, 1), (3, 2), (2, 3), (9, 4)], 5, 48, .agg [.int .i64 0, .int .i64 0, .int .i64 0, .int .i64 0, .str []], true⟩),
  (166, ⟨.mp 9 4, 1, 8, .any, false⟩),
  (167, ⟨.mp 9 4, 1, 8, .any, false⟩),
  (168, ⟨.fn, 1, 8, .nilf, false⟩),
  (169, ⟨.fn, 1, 8, .nilf, false⟩),
  (170, ⟨.mp 47 4, 1, 8, .any, false⟩),
  (171, ⟨.fn, 1, 8, .nilf, false⟩),
  (172, ⟨.fn, 1, 8, .nilf, false⟩),
  (173, ⟨.fn, 1, 8, .nilf, false⟩),
  (174, ⟨.fn, 1, 8, .nilf, false⟩),
  (175, ⟨.fn, 1, 8, .nilf, false⟩),
  (176, ⟨.fn, 1, 8, .nilf, false⟩),
  (177, ⟨.int .i64, 1, 8, .int .i64 0, false⟩),
  (179, ⟨.fn, 1, 8, .nilf, false⟩),
  (180, ⟨.fn, 1, 8, .nilf, false⟩),
  (181, ⟨.fn, 1, 8, .nilf, false⟩),
  (183, ⟨.fn, 1, 8, .nilf, false⟩),
  (184, ⟨.fn, 1, 8, .nilf, false⟩),
  (185, ⟨.int .u32, 1, 4, .int .u32 0, false⟩),
  (186, ⟨.fn, 1, 8, .nilf, false⟩),
  (187, ⟨.int .u64, 1, 8, .int .u64 0, false⟩),
  (188, ⟨.fn, 1, 8, .nilf, false⟩),
  (190, ⟨.fn, 1, 8, .nilf, false⟩),
  (191, ⟨.fn, 1, 8, .nilf, false⟩),
  (192, ⟨.fn, 1, 8, .nilf, false⟩),
  (193, ⟨.fn, 1, 8, .nilf, false⟩),
  (194, ⟨.int .u64, 1, 8, .int .u64 0, false⟩),
  (195, ⟨.fn, 1, 8, .nilf, false⟩),
  (196, ⟨.fn, 1, 8, .nilf, false⟩),
  (197, ⟨.fn, 1, 8, .nilf, false⟩),
  (198, ⟨.ptr 3, 1, 8, .nilp, false⟩),
  (199, ⟨.fn, 1, 8, .nilf, false⟩),
  (201, ⟨.fn, 1, 8, .nilf, false⟩),
  (202, ⟨.fn, 1, 8, .nilf, false⟩),
  (203, ⟨.arr 256 4, 256, 256, .arr 256 1 [.fls, .fls, .fls, .fls, .fls, .fls, .fls, .fls, .fls, .fls, .fls, .fls, .fls, .fls, .fls, .fls, .fls, .fls, .fls, .fls, .fls, .fls, .fls, .fls, .fls, .fls, .fls, .fls, .fls, .fls, .fls, .fls, .fls, .fls, .fls, .fls, .fls, .fls, .fls, .fls, .fls, .fls, .fls, .fls, .fls, .fls, .fls, .fls, .fls, .fls, .fls, .fls, .fls, .fls, .fls, .fls, .fls, .fls, .fls, .fls, .fls, .fls, .fls, .fls, .fls, .fls, .fls, .fls, .fls, .fls, .fls, .fls, .fls, .fls, .fls, .fls, .fls, .fls, .fls, .fls, .fls, .fls, .fls, .fls, .fls, .fls, .fls, .fls, .fls, .fls, .fls, .fls, .fls, .fls, .fls, .fls, .fls, .fls, .fls, .fls, .fls, .fls, .fls, .fls, .fls, .fls, .fls, .fls, .fls, .fls, .fls, .fls, .fls, .fls, .fls, .fls, .fls, .fls, .fls, .fls, .fls, .fls, .fls, .fls, .fls, .fls, .fls, .fls, .fls, .fls, .fls, .fls, .fls, .fls, .fls, .fls, .fls, .fls, .fls, .fls, .fls, .fls, .fls, .fls, .fls, .fls, .fls, .fls, .fls, .fls, .fls, .fls, .fls, .fls, .fls, .fls, .fls, .fls, .fls, .fls, .fls, .fls, .fls, .fls, .fls, .fls, .fls, .fls, .fls, .fls, .fls, .fls, .fls, .fls, .fls, .fls, .fls, .fls, .fls, .fls, .fls, .fls, .fls, .fls, .fls, .fls, .fls, .fls, .fls, .fls, .fls, .fls, .fls, .fls, .fls, .fls, .fls, .fls, .fls, .fls, .fls, .fls, .fls, .fls, .fls, .fls, .fls, .fls, .fls, .fls, .fls, .fls, .fls, .fls, .fls, .fls, .fls, .fls, .fls, .fls, .fls, .fls, .fls, .fls, .fls, .fls, .fls, .fls, .fls, .fls, .fls, .fls, .fls, .fls, .fls, .fls, .fls, .fls, .fls, .fls, .fls, .fls, .fls, .fls, .fls, .fls, .fls, .fls, .fls, .fls, .fls, .fls, .fls, .fls, .fls, .fls], true⟩),
  (204, ⟨.arr 256 4, 256, 256, .arr 256 1 [.fls, .fls, .fls, .fls, .fls, .fls, .fls, .fls, .fls, .fls, .fls, .fls, .fls, .fls, .fls, .fls, .fls, .fls, .fls, .fls, .fls, .fls, .fls, .fls, .fls, .fls, .fls, .fls, .fls, .fls, .fls, .fls, .fls, .fls, .fls, .fls, .fls, .fls, .fls, .fls, .fls, .fls, .fls, .fls, .fls, .fls, .fls, .fls, .fls, .fls, .fls, .fls, .fls, .fls, .fls, .fls, .fls, .fls, .fls, .fls, .fls, .fls, .fls, .fls, .fls, .fls, .fls, .fls, .fls, .fls, .fls, .fls, .fls, .fls, .fls, .fls, .fls, .fls, .fls, .fls, .fls, .fls, .fls, .fls, .fls, .fls, .fls, .fls, .fls, .fls, .fls, .fls, .fls, .fls, .fls, .fls, .fls, .fls, .fls, .fls, .fls, .fls, .fls, .fls, .fls, .fls, .fls, .fls, .fls, .fls, .fls, .fls, .fls, .fls, .fls, .fls, .fls, .fls, .fls, .fls, .fls, .fls, .fls, .fls, .fls, .fls, .fls, .fls, .fls, .fls, .fls, .fls, .fls, .fls, .fls, .fls, .fls, .fls, .fls, .fls, .fls, .fls, .fls, .fls, .fls, .fls, .fls, .fls, .fls, .fls, .fls, .fls, .fls, .fls, .fls, .fls, .fls, .fls, .fls, .fls, .fls, .fls, .fls, .fls, .fls, .fls, .fls, .fls, .fls, .fls, .fls, .fls, .fls, .fls, .fls, .fls, .fls, .fls, .fls, .fls, .fls, .fls, .fls, .fls, .fls, .fls, .fls, .fls, .fls, .fls, .fls, .fls, .fls, .fls, .fls, .fls, .fls, .fls, .fls, .fls, .fls, .fls, .fls, .fls, .fls, .fls, .fls, .fls, .fls, .fls, .fls, .fls, .fls, .fls, .fls, .fls, .fls, .fls, .fls, .fls, .fls, .fls, .fls, .fls, .fls, .fls, .fls, .fls, .fls, .fls, .fls, .fls, .fls, .fls, .fls, .fls, .fls, .fls, .fls, .fls, .fls, .fls, .fls, .fls, .fls, .fls, .fls, .fls, .fls, .fls, .fls, .fls, .fls, .fls, .fls, .fls], true⟩),
  (206, ⟨.fn, 1, 8, .nilf, false⟩),
  (207, ⟨.fn, 1, 8, .nilf, false⟩),
  (208, ⟨.ptr 204, 1, 8, .nilp, false⟩),
  (209, ⟨.ptr 194, 1, 8, .nilp, false⟩),
  (211, ⟨.fn, 1, 8, .nilf, false⟩),
  (213, ⟨.fn, 1, 8, .nilf, false⟩),
  (214, ⟨.fn, 1, 8, .nilf, false⟩),
  (215, ⟨.sl 221, 1, 24, .nils, false⟩),
  (216, ⟨.fn, 1, 8, .nilf, false⟩),
  (217, ⟨.sl 36, 1, 24, .nils, false⟩),
  (218, ⟨.fn, 1, 8, .nilf, false⟩),
  (219, ⟨.fn, 1, 8, .nilf, false⟩),
  (220, ⟨.strct [(9, 0), (22, 1), (217, 2), (218, 3), (219, 4)], 5, 80, .agg [.str [], .nils, .nils, .nilf, .nilf], true⟩),
  (221, ⟨.strct [(9, 0), (22, 1), (217, 2), (218, 3), (219, 4)], 5, 80, .agg [.str [], .nils, .nils, .nilf, .nilf], true⟩),
  (222, ⟨.ptr 224, 1, 8, .nilp, false⟩),
  (223, ⟨.strct [(9, 0), (3, 1)], 2, 24, .agg [.str [], .int .i64 0], true⟩),
  (224, ⟨.strct [(9, 0), (3, 1)], 2, 24, .agg [.str [], .int .i64 0], true⟩),
  (225, ⟨.fn, 1, 8, .nilf, false⟩),
  (226, ⟨.fn, 1, 8, .nilf, false⟩),
  (228, ⟨.fn, 1, 8, .nilf, false⟩),
  (229, ⟨.fn, 1, 8, .nilf, false⟩),
  (230, ⟨.fn, 1, 8, .nilf, false⟩),
  (232, ⟨.fn, 1, 8, .nilf, false⟩),
  (233, ⟨.fn, 1, 8, .nilf, false⟩),
  (234, ⟨.fn, 1, 8, .nilf, false⟩),
  (235, ⟨.fn, 1, 8, .nilf, false⟩),
  (236, ⟨.fn, 1, 8, .nilf, false⟩),
  (237, ⟨.arr 256 5, 256, 256, .arr 256 1 [.int .u8 0, .int .u8 0, .int .u8 0, .int .u8 0, .int .u8 0, .int .u8 0, .int .u8 0, .int .u8 0, .int .u8 0, .int .u8 0, .int .u8 0, .int .u8 0, .int .u8 0, .int .u8 0, .int .u8 0, .int .u8 0, .int .u8 0, .int .u8 0, .int .u8 0, .int .u8 0, .int .u8 0, .int .u8 0, .int .u8 0, .int .u8 0, .int .u8 0, .int .u8 0, .int .u8 0, .int .u8 0, .int .u8 0, .int .u8 0, .int .u8 0, .int .u8 0, .int .u8 0, .int .u8 0, .int .u8 0, .int .u8 0, .int .u8 0, .int .u8 0, .int .u8 0, .int .u8 0, .int .u8 0, .int .u8 0, .int .u8 0, .int .u8 0, .int .u8 0, .int .u8 0, .int .u8 0, .int .u8 0, .int .u8 0, .int .u8 0, .int .u8 0, .int .u8 0, .int .u8 0, .int .u8 0, .int .u8 0, .int .u8 0, .int .u8 0, .int .u8 0, .int .u8 0, .int .u8 0, .int .u8 0, .int .u8 0, .int .u8 0, .int .u8 0, .int .u8 0, .int .u8 0, .int .u8 0, .int .u8 0, .int .u8 0, .int .u8 0, .int .u8 0, .int .u8 0, .int .u8 0, .int .u8 0, .int .u8 0, .int .u8 0, .int .u8 0, .int .u8 0, .int .u8 0, .int .u8 0, .int .u8 0, .int .u8 0, .int .u8 0, .int .u8 0, .int .u8 0, .int .u8 0, .int .u8 0, .int .u8 0, .int .u8 0, .int .u8 0, .int .u8 0, .int .u8 0, .int .u8 0, .int .u8 0, .int .u8 0, .int .u8 0, .int .u8 0, .int .u8 0, .int .u8 0, .int .u8 0, .int .u8 0, .int .u8 0, .int .u8 0, .int .u8 0, .int .u8 0, .int .u8 0, .int .u8 0, .int .u8 0, .int .u8 0, .int .u8 0, .int .u8 0, .int .u8 0, .int .u8 0, .int .u8 0, .int .u8 0, .int .u8 0, .int .u8 0, .int .u8 0, .int .u8 0, .int .u8 0, .int .u8 0, .int .u8 0, .int .u8 0, .int .u8 0, .int .u8 0, .int .u8 0, .int .u8 0, .int .u8 0, .int .u8 0, .int .u8 0, .int .u8 0, .int .u8 0, .int .u8 0, .int .u8 0, .int .u8 0, .int .u8 0, .int .u8 0, .int .u8 0, .int .u8 0, .int .u8 0, .int .u8 0, .int .u8 0, .int .u8 0, .int .u8 0, .int .u8 0, .int .u8 0, .int .u8 0, .int .u8 0, .int .u8 0, .int .u8 0, .int .u8 0, .int .u8 0, .int .u8 0, .int .u8 0, .int .u8 0, .int .u8 0, .int .u8 0, .int .u8 0, .int .u8 0, .int .u8 0, .int .u8 0, .int .u8 0, .int .u8 0, .int .u8 0, .int .u8 0, .int .u8 0, .int .u8 0, .int .u8 0, .int .u8 0, .int .u8 0, .int .u8 0, .int .u8 0, .int .u8 0, .int .u8 0, .int .u8 0, .int .u8 0, .int .u8 0, .int .u8 0, .int .u8 0, .int .u8 0, .int .u8 0, .int .u8 0, .int .u8 0, .int .u8 0, .int .u8 0, .int .u8 0, .int .u8 0, .int .u8 0, .int .u8 0, .int .u8 0, .int .u8 0, .int .u8 0, .int .u8 0, .int .u8 0, .int .u8 0, .int .u8 0, .int .u8 0, .int .u8 0, .int .u8 0, .int .u8 0, .int .u8 0, .int .u8 0, .int .u8 0, .int .u8 0, .int .u8 0, .int .u8 0, .int .u8 0, .int .u8 0, .int .u8 0, .int .u8 0, .int .u8 0, .int .u8 0, .int .u8 0, .int .u8 0, .int .u8 0, .int .u8 0, .int .u8 0, .int .u8 0, .int .u8 0, .int .u8 0, .int .u8 0, .int .u8 0, .int .u8 0, .int .u8 0, .int .u8 0, .int .u8 0, .int .u8 0, .int .u8 0, .int .u8 0, .int .u8 0, .int .u8 0, .int .u8 0, .int .u8 0, .int .u8 0, .int .u8 0, .int .u8 0, .int .u8 0, .int .u8 0, .int .u8 0, .int .u8 0, .int .u8 0, .int .u8 0, .int .u8 0, .int .u8 0, .int .u8 0, .int .u8 0, .int .u8 0, .int .u8 0, .int .u8 0, .int .u8 0, .int .u8 0, .int .u8 0, .int .u8 0, .int .u8 0, .int .u8 0, .int .u8 0], true⟩),
  (238, ⟨.strct [(5, 0), (5, 1)], 2, 2, .agg [.int .u8 0, .int .u8 0], true⟩),
  (239, ⟨.strct [(5, 0), (5, 1)], 2, 2, .agg [.int .u8 0, .int .u8 0], true⟩),
  (240, ⟨.arr 16 239, 32, 32, .arr 16 2 [.agg [.int .u8 0, .int .u8 0], .agg [.int .u8 0, .int .u8 0], .agg [.int .u8 0, .int .u8 0], .agg [.int .u8 0, .int .u8 0], .agg [.int .u8 0, .int .u8 0], .agg [.int .u8 0, .int .u8 0], .agg [.int .u8 0, .int .u8 0], .agg [.int .u8 0, .int .u8 0], .agg [.int .u8 0, .int .u8 0], .agg [.int .u8 0, .int .u8 0], .agg [.int .u8 0, .int .u8 0], .agg [.int .u8 0, .int .u8 0], .agg [.int .u8 0, .int .u8 0], .agg [.int .u8 0, .int .u8 0], .agg [.int .u8 0, .int .u8 0], .agg [.int .u8 0, .int .u8 0]], true⟩),
  (241, ⟨.fn, 1, 8, .nilf, false⟩),
  (242, ⟨.arr 5 2, 5, 40, .arr 5 1 [.int .i64 0, .int .i64 0, .int .i64 0, .int .i64 0, .int .i64 0], true⟩),
  (243, ⟨.fn, 1, 8, .nilf, false⟩),
  (244, ⟨.fn, 1, 8, .nilf, false⟩),
  (245, ⟨.fn, 1, 8, .nilf, false⟩),
  (246, ⟨.fn, 1, 8, .nilf, false⟩),
  (247, ⟨.fn, 1, 8, .nilf, false⟩),
  (248, ⟨.fn, 1, 8, .nilf, false⟩),
  (249, ⟨.fn, 1, 8, .nilf, false⟩),
  (250, ⟨.fn, 1, 8, .nilf, false⟩),
  (251, ⟨.fn, 1, 8, .nilf, false⟩),
  (253, ⟨.fn, 1, 8, .nilf, false⟩),
  (255, ⟨.fn, 1, 8, .nilf, false⟩),
  (256, ⟨.fn, 1, 8, .nilf, false⟩),
  (257, ⟨.fn, 1, 8, .nilf, false⟩),
  (258, ⟨.fn, 1, 8, .nilf, false⟩),
  (259, ⟨.fn, 1, 8, .nilf, false⟩),
  (260, ⟨.sl 48, 1, 24, .nils, false⟩),
  (262, ⟨.fn, 1, 8, .nilf, false⟩),
  (263, ⟨.fn, 1, 8, .nilf, false⟩),
  (264, ⟨.fn, 1, 8, .nilf, false⟩),
  (265, ⟨.fn, 1, 8, .nilf, false⟩),
  (267, ⟨.fn, 1, 8, .nilf, false⟩),
  (268, ⟨.fn, 1, 8, .nilf, false⟩),
  (269, ⟨.fn, 1, 8, .nilf, false⟩),
  (270, ⟨.fn, 1, 8, .nilf, false⟩),
  (271, ⟨.mp 2 2, 1, 8, .any, false⟩),
  (272, ⟨.arr 10 9, 10, 160, .arr 10 1 [.str [], .str [], .str [], .str [], .str [], .str [], .str [], .str [], .str [], .str []], true⟩),
  (273, ⟨.fn, 1, 8, .nilf, false⟩),
  (274, ⟨.fn, 1, 8, .nilf, false⟩),
  (275, ⟨.fn, 1, 8, .nilf, false⟩),
  (276, ⟨.sl 50, 1, 24, .nils, false⟩),
  (277, ⟨.fn, 1, 8, .nilf, false⟩),
  (278, ⟨.fn, 1, 8, .nilf, false⟩),
  (279, ⟨.fn, 1, 8, .nilf, false⟩),
  (280, ⟨.fn, 1, 8, .nilf, false⟩),
  (281, ⟨.fn, 1, 8, .nilf, false⟩),
  (282, ⟨.fn, 1, 8, .nilf, false⟩),
  (283, ⟨.fn, 1, 8, .nilf, false⟩),
  (284, ⟨.fn, 1, 8, .nilf, false⟩),
  (285, ⟨.int .i64, 1, 8, .int .i64 0, false⟩),
  (287, ⟨.fn, 1, 8, .nilf, false⟩),
  (288, ⟨.fn, 1, 8, .nilf, false⟩),
  (289, ⟨.fn, 1, 8, .nilf, false⟩),
  (290, ⟨.arr 33 283, 33, 264, .arr 33 1 [.nilf, .nilf, .nilf, .nilf, .nilf, .nilf, .nilf, .nilf, .nilf, .nilf, .nilf, .nilf, .nilf, .nilf, .nilf, .nilf, .nilf, .nilf, .nilf, .nilf, .nilf, .nilf, .nilf, .nilf, .nilf, .nilf, .nilf, .nilf, .nilf, .nilf, .nilf, .nilf, .nilf], true⟩),
  (292, ⟨.fn, 1, 8, .nilf, false⟩),
  (293, ⟨.fn, 1, 8, .nilf, false⟩),
  (294, ⟨.fn, 1, 8, .nilf, false⟩),
  (295, ⟨.fn, 1, 8, .nilf, false⟩),
  (296, ⟨.fn, 1, 8, .nilf, false⟩),
  (297, ⟨.strct [(17, 0), (17, 1), (17, 2), (9, 3)], 4, 40, .agg [.nilp, .nilp, .nilp, .str []], false⟩),
  (298, ⟨.strct [(17, 0), (17, 1), (17, 2), (9, 3)], 4, 40, .agg [.nilp, .nilp, .nilp, .str []], false⟩),
  (299, ⟨.arr 0 16, 0, 0, .arr 0 1 [], true⟩),
  (300, ⟨.strct [(299, 0)], 0, 0, .agg [.arr 0 1 []], false⟩),
  (301, ⟨.strct [(299, 0)], 0, 0, .agg [.arr 0 1 []], false⟩),
  (302, ⟨.fn, 1, 8, .nilf, false⟩),
  (303, ⟨.int .u8, 1, 1, .int .u8 0, false⟩),
  (304, ⟨.int .u8, 1, 1, .int .u8 0, false⟩),
  (305, ⟨.fn, 1, 8, .nilf, false⟩),
  (306, ⟨.ptr 5, 1, 8, .nilp, false⟩),
  (307, ⟨.int .i32, 1, 4, .int .i32 0, false⟩),
  (308, ⟨.int .i32, 1, 4, .int .i32 0, false⟩),
  (309, ⟨.strct [(12, 0), (12, 1), (185, 2), (303, 3), (5, 4), (5, 5), (304, 6), (305, 7), (306, 8), (307, 9), (308, 10)], 11, 48, .agg [.int .u64 0, .int .u64 0, .int .u32 0, .int .u8 0, .int .u8 0, .int .u8 0, .int .u8 0, .nilf, .nilp, .int .i32 0, .int .i32 0], false⟩),
  (310, ⟨.strct [(12, 0), (12, 1), (185, 2), (303, 3), (5, 4), (5, 5), (304, 6), (305, 7), (306, 8), (307, 9), (308, 10)], 11, 48, .agg [.int .u64 0, .int .u64 0, .int .u32 0, .int .u8 0, .int .u8 0, .int .u8 0, .int .u8 0, .nilf, .nilp, .int .i32 0, .int .i32 0], false⟩)]
set_option maxRecDepth 100000 in
theorem zDl : ttB Tryz.prog tt = true := by kernel_rfl
theorem mixed : Tryz.prog.follows .mixedOrders = true := by kernel_rfl
abbrev F.invigilatorlaw32_awake : Nat := 6
abbrev F.pairs_each_int_ : Nat := 31
abbrev F.slices_DeleteFunc___int_int_ : Nat := 34
abbrev F.policy_Check : Nat := 53
abbrev F.slices_IndexFunc___int_int_ : Nat := 56
abbrev F.policy_parts : Nat := 70
abbrev F.lattice_Check : Nat := 76
abbrev F.slices_Clone___int_int_ : Nat := 78
abbrev F.slices_SortFunc___int_int_ : Nat := 79
abbrev F.labels_compare : Nat := 81
abbrev F.slices_Compact___int_int_ : Nat := 82
abbrev F.slices_pdqsortCmpFunc_int_ : Nat := 104
abbrev F._policy_names__meet : Nat := 114
abbrev F.slices_insertionSortCmpFunc_int_ : Nat := 123
abbrev F.prims_table : Nat := 162
abbrev F._Plexer_reader__class : Nat := 163
abbrev F._Plexer_reader__while : Nat := 164
abbrev F.prims_errs : Nat := 173
abbrev F.internal_stringslite_IndexByte : Nat := 239
def ft : List (Nat × Func) := [(6, Tryz.f6), (8, Tryz.f8), (13, Tryz.f13), (14, Tryz.f14), (15, Tryz.f15), (16, Tryz.f16), (17, Tryz.f17), (18, Tryz.f18), (19, Tryz.f19), (20, Tryz.f20), (27, Tryz.f27), (29, Tryz.f29), (30, Tryz.f30), (31, Tryz.f31), (32, Tryz.f32), (33, Tryz.f33), (34, Tryz.f34), (35, Tryz.f35), (36, Tryz.f36), (37, Tryz.f37), (38, Tryz.f38), (39, Tryz.f39), (40, Tryz.f40), (41, Tryz.f41), (42, Tryz.f42), (50, Tryz.f50), (51, Tryz.f51), (53, Tryz.f53), (54, Tryz.f54), (55, Tryz.f55), (56, Tryz.f56), (57, Tryz.f57), (58, Tryz.f58), (59, Tryz.f59), (60, Tryz.f60), (61, Tryz.f61), (70, Tryz.f70), (71, Tryz.f71), (72, Tryz.f72), (73, Tryz.f73), (74, Tryz.f74), (75, Tryz.f75), (76, Tryz.f76), (77, Tryz.f77), (78, Tryz.f78), (79, Tryz.f79), (80, Tryz.f80), (81, Tryz.f81), (82, Tryz.f82), (83, Tryz.f83), (84, Tryz.f84), (85, Tryz.f85), (89, Tryz.f89), (90, Tryz.f90), (91, Tryz.f91), (92, Tryz.f92), (93, Tryz.f93), (94, Tryz.f94), (95, Tryz.f95), (96, Tryz.f96), (97, Tryz.f97), (98, Tryz.f98), (99, Tryz.f99), (100, Tryz.f100), (101, Tryz.f101), (102, Tryz.f102), (103, Tryz.f103), (104, Tryz.f104), (105, Tryz.f105), (106, Tryz.f106), (107, Tryz.f107), (108, Tryz.f108), (114, Tryz.f114), (115, Tryz.f115), (116, Tryz.f116), (117, Tryz.f117), (118, Tryz.f118), (119, Tryz.f119), (120, Tryz.f120), (121, Tryz.f121), (122, Tryz.f122), (123, Tryz.f123), (124, Tryz.f124), (125, Tryz.f125), (126, Tryz.f126), (127, Tryz.f127), (128, Tryz.f128), (129, Tryz.f129), (130, Tryz.f130), (131, Tryz.f131), (132, Tryz.f132), (136, Tryz.f136), (137, Tryz.f137), (138, Tryz.f138), (139, Tryz.f139), (140, Tryz.f140), (141, Tryz.f141), (142, Tryz.f142), (143, Tryz.f143), (144, Tryz.f144), (145, Tryz.f145), (149, Tryz.f149), (150, Tryz.f150), (151, Tryz.f151), (152, Tryz.f152), (153, Tryz.f153), (154, Tryz.f154), (155, Tryz.f155), (156, Tryz.f156), (157, Tryz.f157), (158, Tryz.f158), (159, Tryz.f159), (162, Tryz.f162), (163, Tryz.f163), (164, Tryz.f164), (165, Tryz.f165), (166, Tryz.f166), (167, Tryz.f167), (168, Tryz.f168), (169, Tryz.f169), (173, Tryz.f173), (174, Tryz.f174), (175, Tryz.f175), (176, Tryz.f176), (177, Tryz.f177), (178, Tryz.f178), (179, Tryz.f179), (180, Tryz.f180), (181, Tryz.f181), (182, Tryz.f182), (183, Tryz.f183), (184, Tryz.f184), (185, Tryz.f185), (186, Tryz.f186), (187, Tryz.f187), (188, Tryz.f188), (189, Tryz.f189), (190, Tryz.f190), (191, Tryz.f191), (192, Tryz.f192), (193, Tryz.f193), (194, Tryz.f194), (195, Tryz.f195), (196, Tryz.f196), (197, Tryz.f197), (198, Tryz.f198), (199, Tryz.f199), (200, Tryz.f200), (201, Tryz.f201), (202, Tryz.f202), (203, Tryz.f203), (204, Tryz.f204), (205, Tryz.f205), (206, Tryz.f206), (207, Tryz.f207), (208, Tryz.f208), (209, Tryz.f209), (210, Tryz.f210), (211, Tryz.f211), (212, Tryz.f212), (213, Tryz.f213), (214, Tryz.f214), (215, Tryz.f215), (216, Tryz.f216), (217, Tryz.f217), (218, Tryz.f218), (219, Tryz.f219), (221, Tryz.f221), (222, Tryz.f222), (223, Tryz.f223), (224, Tryz.f224), (225, Tryz.f225), (226, Tryz.f226), (227, Tryz.f227), (228, Tryz.f228), (230, Tryz.f230), (231, Tryz.f231), (232, Tryz.f232), (233, Tryz.f233), (234, Tryz.f234), (235, Tryz.f235), (236, Tryz.f236), (237, Tryz.f237), (238, Tryz.f238), (239, Tryz.f239), (240, Tryz.f240), (241, Tryz.f241), (242, Tryz.f242), (244, Tryz.f244), (245, Tryz.f245), (246, Tryz.f246), (247, Tryz.f247), (248, Tryz.f248), (249, Tryz.f249), (250, Tryz.f250), (251, Tryz.f251), (252, Tryz.f252), (253, Tryz.f253), (254, Tryz.f254), (255, Tryz.f255), (256, Tryz.f256), (257, Tryz.f257), (258, Tryz.f258), (259, Tryz.f259), (260, Tryz.f260), (261, Tryz.f261), (262, Tryz.f262), (263, Tryz.f263), (264, Tryz.f264), (265, Tryz.f265), (266, Tryz.f266), (267, Tryz.f267), (268, Tryz.f268), (284, Tryz.f284)]
set_option maxRecDepth 100000 in
theorem zh9 : zd1 Tryz.prog ft := ⟨⟨Tryz.func6, by kernel_rfl⟩, ⟨Tryz.func8, by kernel_rfl⟩, ⟨Tryz.func13, by kernel_rfl⟩, ⟨Tryz.func14, by kernel_rfl⟩, ⟨Tryz.func15, by kernel_rfl⟩, ⟨Tryz.func16, by kernel_rfl⟩, ⟨Tryz.func17, by kernel_rfl⟩, ⟨Tryz.func18, by kernel_rfl⟩, ⟨Tryz.func19, by kernel_rfl⟩, ⟨Tryz.func20, by kernel_rfl⟩, ⟨Tryz.func27, by kernel_rfl⟩, ⟨Tryz.func29, by kernel_rfl⟩, ⟨Tryz.func30, by kernel_rfl⟩, ⟨Tryz.func31, by kernel_rfl⟩, ⟨Tryz.func32, by kernel_rfl⟩, ⟨Tryz.func33, by kernel_rfl⟩, ⟨Tryz.func34, by kernel_rfl⟩, ⟨Tryz.func35, by kernel_rfl⟩, ⟨Tryz.func36, by kernel_rfl⟩, ⟨Tryz.func37, by kernel_rfl⟩, ⟨Tryz.func38, by kernel_rfl⟩, ⟨Tryz.func39, by kernel_rfl⟩, ⟨Tryz.func40, by kernel_rfl⟩, ⟨Tryz.func41, by kernel_rfl⟩, ⟨Tryz.func42, by kernel_rfl⟩, ⟨Tryz.func50, by kernel_rfl⟩, ⟨Tryz.func51, by kernel_rfl⟩, ⟨Tryz.func53, by kernel_rfl⟩, ⟨Tryz.func54, by kernel_rfl⟩, ⟨Tryz.func55, by kernel_rfl⟩, ⟨Tryz.func56, by kernel_rfl⟩, ⟨Tryz.func57, by kernel_rfl⟩, ⟨Tryz.func58, by kernel_rfl⟩, ⟨Tryz.func59, by kernel_rfl⟩, ⟨Tryz.func60, by kernel_rfl⟩, ⟨Tryz.func61, by kernel_rfl⟩, ⟨Tryz.func70, by kernel_rfl⟩, ⟨Tryz.func71, by kernel_rfl⟩, ⟨Tryz.func72, by kernel_rfl⟩, ⟨Tryz.func73, by kernel_rfl⟩, ⟨Tryz.func74, by kernel_rfl⟩, ⟨Tryz.func75, by kernel_rfl⟩, ⟨Tryz.func76, by kernel_rfl⟩, ⟨Tryz.func77, by kernel_rfl⟩, ⟨Tryz.func78, by kernel_rfl⟩, ⟨Tryz.func79, by kernel_rfl⟩, ⟨Tryz.func80, by kernel_rfl⟩, ⟨Tryz.func81, by kernel_rfl⟩, ⟨Tryz.func82, by kernel_rfl⟩, ⟨Tryz.func83, by kernel_rfl⟩, ⟨Tryz.func84, by kernel_rfl⟩, ⟨Tryz.func85, by kernel_rfl⟩, ⟨Tryz.func89, by kernel_rfl⟩, ⟨Tryz.func90, by kernel_rfl⟩, ⟨Tryz.func91, by kernel_rfl⟩, ⟨Tryz.func92, by kernel_rfl⟩, ⟨Tryz.func93, by kernel_rfl⟩, ⟨Tryz.func94, by kernel_rfl⟩, ⟨Tryz.func95, by kernel_rfl⟩, ⟨Tryz.func96, by kernel_rfl⟩, ⟨Tryz.func97, by kernel_rfl⟩, ⟨Tryz.func98, by kernel_rfl⟩, ⟨Tryz.func99, by kernel_rfl⟩, ⟨Tryz.func100, by kernel_rfl⟩, ⟨Tryz.func101, by kernel_rfl⟩, ⟨Tryz.func102, by kernel_rfl⟩, ⟨Tryz.func103, by kernel_rfl⟩, ⟨Tryz.func104, by kernel_rfl⟩, ⟨Tryz.func105, by kernel_rfl⟩, ⟨Tryz.func106, by kernel_rfl⟩, ⟨Tryz.func107, by kernel_rfl⟩, ⟨Tryz.func108, by kernel_rfl⟩, ⟨Tryz.func114, by kernel_rfl⟩, ⟨Tryz.func115, by kernel_rfl⟩, ⟨Tryz.func116, by kernel_rfl⟩, ⟨Tryz.func117, by kernel_rfl⟩, ⟨Tryz.func118, by kernel_rfl⟩, ⟨Tryz.func119, by kernel_rfl⟩, ⟨Tryz.func120, by kernel_rfl⟩, ⟨Tryz.func121, by kernel_rfl⟩, ⟨Tryz.func122, by kernel_rfl⟩, ⟨Tryz.func123, by kernel_rfl⟩, ⟨Tryz.func124, by kernel_rfl⟩, ⟨Tryz.func125, by kernel_rfl⟩, ⟨Tryz.func126, by kernel_rfl⟩, ⟨Tryz.func127, by kernel_rfl⟩, ⟨Tryz.func128, by kernel_rfl⟩, ⟨Tryz.func129, by kernel_rfl⟩, ⟨Tryz.func130, by kernel_rfl⟩, ⟨Tryz.func131, by kernel_rfl⟩, ⟨Tryz.func132, by kernel_rfl⟩, ⟨Tryz.func136, by kernel_rfl⟩, ⟨Tryz.func137, by kernel_rfl⟩, ⟨Tryz.func138, by kernel_rfl⟩, ⟨Tryz.func139, by kernel_rfl⟩, ⟨Tryz.func140, by kernel_rfl⟩, ⟨Tryz.func141, by kernel_rfl⟩, ⟨Tryz.func142, by kernel_rfl⟩, ⟨Tryz.func143, by kernel_rfl⟩, ⟨Tryz.func144, by kernel_rfl⟩, ⟨Tryz.func145, by kernel_rfl⟩, ⟨Tryz.func149, by kernel_rfl⟩, ⟨Tryz.func150, by kernel_rfl⟩, ⟨Tryz.func151, by kernel_rfl⟩, ⟨Tryz.func152, by kernel_rfl⟩, ⟨Tryz.func153, by kernel_rfl⟩, ⟨Tryz.func154, by kernel_rfl⟩, ⟨Tryz.func155, by kernel_rfl⟩, ⟨Tryz.func156, by kernel_rfl⟩, ⟨Tryz.func157, by kernel_rfl⟩, ⟨Tryz.func158, by kernel_rfl⟩, ⟨Tryz.func159, by kernel_rfl⟩, ⟨Tryz.func162, by kernel_rfl⟩, ⟨Tryz.func163, by kernel_rfl⟩, ⟨Tryz.func164, by kernel_rfl⟩, ⟨Tryz.func165, by kernel_rfl⟩, ⟨Tryz.func166, by kernel_rfl⟩, ⟨Tryz.func167, by kernel_rfl⟩, ⟨Tryz.func168, by kernel_rfl⟩, ⟨Tryz.func169, by kernel_rfl⟩, ⟨Tryz.func173, by kernel_rfl⟩, ⟨Tryz.func174, by kernel_rfl⟩, ⟨Tryz.func175, by kernel_rfl⟩, ⟨Tryz.func176, by kernel_rfl⟩, ⟨Tryz.func177, by kernel_rfl⟩, ⟨Tryz.func178, by kernel_rfl⟩, ⟨Tryz.func179, by kernel_rfl⟩, ⟨Tryz.func180, by kernel_rfl⟩, ⟨Tryz.func181, by kernel_rfl⟩, ⟨Tryz.func182, by kernel_rfl⟩, ⟨Tryz.func183, by kernel_rfl⟩, ⟨Tryz.func184, by kernel_rfl⟩, ⟨Tryz.func185, by kernel_rfl⟩, ⟨Tryz.func186, by kernel_rfl⟩, ⟨Tryz.func187, by kernel_rfl⟩, ⟨Tryz.func188, by kernel_rfl⟩, ⟨Tryz.func189, by kernel_rfl⟩, ⟨Tryz.func190, by kernel_rfl⟩, ⟨Tryz.func191, by kernel_rfl⟩, ⟨Tryz.func192, by kernel_rfl⟩, ⟨Tryz.func193, by kernel_rfl⟩, ⟨Tryz.func194, by kernel_rfl⟩, ⟨Tryz.func195, by kernel_rfl⟩, ⟨Tryz.func196, by kernel_rfl⟩, ⟨Tryz.func197, by kernel_rfl⟩, ⟨Tryz.func198, by kernel_rfl⟩, ⟨Tryz.func199, by kernel_rfl⟩, ⟨Tryz.func200, by kernel_rfl⟩, ⟨Tryz.func201, by kernel_rfl⟩, ⟨Tryz.func202, by kernel_rfl⟩, ⟨Tryz.func203, by kernel_rfl⟩, ⟨Tryz.func204, by kernel_rfl⟩, ⟨Tryz.func205, by kernel_rfl⟩, ⟨Tryz.func206, by kernel_rfl⟩, ⟨Tryz.func207, by kernel_rfl⟩, ⟨Tryz.func208, by kernel_rfl⟩, ⟨Tryz.func209, by kernel_rfl⟩, ⟨Tryz.func210, by kernel_rfl⟩, ⟨Tryz.func211, by kernel_rfl⟩, ⟨Tryz.func212, by kernel_rfl⟩, ⟨Tryz.func213, by kernel_rfl⟩, ⟨Tryz.func214, by kernel_rfl⟩, ⟨Tryz.func215, by kernel_rfl⟩, ⟨Tryz.func216, by kernel_rfl⟩, ⟨Tryz.func217, by kernel_rfl⟩, ⟨Tryz.func218, by kernel_rfl⟩, ⟨Tryz.func219, by kernel_rfl⟩, ⟨Tryz.func221, by kernel_rfl⟩, ⟨Tryz.func222, by kernel_rfl⟩, ⟨Tryz.func223, by kernel_rfl⟩, ⟨Tryz.func224, by kernel_rfl⟩, ⟨Tryz.func225, by kernel_rfl⟩, ⟨Tryz.func226, by kernel_rfl⟩, ⟨Tryz.func227, by kernel_rfl⟩, ⟨Tryz.func228, by kernel_rfl⟩, ⟨Tryz.func230, by kernel_rfl⟩, ⟨Tryz.func231, by kernel_rfl⟩, ⟨Tryz.func232, by kernel_rfl⟩, ⟨Tryz.func233, by kernel_rfl⟩, ⟨Tryz.func234, by kernel_rfl⟩, ⟨Tryz.func235, by kernel_rfl⟩, ⟨Tryz.func236, by kernel_rfl⟩, ⟨Tryz.func237, by kernel_rfl⟩, ⟨Tryz.func238, by kernel_rfl⟩, ⟨Tryz.func239, by kernel_rfl⟩, ⟨Tryz.func240, by kernel_rfl⟩, ⟨Tryz.func241, by kernel_rfl⟩, ⟨Tryz.func242, by kernel_rfl⟩, ⟨Tryz.func244, by kernel_rfl⟩, ⟨Tryz.func245, by kernel_rfl⟩, ⟨Tryz.func246, by kernel_rfl⟩, ⟨Tryz.func247, by kernel_rfl⟩, ⟨Tryz.func248, by kernel_rfl⟩, ⟨Tryz.func249, by kernel_rfl⟩, ⟨Tryz.func250, by kernel_rfl⟩, ⟨Tryz.func251, by kernel_rfl⟩, ⟨Tryz.func252, by kernel_rfl⟩, ⟨Tryz.func253, by kernel_rfl⟩, ⟨Tryz.func254, by kernel_rfl⟩, ⟨Tryz.func255, by kernel_rfl⟩, ⟨Tryz.func256, by kernel_rfl⟩, ⟨Tryz.func257, by kernel_rfl⟩, ⟨Tryz.func258, by kernel_rfl⟩, ⟨Tryz.func259, by kernel_rfl⟩, ⟨Tryz.func260, by kernel_rfl⟩, ⟨Tryz.func261, by kernel_rfl⟩, ⟨Tryz.func262, by kernel_rfl⟩, ⟨Tryz.func263, by kernel_rfl⟩, ⟨Tryz.func264, by kernel_rfl⟩, ⟨Tryz.func265, by kernel_rfl⟩, ⟨Tryz.func266, by kernel_rfl⟩, ⟨Tryz.func267, by kernel_rfl⟩, ⟨Tryz.func268, by kernel_rfl⟩, ⟨Tryz.func284, by kernel_rfl⟩, trivial⟩
open Go.RowKit (Below)
def gl : List (Nat × SV) := [(0, .sl 1 [.str [105, 110, 105, 110], .str [105, 48, 105, 110, 105, 110], .str [105, 110, 105, 48, 105, 110], .str [105, 110, 105, 110, 105, 110]]), (1, .sl 1 [.str [107, 48, 107, 110, 105, 110], .str [107, 110, 107, 48, 105, 110], .str [107, 110, 107, 110, 105, 110]])]
theorem zz4 (w : World) (u : Value) : Calls Tryz.prog F.prims_errs #[u] w fun e w' => e = .returned u /\ Below w.heap.size w w' := by
  refine calls_of_wp Tryz.func173 rfl ?_
  have e0 : (#[u] ++ Array.replicate (Tryz.f173.ntmps - #[u].size) undef) = #[u, undef, undef, undef] := by
    simp [Tryz.f173, Array.replicate]
  rw [e0]
  refine wp_seq (wp_region ?_)
  simp [wpOps, Region.wanted, Oper.wp, execOp, Oper.upon_value, Act.put, Act.eval, Exit.then, List.range, List.range.loop]
  refine .inl (wp_seq (wp_region ?_))
  simp [wpOps, Region.wanted, Oper.wp, execOp, Oper.upon_value, Act.put, Act.eval, Exit.then, List.range, List.range.loop]
  refine .inl (.inl (wp_ret ?_))
  refine ⟨rfl, u, ?_, rfl, Below.refl _ _⟩
  simp [results, Tryz.f173]
def E : Env := { P := Tryz.prog, tt := tt, gl := gl, lend := [F._Plexer_reader__class, F._Plexer_reader__while, F._policy_names__meet, F.pairs_each_int_, F.slices_DeleteFunc___int_int_, F.slices_SortFunc___int_int_, F.slices_pdqsortCmpFunc_int_, F.slices_insertionSortCmpFunc_int_, F.slices_Compact___int_int_, F.slices_Clone___int_int_, F.labels_compare, F.slices_IndexFunc___int_int_ + 11000000], idf := [F.prims_errs], mt := [(136, "invigilator/labels.less", 284)] }
theorem zF0 : ∀ f, qI f [F.prims_errs] = true -> wO Tryz.prog f /\ ∀ (w : World) (u : Value), Calls Tryz.prog f #[u] w fun e w' => e = .returned u /\ Below w.heap.size w w' := by
  intro f hf
  have : f = F.prims_errs := by simpa using memb_mem.1 hf
  subst this
  exact ⟨⟨_, Tryz.func173, rfl, by decide +kernel⟩, zz4⟩
set_option maxRecDepth 100000 in
theorem zAo (w : World) (v : Value) : (method (E.P.types.size + Made.depth) 136 v "invigilator/labels.less").run E.P w = .ok (284, v) w := by kernel_rfl
theorem zDs : ∀ T name f, lkM E.mt T name = some f -> ∀ (w : World) (v : Value), (method (E.P.types.size + Made.depth) T v name).run E.P w = .ok (f, v) w := by
  intro T name f h w v
  have e : E.mt = [(136, "invigilator/labels.less", 284)] := rfl
  rw [e] at h
  unfold lkM at h
  split at h
  . rename_i h1 h2
    cases h
    have := zn h1; subst this
    have e2 : name = "invigilator/labels.less" := (of_decide_eq_true h2).symm
    subst e2
    exact zAo w v
  . unfold lkM at h; cases h
theorem ok : EnvOK E := have h := zw9 (gl := gl) (ld := []) zDl mixed zF0; ⟨h.tt', h.mixed, h.idf, zDs⟩
end Go.Sx.Tz
end
namespace Go.Sx.Tz
open Go Go.Proofs Go.Shelf
end Go.Sx.Tz
noncomputable section
namespace Go.Sx.Tz
open Go.Proofs
set_option maxRecDepth 100000
theorem zr7 {E : Env} : ∀ f az r, lkX [] f az = some r -> Ret E f az r := fun _ _ _ h => by cases h
theorem zg3 {E : Env} {g : Nat} {k : List SV -> Rt} {l : List (Nat × (List SV -> Rt))} (h : ∀ az r, k az = some r -> Ret E g az r) (hl : ∀ f az r, lkX l f az = some r -> Ret E f az r) :
    ∀ f az r, lkX ((g, k) :: l) f az = some r -> Ret E f az r := by
  intro f az r hk
  simp only [lkX] at hk
  split at hk
  . rename_i e
    have := zn e; subst this
    exact h az r hk
  . exact hl f az r hk
def yI : List SV := [.agg [.sl 1 [.str [108, 111, 119], .str [97, 110, 110], .str [98, 111, 98], .str [116, 111, 112]], .sl 1 [.int .u8 15, .int .u8 10, .int .u8 12, .int .u8 8]]]
def C_lattice_Check_1 : SV := .tup [.int .i64 0, .int .i64 0]
theorem zfm : Ret E F.lattice_Check yI C_lattice_Check_1 := xC ok zh9 HkOK.no (show yw E ft Hk.no 1000 60 (.ret F.lattice_Check yI) = some C_lattice_Check_1 by kernel_rfl)
def zFj : List (Nat × Func) := wV [F.lattice_Check] ft
def hkM1 : Hk := ⟨(F.lattice_Check, zel [(yI, C_lattice_Check_1)]) :: [], []⟩
theorem hkM1_ok : HkOK E hkM1 := ⟨zg3 (fun az r h => zc6 (l := [(yI, C_lattice_Check_1)]) ⟨zfm, trivial⟩ az r h) zr7, fun _ _ _ _ _ _ _ _ h => (by cases h)⟩
def yV : List SV := [.agg [.agg [.sl 1 [.str [108, 111, 119], .str [97, 110, 110], .str [98, 111, 98], .str [116, 111, 112]], .sl 1 [.int .u8 15, .int .u8 10, .int .u8 12, .int .u8 8]], .sl 2 [.agg [.str [98, 111, 97, 114, 100], .int .i64 0]], .sl 6 [.agg [.str [109, 97, 114, 107, 115], .agg [.int .i64 1, .int .i64 1, .arr 2 1 [.int .i64 0, .int .i64 0], .int .i64 3]], .agg [.str [110, 97, 109, 101, 115], .agg [.int .i64 2, .int .i64 1, .arr 2 1 [.int .i64 1, .int .i64 0], .int .i64 3]]], .sl 3 [.agg [.int .i64 3, .int .i64 1, .int .i64 5]]]]
def C_policy_Check_1 : SV := .tup [.int .i64 0, .int .i64 0, .int .i64 0]
theorem zgg : Ret E F.policy_Check yV C_policy_Check_1 := xC ok (xF zh9) hkM1_ok (show yw E zFj hkM1 1000 60 (.ret F.policy_Check yV) = some C_policy_Check_1 by kernel_rfl)
def ftB : List (Nat × Func) := wV [F.lattice_Check, F.policy_Check] ft
def hkM2 : Hk := ⟨(F.policy_Check, zel [(yV, C_policy_Check_1)]) :: hkM1.x, []⟩
theorem zz0 : HkOK E hkM2 := ⟨zg3 (fun az r h => zc6 (l := [(yV, C_policy_Check_1)]) ⟨zgg, trivial⟩ az r h) hkM1_ok.x, fun _ _ _ _ _ _ _ _ h => (by cases h)⟩
def V_invigilatorlaw32_awake : SV := .bool true
theorem L_invigilatorlaw32_awake : Ret E F.invigilatorlaw32_awake [] V_invigilatorlaw32_awake := xC ok (xF zh9) zz0 (show yw E ftB hkM2 1000 60 (.ret F.invigilatorlaw32_awake []) = some V_invigilatorlaw32_awake by kernel_rfl)
end Go.Sx.Tz
end
