/-
  THE TABLES OF THE PROGRAM: its types, its functions. Printed by a program. An own text.
  THE SEAT's HOOKS: slices.Clone. An own text.
  THE TABLE OF PRIMITIVES by a closed run: a region of prims.pair is walked in every order. An own text.
  THE CLOSED RUN OF law32.awake, in parts. An own text.
-/
import Derived.Test.YtnfgjdiebpoibaaGreatDoorP1k
import Derived.Test.YtnfgjdiebpoibaaGreatDoorProg
namespace Go.Sx.Tz
open Go.Proofs
noncomputable def tt : List (Nat × TI) := [(1, ⟨.fn, 1, 8, .nilf, false⟩),
  (2, ⟨.int .i64, 1, 8, .int .i64 0, false⟩),
  (3, ⟨.int .i64, 1, 8, .int .i64 0, false⟩),
  (4, ⟨.bool, 1, 1, .fls, false⟩),
  (5, ⟨.int .u8, 1, 1, .int .u8 0, false⟩),
  (6, ⟨.int .u8, 1, 1, .int .u8 0, false⟩),
  (7, ⟨.strct [(2, 0), (3, 1), (4, 2), (6, 3)], 4, 24, .agg [.int .i64 0, .int .i64 0, .fls, .int .u8 0], true⟩),
  (8, ⟨.strct [(2, 0), (3, 1), (4, 2), (6, 3)], 4, 24, .agg [.int .i64 0, .int .i64 0, .fls, .int .u8 0], true⟩),
  (9, ⟨.str, 1, 16, .str [], false⟩),
  (10, ⟨.str, 1, 16, .str [], false⟩),
  (11, ⟨.str, 1, 16, .str [], false⟩),
  (12, ⟨.int .u64, 1, 8, .int .u64 0, false⟩),
  (13, ⟨.strct [(9, 0), (12, 1)], 2, 24, .agg [.str [], .int .u64 0], false⟩),
  (14, ⟨.strct [(9, 0), (12, 1)], 2, 24, .agg [.str [], .int .u64 0], false⟩),
  (15, ⟨.ptr 307, 1, 8, .nilp, false⟩),
  (16, ⟨.ptr 310, 1, 8, .nilp, false⟩),
  (17, ⟨.ptr 319, 1, 8, .nilp, false⟩),
  (18, ⟨.strct [(17, 0)], 1, 8, .agg [.nilp], false⟩),
  (19, ⟨.strct [(17, 0)], 1, 8, .agg [.nilp], false⟩),
  (20, ⟨.ifc, 1, 16, .nili, false⟩),
  (21, ⟨.int .i32, 1, 4, .int .i32 0, false⟩),
  (22, ⟨.sl 9, 1, 24, .nils, false⟩),
  (23, ⟨.sl 5, 1, 24, .nils, false⟩),
  (24, ⟨.strct [(22, 0), (23, 1)], 2, 48, .agg [.nils, .nils], true⟩),
  (25, ⟨.strct [(22, 0), (23, 1)], 2, 48, .agg [.nils, .nils], true⟩),
  (26, ⟨.sl 90, 1, 24, .nils, false⟩),
  (27, ⟨.sl 82, 1, 24, .nils, false⟩),
  (28, ⟨.sl 92, 1, 24, .nils, false⟩),
  (29, ⟨.strct [(25, 0), (26, 2), (27, 3), (28, 4)], 5, 120, .agg [.agg [.nils, .nils], .nils, .nils, .nils], true⟩),
  (30, ⟨.strct [(25, 0), (26, 2), (27, 3), (28, 4)], 5, 120, .agg [.agg [.nils, .nils], .nils, .nils, .nils], true⟩),
  (31, ⟨.sl 58, 1, 24, .nils, false⟩),
  (32, ⟨.arr 2 31, 2, 48, .arr 2 1 [.nils, .nils], true⟩),
  (33, ⟨.fn, 1, 8, .nilf, false⟩),
  (34, ⟨.fn, 1, 8, .nilf, false⟩),
  (35, ⟨.int .i64, 1, 8, .int .i64 0, false⟩),
  (37, ⟨.fn, 1, 8, .nilf, false⟩),
  (38, ⟨.fn, 1, 8, .nilf, false⟩),
  (39, ⟨.fn, 1, 8, .nilf, false⟩),
  (40, ⟨.fn, 1, 8, .nilf, false⟩),
  (41, ⟨.fn, 1, 8, .nilf, false⟩),
  (43, ⟨.fn, 1, 8, .nilf, false⟩),
  (44, ⟨.sl 51, 1, 24, .nils, false⟩),
  (46, ⟨.fn, 1, 8, .nilf, false⟩),
  (48, ⟨.fn, 1, 8, .nilf, false⟩),
  (49, ⟨.arr 2 4, 2, 2, .arr 2 1 [.fls, .fls], true⟩),
  (50, ⟨.strct [(49, 0), (4, 2)], 3, 3, .agg [.arr 2 1 [.fls, .fls], .fls], true⟩),
  (51, ⟨.strct [(49, 0), (4, 2)], 3, 3, .agg [.arr 2 1 [.fls, .fls], .fls], true⟩),
  (52, ⟨.fn, 1, 8, .nilf, false⟩),
  (53, ⟨.arr 2 3, 2, 16, .arr 2 1 [.int .i64 0, .int .i64 0], true⟩),
  (54, ⟨.sl 2, 1, 24, .nils, false⟩),
  (55, ⟨.strct [(3, 0), (3, 1), (53, 2), (54, 4)], 5, 56, .agg [.int .i64 0, .int .i64 0, .arr 2 1 [.int .i64 0, .int .i64 0], .nils], true⟩),
  (56, ⟨.strct [(3, 0), (3, 1), (53, 2), (54, 4)], 5, 56, .agg [.int .i64 0, .int .i64 0, .arr 2 1 [.int .i64 0, .int .i64 0], .nils], true⟩),
  (57, ⟨.strct [(9, 0), (56, 1)], 6, 72, .agg [.str [], .agg [.int .i64 0, .int .i64 0, .arr 2 1 [.int .i64 0, .int .i64 0], .nils]], true⟩),
  (58, ⟨.strct [(9, 0), (56, 1)], 6, 72, .agg [.str [], .agg [.int .i64 0, .int .i64 0, .arr 2 1 [.int .i64 0, .int .i64 0], .nils]], true⟩),
  (59, ⟨.fn, 1, 8, .nilf, false⟩),
  (61, ⟨.fn, 1, 8, .nilf, false⟩),
  (62, ⟨.fn, 1, 8, .nilf, false⟩),
  (63, ⟨.fn, 1, 8, .nilf, false⟩),
  (64, ⟨.fn, 1, 8, .nilf, false⟩),
  (65, ⟨.sl 3, 1, 24, .nils, false⟩),
  (67, ⟨.fn, 1, 8, .nilf, false⟩),
  (68, ⟨.fn, 1, 8, .nilf, false⟩),
  (69, ⟨.fn, 1, 8, .nilf, false⟩),
  (70, ⟨.fn, 1, 8, .nilf, false⟩),
  (71, ⟨.ptr 30, 1, 8, .nilp, false⟩),
  (72, ⟨.fn, 1, 8, .nilf, false⟩),
  (74, ⟨.fn, 1, 8, .nilf, false⟩),
  (75, ⟨.fn, 1, 8, .nilf, false⟩),
  (76, ⟨.fn, 1, 8, .nilf, false⟩),
  (77, ⟨.fn, 1, 8, .nilf, false⟩),
  (78, ⟨.fn, 1, 8, .nilf, false⟩),
  (79, ⟨.strct [(3, 0), (3, 1), (53, 2), (3, 4)], 5, 40, .agg [.int .i64 0, .int .i64 0, .arr 2 1 [.int .i64 0, .int .i64 0], .int .i64 0], true⟩),
  (80, ⟨.strct [(3, 0), (3, 1), (53, 2), (3, 4)], 5, 40, .agg [.int .i64 0, .int .i64 0, .arr 2 1 [.int .i64 0, .int .i64 0], .int .i64 0], true⟩),
  (81, ⟨.strct [(9, 0), (80, 1)], 6, 56, .agg [.str [], .agg [.int .i64 0, .int .i64 0, .arr 2 1 [.int .i64 0, .int .i64 0], .int .i64 0]], true⟩),
  (82, ⟨.strct [(9, 0), (80, 1)], 6, 56, .agg [.str [], .agg [.int .i64 0, .int .i64 0, .arr 2 1 [.int .i64 0, .int .i64 0], .int .i64 0]], true⟩),
  (83, ⟨.fn, 1, 8, .nilf, false⟩),
  (85, ⟨.fn, 1, 8, .nilf, false⟩),
  (86, ⟨.fn, 1, 8, .nilf, false⟩),
  (87, ⟨.fn, 1, 8, .nilf, false⟩),
  (88, ⟨.fn, 1, 8, .nilf, false⟩),
  (89, ⟨.strct [(9, 0), (3, 1)], 2, 24, .agg [.str [], .int .i64 0], true⟩),
  (90, ⟨.strct [(9, 0), (3, 1)], 2, 24, .agg [.str [], .int .i64 0], true⟩),
  (91, ⟨.strct [(3, 0), (3, 1), (3, 2)], 3, 24, .agg [.int .i64 0, .int .i64 0, .int .i64 0], true⟩),
  (92, ⟨.strct [(3, 0), (3, 1), (3, 2)], 3, 24, .agg [.int .i64 0, .int .i64 0, .int .i64 0], true⟩),
  (93, ⟨.fn, 1, 8, .nilf, false⟩),
  (94, ⟨.fn, 1, 8, .nilf, false⟩),
  (96, ⟨.fn, 1, 8, .nilf, false⟩),
  (97, ⟨.fn, 1, 8, .nilf, false⟩),
  (98, ⟨.fn, 1, 8, .nilf, false⟩),
  (99, ⟨.fn, 1, 8, .nilf, false⟩),
  (100, ⟨.fn, 1, 8, .nilf, false⟩),
  (101, ⟨.fn, 1, 8, .nilf, false⟩),
  (102, ⟨.fn, 1, 8, .nilf, false⟩),
  (103, ⟨.fn, 1, 8, .nilf, false⟩),
  (104, ⟨.fn, 1, 8, .nilf, false⟩),
  (105, ⟨.fn, 1, 8, .nilf, false⟩),
  (106, ⟨.fn, 1, 8, .nilf, false⟩),
  (107, ⟨.sl 31, 1, 24, .nils, false⟩),
  (109, ⟨.fn, 1, 8, .nilf, false⟩),
  (110, ⟨.fn, 1, 8, .nilf, false⟩),
  (112, ⟨.fn, 1, 8, .nilf, false⟩),
  (113, ⟨.fn, 1, 8, .nilf, false⟩),
  (114, ⟨.fn, 1, 8, .nilf, false⟩),
  (115, ⟨.ptr 56, 1, 8, .nilp, false⟩),
  (116, ⟨.fn, 1, 8, .nilf, false⟩),
  (117, ⟨.fn, 1, 8, .nilf, false⟩),
  (118, ⟨.fn, 1, 8, .nilf, false⟩),
  (119, ⟨.fn, 1, 8, .nilf, false⟩),
  (120, ⟨.fn, 1, 8, .nilf, false⟩),
  (121, ⟨.fn, 1, 8, .nilf, false⟩),
  (122, ⟨.fn, 1, 8, .nilf, false⟩),
  (123, ⟨.strct [(22, 0), (23, 1)], 2, 48, .agg [.nils, .nils], true⟩),
  (124, ⟨.fn, 1, 8, .nilf, false⟩),
  (125, ⟨.ptr 123, 1, 8, .nilp, false⟩),
  (126, ⟨.sl 130, 1, 24, .nils, false⟩),
  (127, ⟨.fn, 1, 8, .nilf, false⟩),
  (128, ⟨.fn, 1, 8, .nilf, false⟩),
  (129, ⟨.strct [(128, 0)], 1, 8, .agg [.nilf], true⟩),
  (130, ⟨.strct [(128, 0)], 1, 8, .agg [.nilf], true⟩),
  (131, ⟨.strct [(25, 0), (3, 2)], 3, 56, .agg [.agg [.nils, .nils], .int .i64 0], true⟩),
  (132, ⟨.strct [(25, 0), (3, 2)], 3, 56, .agg [.agg [.nils, .nils], .int .i64 0], true⟩),
  (134, ⟨.fn, 1, 8, .nilf, false⟩),
  (135, ⟨.fn, 1, 8, .nilf, false⟩),
  (136, ⟨.fn, 1, 8, .nilf, false⟩),
  (137, ⟨.fn, 1, 8, .nilf, false⟩),
  (138, ⟨.fn, 1, 8, .nilf, false⟩),
  (139, ⟨.fn, 1, 8, .nilf, false⟩),
  (140, ⟨.fn, 1, 8, .nilf, false⟩),
  (141, ⟨.fn, 1, 8, .nilf, false⟩),
  (142, ⟨.fn, 1, 8, .nilf, false⟩),
  (143, ⟨.fn, 1, 8, .nilf, false⟩),
  (144, ⟨.fn, 1, 8, .nilf, false⟩),
  (145, ⟨.sl 3, 1, 24, .nils, false⟩),
  (146, ⟨.fn, 1, 8, .nilf, false⟩),
  (147, ⟨.fn, 1, 8, .nilf, false⟩),
  (148, ⟨.fn, 1, 8, .nilf, false⟩),
  (149, ⟨.fn, 1, 8, .nilf, false⟩),
  (150, ⟨.fn, 1, 8, .nilf, false⟩),
  (151, ⟨.fn, 1, 8, .nilf, false⟩),
  (152, ⟨.fn, 1, 8, .nilf, false⟩),
  (153, ⟨.fn, 1, 8, .nilf, false⟩),
  (154, ⟨.fn, 1, 8, .nilf, false⟩),
  (155, ⟨.arr 8 5, 8, 8, .arr 8 1 [.int .u8 0, .int .u8 0, .int .u8 0, .int .u8 0, .int .u8 0, .int .u8 0, .int .u8 0, .int .u8 0], true⟩),
  (156, ⟨.arr 8 5, 8, 8, .arr 8 1 [.int .u8 0, .int .u8 0, .int .u8 0, .int .u8 0, .int .u8 0, .int .u8 0, .int .u8 0, .int .u8 0], true⟩),
  (157, ⟨.arr 8 5, 8, 8, .arr 8 1 [.int .u8 0, .int .u8 0, .int .u8 0, .int .u8 0, .int .u8 0, .int .u8 0, .int .u8 0, .int .u8 0], true⟩),
  (158, ⟨.strct [(3, 0), (156, 1), (157, 9)], 17, 24, .agg [.int .i64 0, .arr 8 1 [.int .u8 0, .int .u8 0, .int .u8 0, .int .u8 0, .int .u8 0, .int .u8 0, .int .u8 0, .int .u8 0], .arr 8 1 [.int .u8 0, .int .u8 0, .int .u8 0, .int .u8 0, .int .u8 0, .int .u8 0, .int .u8 0, .int .u8 0]], true⟩),
  (159, ⟨.strct [(3, 0), (156, 1), (157, 9)], 17, 24, .agg [.int .i64 0, .arr 8 1 [.int .u8 0, .int .u8 0, .int .u8 0, .int .u8 0, .int .u8 0, .int .u8 0, .int .u8 0, .int .u8 0], .arr 8 1 [.int .u8 0, .int .u8 0, .int .u8 0, .int .u8 0, .int .u8 0, .int .u8 0, .int .u8 0, .int .u8 0]], true⟩),
  (160, ⟨.fn, 1, 8, .nilf, false⟩),
  (161, ⟨.ptr 25, 1, 8, .nilp, false⟩),
  (162, ⟨.fn, 1, 8, .nilf, false⟩),
  (163, ⟨.fn, 1, 8, .nilf, false⟩),
  (164, ⟨.fn, 1, 8, .nilf, false⟩),
  (165, ⟨.fn, 1, 8, .nilf, false⟩),
  (166, ⟨.int .u64, 1, 8, .int .u64 0, false⟩),
  (167, ⟨.ifc, 1, 16, .nili, false⟩),
  (168, ⟨.ifc, 1, 16, .nili, false⟩),
  (169, ⟨.mp 9 4, 1, 8, .any, false⟩),
  (170, ⟨.mp 9 4, 1, 8, .any, false⟩),
  (171, ⟨.fn, 1, 8, .nilf, false⟩),
  (172, ⟨.fn, 1, 8, .nilf, false⟩),
  (173, ⟨.mp 53 4, 1, 8, .any, false⟩),
  (174, ⟨.fn, 1, 8, .nilf, false⟩),
  (175, ⟨.fn, 1, 8, .nilf, false⟩),
  (176, ⟨.fn, 1, 8, .nilf, false⟩),
  (177, ⟨.fn, 1, 8, .nilf, false⟩),
  (178, ⟨.fn, 1, 8, .nilf, false⟩),
  (179, ⟨.fn, 1, 8, .nilf, false⟩),
  (180, ⟨.fn, 1, 8, .nilf, false⟩),
  (181, ⟨.strct [(3, 0), (3, 1), (3, 2), (2, 3), (9, 4)], 5, 48, .agg [.int .i64 0, .int .i64 0, .int .i64 0, .int .i64 0, .str []], true⟩),
  (182, ⟨.strct [(3, 0), (3, 1), (3, 2), (2, 3), (9, 4)], 5, 48, .agg [.int .i64 0, .int .i64 0, .int .i64 0, .int .i64 0, .str []], true⟩),
  (183, ⟨.fn, 1, 8, .nilf, false⟩),
  (184, ⟨.fn, 1, 8, .nilf, false⟩),
  (185, ⟨.fn, 1, 8, .nilf, false⟩),
  (186, ⟨.int .i64, 1, 8, .int .i64 0, false⟩),
  (188, ⟨.fn, 1, 8, .nilf, false⟩),
  (189, ⟨.fn, 1, 8, .nilf, false⟩),
  (190, ⟨.fn, 1, 8, .nilf, false⟩),
  (192, ⟨.fn, 1, 8, .nilf, false⟩),
  (193, ⟨.fn, 1, 8, .nilf, false⟩),
  (194, ⟨.int .u32, 1, 4, .int .u32 0, false⟩),
  (195, ⟨.fn, 1, 8, .nilf, false⟩),
  (196, ⟨.int .u64, 1, 8, .int .u64 0, false⟩),
  (197, ⟨.fn, 1, 8, .nilf, false⟩),
  (198, ⟨.fn, 1, 8, .nilf, false⟩),
  (200, ⟨.fn, 1, 8, .nilf, false⟩),
  (201, ⟨.fn, 1, 8, .nilf, false⟩),
  (202, ⟨.fn, 1, 8, .nilf, false⟩),
  (203, ⟨.int .u64, 1, 8, .int .u64 0, false⟩),
  (204, ⟨.fn, 1, 8, .nilf, false⟩),
  (205, ⟨.fn, 1, 8, .nilf, false⟩),
  (206, ⟨.fn, 1, 8, .nilf, false⟩),
  (207, ⟨.ptr 3, 1, 8, .nilp, false⟩),
  (208, ⟨.fn, 1, 8, .nilf, false⟩),
  (210, ⟨.fn, 1, 8, .nilf, false⟩),
  (211, ⟨.fn, 1, 8, .nilf, false⟩),
  (212, ⟨.arr 256 4, 256, 256, .arr 256 1 [.fls, .fls, .fls, .fls, .fls, .fls, .fls, .fls, .fls, .fls, .fls, .fls, .fls, .fls, .fls, .fls, .fls, .fls, .fls, .fls, .fls, .fls, .fls, .fls, .fls, .fls, .fls, .fls, .fls, .fls, .fls, .fls, .fls, .fls, .fls, .fls, .fls, .fls, .fls, .fls, .fls, .fls, .fls, .fls, .fls, .fls, .fls, .fls, .fls, .fls, .fls, .fls, .fls, .fls, .fls, .fls, .fls, .fls, .fls, .fls, .fls, .fls, .fls, .fls, .fls, .fls, .fls, .fls, .fls, .fls, .fls, .fls, .fls, .fls, .fls, .fls, .fls, .fls, .fls, .fls, .fls, .fls, .fls, .fls, .fls, .fls, .fls, .fls, .fls, .fls, .fls, .fls, .fls, .fls, .fls, .fls, .fls, .fls, .fls, .fls, .fls, .fls, .fls, .fls, .fls, .fls, .fls, .fls, .fls, .fls, .fls, .fls, .fls, .fls, .fls, .fls, .fls, .fls, .fls, .fls, .fls, .fls, .fls, .fls, .fls, .fls, .fls, .fls, .fls, .fls, .fls, .fls, .fls, .fls, .fls, .fls, .fls, .fls, .fls, .fls, .fls, .fls, .fls, .fls, .fls, .fls, .fls, .fls, .fls, .fls, .fls, .fls, .fls, .fls, .fls, .fls, .fls, .fls, .fls, .fls, .fls, .fls, .fls, .fls, .fls, .fls, .fls, .fls, .fls, .fls, .fls, .fls, .fls, .fls, .fls, .fls, .fls, .fls, .fls, .fls, .fls, .fls, .fls, .fls, .fls, .fls, .fls, .fls, .fls, .fls, .fls, .fls, .fls, .fls, .fls, .fls, .fls, .fls, .fls, .fls, .fls, .fls, .fls, .fls, .fls, .fls, .fls, .fls, .fls, .fls, .fls, .fls, .fls, .fls, .fls, .fls, .fls, .fls, .fls, .fls, .fls, .fls, .fls, .fls, .fls, .fls, .fls, .fls, .fls, .fls, .fls, .fls, .fls, .fls, .fls, .fls, .fls, .fls, .fls, .fls, .fls, .fls, .fls, .fls, .fls, .fls, .fls, .fls, .fls, .fls, .fls, .fls, .fls, .fls, .fls, .fls], true⟩),
  (213, ⟨.arr 256 4, 256, 256, .arr 256 1 [.fls, .fls, .fls, .fls, .fls, .fls, .fls, .fls, .fls, .fls, .fls, .fls, .fls, .fls, .fls, .fls, .fls, .fls, .fls, .fls, .fls, .fls, .fls, .fls, .fls, .fls, .fls, .fls, .fls, .fls, .fls, .fls, .fls, .fls, .fls, .fls, .fls, .fls, .fls, .fls, .fls, .fls, .fls, .fls, .fls, .fls, .fls, .fls, .fls, .fls, .fls, .fls, .fls, .fls, .fls, .fls, .fls, .fls, .fls, .fls, .fls, .fls, .fls, .fls, .fls, .fls, .fls, .fls, .fls, .fls, .fls, .fls, .fls, .fls, .fls, .fls, .fls, .fls, .fls, .fls, .fls, .fls, .fls, .fls, .fls, .fls, .fls, .fls, .fls, .fls, .fls, .fls, .fls, .fls, .fls, .fls, .fls, .fls, .fls, .fls, .fls, .fls, .fls, .fls, .fls, .fls, .fls, .fls, .fls, .fls, .fls, .fls, .fls, .fls, .fls, .fls, .fls, .fls, .fls, .fls, .fls, .fls, .fls, .fls, .fls, .fls, .fls, .fls, .fls, .fls, .fls, .fls, .fls, .fls, .fls, .fls, .fls, .fls, .fls, .fls, .fls, .fls, .fls, .fls, .fls, .fls, .fls, .fls, .fls, .fls, .fls, .fls, .fls, .fls, .fls, .fls, .fls, .fls, .fls, .fls, .fls, .fls, .fls, .fls, .fls, .fls, .fls, .fls, .fls, .fls, .fls, .fls, .fls, .fls, .fls, .fls, .fls, .fls, .fls, .fls, .fls, .fls, .fls, .fls, .fls, .fls, .fls, .fls, .fls, .fls, .fls, .fls, .fls, .fls, .fls, .fls, .fls, .fls, .fls, .fls, .fls, .fls, .fls, .fls, .fls, .fls, .fls, .fls, .fls, .fls, .fls, .fls, .fls, .fls, .fls, .fls, .fls, .fls, .fls, .fls, .fls, .fls, .fls, .fls, .fls, .fls, .fls, .fls, .fls, .fls, .fls, .fls, .fls, .fls, .fls, .fls, .fls, .fls, .fls, .fls, .fls, .fls, .fls, .fls, .fls, .fls, .fls, .fls, .fls, .fls, .fls, .fls, .fls, .fls, .fls, .fls], true⟩),
  (215, ⟨.fn, 1, 8, .nilf, false⟩),
  (216, ⟨.fn, 1, 8, .nilf, false⟩),
  (217, ⟨.ptr 213, 1, 8, .nilp, false⟩),
  (218, ⟨.ptr 203, 1, 8, .nilp, false⟩),
  (220, ⟨.fn, 1, 8, .nilf, false⟩),
  (221, ⟨.sl 227, 1, 24, .nils, false⟩),
  (222, ⟨.fn, 1, 8, .nilf, false⟩),
  (223, ⟨.sl 35, 1, 24, .nils, false⟩),
  (224, ⟨.fn, 1, 8, .nilf, false⟩),
  (225, ⟨.fn, 1, 8, .nilf, false⟩),
  (226, ⟨.strct [(9, 0), (22, 1), (223, 2), (224, 3), (225, 4)], 5, 80, .agg [.str [], .nils, .nils, .nilf, .nilf], true⟩),
  (227, ⟨.strct [(9, 0), (22, 1), (223, 2), (224, 3), (225, 4)], 5, 80, .agg [.str [], .nils, .nils, .nilf, .nilf], true⟩),
  (228, ⟨.ptr 230, 1, 8, .nilp, false⟩),
  (229, ⟨.strct [(9, 0), (3, 1)], 2, 24, .agg [.str [], .int .i64 0], true⟩),
  (230, ⟨.strct [(9, 0), (3, 1)], 2, 24, .agg [.str [], .int .i64 0], true⟩),
  (231, ⟨.fn, 1, 8, .nilf, false⟩),
  (232, ⟨.fn, 1, 8, .nilf, false⟩),
  (234, ⟨.fn, 1, 8, .nilf, false⟩),
  (235, ⟨.fn, 1, 8, .nilf, false⟩),
  (237, ⟨.fn, 1, 8, .nilf, false⟩),
  (238, ⟨.fn, 1, 8, .nilf, false⟩),
  (239, ⟨.fn, 1, 8, .nilf, false⟩),
  (240, ⟨.fn, 1, 8, .nilf, false⟩),
  (241, ⟨.fn, 1, 8, .nilf, false⟩),
  (242, ⟨.fn, 1, 8, .nilf, false⟩),
  (243, ⟨.arr 256 5, 256, 256, .arr 256 1 [.int .u8 0, .int .u8 0, .int .u8 0, .int .u8 0, .int .u8 0, .int .u8 0, .int .u8 0, .int .u8 0, .int .u8 0, .int .u8 0, .int .u8 0, .int .u8 0, .int .u8 0, .int .u8 0, .int .u8 0, .int .u8 0, .int .u8 0, .int .u8 0, .int .u8 0, .int .u8 0, .int .u8 0, .int .u8 0, .int .u8 0, .int .u8 0, .int .u8 0, .int .u8 0, .int .u8 0, .int .u8 0, .int .u8 0, .int .u8 0, .int .u8 0, .int .u8 0, .int .u8 0, .int .u8 0, .int .u8 0, .int .u8 0, .int .u8 0, .int .u8 0, .int .u8 0, .int .u8 0, .int .u8 0, .int .u8 0, .int .u8 0, .int .u8 0, .int .u8 0, .int .u8 0, .int .u8 0, .int .u8 0, .int .u8 0, .int .u8 0, .int .u8 0, .int .u8 0, .int .u8 0, .int .u8 0, .int .u8 0, .int .u8 0, .int .u8 0, .int .u8 0, .int .u8 0, .int .u8 0, .int .u8 0, .int .u8 0, .int .u8 0, .int .u8 0, .int .u8 0, .int .u8 0, .int .u8 0, .int .u8 0, .int .u8 0, .int .u8 0, .int .u8 0, .int .u8 0, .int .u8 0, .int .u8 0, .int .u8 0, .int .u8 0, .int .u8 0, .int .u8 0, .int .u8 0, .int .u8 0, .int .u8 0, .int .u8 0, .int .u8 0, .int .u8 0, .int .u8 0, .int .u8 0, .int .u8 0, .int .u8 0, .int .u8 0, .int .u8 0, .int .u8 0, .int .u8 0, .int .u8 0, .int .u8 0, .int .u8 0, .int .u8 0, .int .u8 0, .int .u8 0, .int .u8 0, .int .u8 0, .int .u8 0, .int .u8 0, .int .u8 0, .int .u8 0, .int .u8 0, .int .u8 0, .int .u8 0, .int .u8 0, .int .u8 0, .int .u8 0, .int .u8 0, .int .u8 0, .int .u8 0, .int .u8 0, .int .u8 0, .int .u8 0, .int .u8 0, .int .u8 0, .int .u8 0, .int .u8 0, .int .u8 0, .int .u8 0, .int .u8 0, .int .u8 0, .int .u8 0, .int .u8 0, .int .u8 0, .int .u8 0, .int .u8 0, .int .u8 0, .int .u8 0, .int .u8 0, .int .u8 0, .int .u8 0, .int .u8 0, .int .u8 0, .int .u8 0, .int .u8 0, .int .u8 0, .int .u8 0, .int .u8 0, .int .u8 0, .int .u8 0, .int .u8 0, .int .u8 0, .int .u8 0, .int .u8 0, .int .u8 0, .int .u8 0, .int .u8 0, .int .u8 0, .int .u8 0, .int .u8 0, .int .u8 0, .int .u8 0, .int .u8 0, .int .u8 0, .int .u8 0, .int .u8 0, .int .u8 0, .int .u8 0, .int .u8 0, .int .u8 0, .int .u8 0, .int .u8 0, .int .u8 0, .int .u8 0, .int .u8 0, .int .u8 0, .int .u8 0, .int .u8 0, .int .u8 0, .int .u8 0, .int .u8 0, .int .u8 0, .int .u8 0, .int .u8 0, .int .u8 0, .int .u8 0, .int .u8 0, .int .u8 0, .int .u8 0, .int .u8 0, .int .u8 0, .int .u8 0, .int .u8 0, .int .u8 0, .int .u8 0, .int .u8 0, .int .u8 0, .int .u8 0, .int .u8 0, .int .u8 0, .int .u8 0, .int .u8 0, .int .u8 0, .int .u8 0, .int .u8 0, .int .u8 0, .int .u8 0, .int .u8 0, .int .u8 0, .int .u8 0, .int .u8 0, .int .u8 0, .int .u8 0, .int .u8 0, .int .u8 0, .int .u8 0, .int .u8 0, .int .u8 0, .int .u8 0, .int .u8 0, .int .u8 0, .int .u8 0, .int .u8 0, .int .u8 0, .int .u8 0, .int .u8 0, .int .u8 0, .int .u8 0, .int .u8 0, .int .u8 0, .int .u8 0, .int .u8 0, .int .u8 0, .int .u8 0, .int .u8 0, .int .u8 0, .int .u8 0, .int .u8 0, .int .u8 0, .int .u8 0, .int .u8 0, .int .u8 0, .int .u8 0, .int .u8 0, .int .u8 0, .int .u8 0, .int .u8 0, .int .u8 0, .int .u8 0, .int .u8 0, .int .u8 0, .int .u8 0, .int .u8 0, .int .u8 0, .int .u8 0, .int .u8 0, .int .u8 0, .int .u8 0, .int .u8 0, .int .u8 0, .int .u8 0, .int .u8 0, .int .u8 0], true⟩),
  (244, ⟨.strct [(5, 0), (5, 1)], 2, 2, .agg [.int .u8 0, .int .u8 0], true⟩),
  (245, ⟨.strct [(5, 0), (5, 1)], 2, 2, .agg [.int .u8 0, .int .u8 0], true⟩),
  (246, ⟨.arr 16 245, 32, 32, .arr 16 2 [.agg [.int .u8 0, .int .u8 0], .agg [.int .u8 0, .int .u8 0], .agg [.int .u8 0, .int .u8 0], .agg [.int .u8 0, .int .u8 0], .agg [.int .u8 0, .int .u8 0], .agg [.int .u8 0, .int .u8 0], .agg [.int .u8 0, .int .u8 0], .agg [.int .u8 0, .int .u8 0], .agg [.int .u8 0, .int .u8 0], .agg [.int .u8 0, .int .u8 0], .agg [.int .u8 0, .int .u8 0], .agg [.int .u8 0, .int .u8 0], .agg [.int .u8 0, .int .u8 0], .agg [.int .u8 0, .int .u8 0], .agg [.int .u8 0, .int .u8 0], .agg [.int .u8 0, .int .u8 0]], true⟩),
  (247, ⟨.fn, 1, 8, .nilf, false⟩),
  (249, ⟨.fn, 1, 8, .nilf, false⟩),
  (250, ⟨.fn, 1, 8, .nilf, false⟩),
  (251, ⟨.fn, 1, 8, .nilf, false⟩),
  (252, ⟨.fn, 1, 8, .nilf, false⟩),
  (253, ⟨.fn, 1, 8, .nilf, false⟩),
  (254, ⟨.fn, 1, 8, .nilf, false⟩),
  (255, ⟨.fn, 1, 8, .nilf, false⟩),
  (256, ⟨.fn, 1, 8, .nilf, false⟩),
  (257, ⟨.fn, 1, 8, .nilf, false⟩),
  (258, ⟨.fn, 1, 8, .nilf, false⟩),
  (259, ⟨.fn, 1, 8, .nilf, false⟩),
  (261, ⟨.fn, 1, 8, .nilf, false⟩),
  (263, ⟨.fn, 1, 8, .nilf, false⟩),
  (264, ⟨.fn, 1, 8, .nilf, false⟩),
  (265, ⟨.fn, 1, 8, .nilf, false⟩),
  (266, ⟨.fn, 1, 8, .nilf, false⟩),
  (267, ⟨.fn, 1, 8, .nilf, false⟩),
  (268, ⟨.sl 54, 1, 24, .nils, false⟩),
  (270, ⟨.fn, 1, 8, .nilf, false⟩),
  (271, ⟨.fn, 1, 8, .nilf, false⟩),
  (272, ⟨.fn, 1, 8, .nilf, false⟩),
  (273, ⟨.fn, 1, 8, .nilf, false⟩),
  (275, ⟨.fn, 1, 8, .nilf, false⟩),
  (276, ⟨.fn, 1, 8, .nilf, false⟩),
  (277, ⟨.fn, 1, 8, .nilf, false⟩),
  (278, ⟨.fn, 1, 8, .nilf, false⟩),
  (279, ⟨.mp 2 2, 1, 8, .any, false⟩),
  (280, ⟨.arr 10 9, 10, 160, .arr 10 1 [.str [], .str [], .str [], .str [], .str [], .str [], .str [], .str [], .str [], .str []], true⟩),
  (281, ⟨.fn, 1, 8, .nilf, false⟩),
  (282, ⟨.arr 5 2, 5, 40, .arr 5 1 [.int .i64 0, .int .i64 0, .int .i64 0, .int .i64 0, .int .i64 0], true⟩),
  (283, ⟨.fn, 1, 8, .nilf, false⟩),
  (284, ⟨.fn, 1, 8, .nilf, false⟩),
  (285, ⟨.sl 56, 1, 24, .nils, false⟩),
  (286, ⟨.fn, 1, 8, .nilf, false⟩),
  (287, ⟨.fn, 1, 8, .nilf, false⟩),
  (288, ⟨.fn, 1, 8, .nilf, false⟩),
  (289, ⟨.fn, 1, 8, .nilf, false⟩),
  (290, ⟨.fn, 1, 8, .nilf, false⟩),
  (291, ⟨.fn, 1, 8, .nilf, false⟩),
  (292, ⟨.fn, 1, 8, .nilf, false⟩),
  (293, ⟨.fn, 1, 8, .nilf, false⟩),
  (294, ⟨.int .i64, 1, 8, .int .i64 0, false⟩),
  (296, ⟨.fn, 1, 8, .nilf, false⟩),
  (297, ⟨.fn, 1, 8, .nilf, false⟩),
  (298, ⟨.fn, 1, 8, .nilf, false⟩),
  (299, ⟨.arr 33 292, 33, 264, .arr 33 1 [.nilf, .nilf, .nilf, .nilf, .nilf, .nilf, .nilf, .nilf, .nilf, .nilf, .nilf, .nilf, .nilf, .nilf, .nilf, .nilf, .nilf, .nilf, .nilf, .nilf, .nilf, .nilf, .nilf, .nilf, .nilf, .nilf, .nilf, .nilf, .nilf, .nilf, .nilf, .nilf, .nilf], true⟩),
  (301, ⟨.fn, 1, 8, .nilf, false⟩),
  (302, ⟨.fn, 1, 8, .nilf, false⟩),
  (303, ⟨.fn, 1, 8, .nilf, false⟩),
  (304, ⟨.fn, 1, 8, .nilf, false⟩),
  (305, ⟨.fn, 1, 8, .nilf, false⟩),
  (306, ⟨.strct [(17, 0), (17, 1), (17, 2), (9, 3)], 4, 40, .agg [.nilp, .nilp, .nilp, .str []], false⟩),
  (307, ⟨.strct [(17, 0), (17, 1), (17, 2), (9, 3)], 4, 40, .agg [.nilp, .nilp, .nilp, .str []], false⟩),
  (308, ⟨.arr 0 16, 0, 0, .arr 0 1 [], true⟩),
  (309, ⟨.strct [(308, 0)], 0, 0, .agg [.arr 0 1 []], false⟩),
  (310, ⟨.strct [(308, 0)], 0, 0, .agg [.arr 0 1 []], false⟩),
  (311, ⟨.fn, 1, 8, .nilf, false⟩),
  (312, ⟨.int .u8, 1, 1, .int .u8 0, false⟩),
  (313, ⟨.int .u8, 1, 1, .int .u8 0, false⟩),
  (314, ⟨.fn, 1, 8, .nilf, false⟩),
  (315, ⟨.ptr 5, 1, 8, .nilp, false⟩),
  (316, ⟨.int .i32, 1, 4, .int .i32 0, false⟩),
  (317, ⟨.int .i32, 1, 4, .int .i32 0, false⟩),
  (318, ⟨.strct [(12, 0), (12, 1), (194, 2), (312, 3), (5, 4), (5, 5), (313, 6), (314, 7), (315, 8), (316, 9), (317, 10)], 11, 48, .agg [.int .u64 0, .int .u64 0, .int .u32 0, .int .u8 0, .int .u8 0, .int .u8 0, .int .u8 0, .nilf, .nilp, .int .i32 0, .int .i32 0], false⟩),
  (319, ⟨.strct [(12, 0), (12, 1), (194, 2), (312, 3), (5, 4), (5, 5), (313, 6), (314, 7), (315, 8), (316, 9), (317, 10)], 11, 48, .agg [.int .u64 0, .int .u64 0, .int .u32 0, .int .u8 0, .int .u8 0, .int .u8 0, .int .u8 0, .nilf, .nilp, .int .i32 0, .int .i32 0], false⟩)]
set_option maxRecDepth 100000 in
theorem tt_ok : ttB Tryz.prog tt = true := by kernel_rfl
theorem mixed : Tryz.prog.follows .mixedOrders = true := by kernel_rfl
abbrev F.invigilatorlaw32_PairsKnown : Nat := 4
abbrev F.invigilatorlaw32_awake : Nat := 7
abbrev F.pairs_each_int_ : Nat := 49
abbrev F.slices_DeleteFunc___int_int_ : Nat := 52
abbrev F.policy_Check : Nat := 55
abbrev F.slices_IndexFunc___int_int_ : Nat := 73
abbrev F.lattice_Check : Nat := 94
abbrev F.slices_Clone___int_int_ : Nat := 96
abbrev F.slices_SortFunc___int_int_ : Nat := 97
abbrev F.labels_compare : Nat := 99
abbrev F.slices_Compact___int_int_ : Nat := 100
abbrev F.slices_pdqsortCmpFunc_int_ : Nat := 122
abbrev F._policy_names__meet : Nat := 124
abbrev F.slices_insertionSortCmpFunc_int_ : Nat := 139
abbrev F.prims_table : Nat := 176
abbrev F._Plexer_reader__class : Nat := 177
abbrev F._Plexer_reader__while : Nat := 178
abbrev F.prims_errs : Nat := 186
abbrev F.prims_pair : Nat := 198
noncomputable def ft : List (Nat × Func) := [(2, Tryz.f2), (3, Tryz.f3), (4, Tryz.f4), (5, Tryz.f5), (6, Tryz.f6), (7, Tryz.f7), (8, Tryz.f8), (9, Tryz.f9), (10, Tryz.f10), (11, Tryz.f11), (12, Tryz.f12), (13, Tryz.f13), (14, Tryz.f14), (15, Tryz.f15), (16, Tryz.f16), (17, Tryz.f17), (18, Tryz.f18), (19, Tryz.f19), (20, Tryz.f20), (21, Tryz.f21), (22, Tryz.f22), (23, Tryz.f23), (24, Tryz.f24), (25, Tryz.f25), (26, Tryz.f26), (27, Tryz.f27), (28, Tryz.f28), (29, Tryz.f29), (30, Tryz.f30), (31, Tryz.f31), (32, Tryz.f32), (33, Tryz.f33), (34, Tryz.f34), (35, Tryz.f35), (36, Tryz.f36), (37, Tryz.f37), (38, Tryz.f38), (39, Tryz.f39), (40, Tryz.f40), (41, Tryz.f41), (42, Tryz.f42), (43, Tryz.f43), (44, Tryz.f44), (45, Tryz.f45), (46, Tryz.f46), (47, Tryz.f47), (48, Tryz.f48), (49, Tryz.f49), (50, Tryz.f50), (51, Tryz.f51), (52, Tryz.f52), (53, Tryz.f53), (54, Tryz.f54), (55, Tryz.f55), (56, Tryz.f56), (57, Tryz.f57), (58, Tryz.f58), (59, Tryz.f59), (60, Tryz.f60), (61, Tryz.f61), (62, Tryz.f62), (63, Tryz.f63), (64, Tryz.f64), (65, Tryz.f65), (66, Tryz.f66), (67, Tryz.f67), (68, Tryz.f68), (69, Tryz.f69), (70, Tryz.f70), (71, Tryz.f71), (72, Tryz.f72), (73, Tryz.f73), (74, Tryz.f74), (75, Tryz.f75), (76, Tryz.f76), (77, Tryz.f77), (78, Tryz.f78), (79, Tryz.f79), (80, Tryz.f80), (81, Tryz.f81), (82, Tryz.f82), (83, Tryz.f83), (84, Tryz.f84), (85, Tryz.f85), (86, Tryz.f86), (87, Tryz.f87), (88, Tryz.f88), (89, Tryz.f89), (90, Tryz.f90), (91, Tryz.f91), (92, Tryz.f92), (93, Tryz.f93), (94, Tryz.f94), (95, Tryz.f95), (96, Tryz.f96), (97, Tryz.f97), (98, Tryz.f98), (99, Tryz.f99), (100, Tryz.f100), (101, Tryz.f101), (102, Tryz.f102), (103, Tryz.f103), (104, Tryz.f104), (105, Tryz.f105), (106, Tryz.f106), (107, Tryz.f107), (108, Tryz.f108), (109, Tryz.f109), (110, Tryz.f110), (111, Tryz.f111), (112, Tryz.f112), (113, Tryz.f113), (114, Tryz.f114), (115, Tryz.f115), (116, Tryz.f116), (117, Tryz.f117), (118, Tryz.f118), (119, Tryz.f119), (120, Tryz.f120), (121, Tryz.f121), (122, Tryz.f122), (123, Tryz.f123), (124, Tryz.f124), (125, Tryz.f125), (126, Tryz.f126), (127, Tryz.f127), (128, Tryz.f128), (129, Tryz.f129), (130, Tryz.f130), (131, Tryz.f131), (132, Tryz.f132), (133, Tryz.f133), (134, Tryz.f134), (135, Tryz.f135), (136, Tryz.f136), (137, Tryz.f137), (138, Tryz.f138), (139, Tryz.f139), (140, Tryz.f140), (141, Tryz.f141), (142, Tryz.f142), (143, Tryz.f143), (144, Tryz.f144), (145, Tryz.f145), (146, Tryz.f146), (147, Tryz.f147), (148, Tryz.f148), (149, Tryz.f149), (150, Tryz.f150), (151, Tryz.f151), (152, Tryz.f152), (153, Tryz.f153), (154, Tryz.f154), (155, Tryz.f155), (156, Tryz.f156), (157, Tryz.f157), (158, Tryz.f158), (159, Tryz.f159), (160, Tryz.f160), (161, Tryz.f161), (162, Tryz.f162), (163, Tryz.f163), (164, Tryz.f164), (165, Tryz.f165), (166, Tryz.f166), (167, Tryz.f167), (168, Tryz.f168), (169, Tryz.f169), (170, Tryz.f170), (171, Tryz.f171), (172, Tryz.f172), (173, Tryz.f173), (174, Tryz.f174), (175, Tryz.f175), (176, Tryz.f176), (177, Tryz.f177), (178, Tryz.f178), (179, Tryz.f179), (180, Tryz.f180), (181, Tryz.f181), (182, Tryz.f182), (183, Tryz.f183), (184, Tryz.f184), (185, Tryz.f185), (186, Tryz.f186), (187, Tryz.f187), (188, Tryz.f188), (189, Tryz.f189), (191, Tryz.f191), (192, Tryz.f192), (193, Tryz.f193), (194, Tryz.f194), (195, Tryz.f195), (196, Tryz.f196), (197, Tryz.f197), (199, Tryz.f199), (200, Tryz.f200), (201, Tryz.f201), (202, Tryz.f202), (203, Tryz.f203), (204, Tryz.f204), (205, Tryz.f205), (206, Tryz.f206), (207, Tryz.f207), (208, Tryz.f208), (209, Tryz.f209), (210, Tryz.f210), (211, Tryz.f211), (212, Tryz.f212), (213, Tryz.f213), (214, Tryz.f214), (215, Tryz.f215), (216, Tryz.f216), (217, Tryz.f217), (218, Tryz.f218), (219, Tryz.f219), (220, Tryz.f220), (221, Tryz.f221), (222, Tryz.f222), (223, Tryz.f223), (224, Tryz.f224), (225, Tryz.f225), (226, Tryz.f226), (227, Tryz.f227), (228, Tryz.f228), (229, Tryz.f229), (230, Tryz.f230), (231, Tryz.f231), (232, Tryz.f232), (233, Tryz.f233), (234, Tryz.f234), (235, Tryz.f235), (237, Tryz.f237), (238, Tryz.f238), (239, Tryz.f239), (240, Tryz.f240), (241, Tryz.f241), (242, Tryz.f242), (243, Tryz.f243), (244, Tryz.f244), (246, Tryz.f246), (247, Tryz.f247), (248, Tryz.f248), (249, Tryz.f249), (250, Tryz.f250), (251, Tryz.f251), (252, Tryz.f252), (253, Tryz.f253), (254, Tryz.f254), (255, Tryz.f255), (256, Tryz.f256), (257, Tryz.f257), (258, Tryz.f258), (260, Tryz.f260), (261, Tryz.f261), (262, Tryz.f262), (263, Tryz.f263), (264, Tryz.f264), (265, Tryz.f265), (266, Tryz.f266), (267, Tryz.f267), (268, Tryz.f268), (269, Tryz.f269), (270, Tryz.f270), (271, Tryz.f271), (272, Tryz.f272), (273, Tryz.f273), (274, Tryz.f274), (275, Tryz.f275), (276, Tryz.f276), (277, Tryz.f277), (278, Tryz.f278), (279, Tryz.f279), (280, Tryz.f280), (281, Tryz.f281), (282, Tryz.f282), (283, Tryz.f283), (284, Tryz.f284), (300, Tryz.f300), (311, Tryz.f311)]
set_option maxRecDepth 100000 in
theorem ft_ok : ftOK Tryz.prog ft := ⟨⟨Tryz.func2, by kernel_rfl⟩, ⟨Tryz.func3, by kernel_rfl⟩, ⟨Tryz.func4, by kernel_rfl⟩, ⟨Tryz.func5, by kernel_rfl⟩, ⟨Tryz.func6, by kernel_rfl⟩, ⟨Tryz.func7, by kernel_rfl⟩, ⟨Tryz.func8, by kernel_rfl⟩, ⟨Tryz.func9, by kernel_rfl⟩, ⟨Tryz.func10, by kernel_rfl⟩, ⟨Tryz.func11, by kernel_rfl⟩, ⟨Tryz.func12, by kernel_rfl⟩, ⟨Tryz.func13, by kernel_rfl⟩, ⟨Tryz.func14, by kernel_rfl⟩, ⟨Tryz.func15, by kernel_rfl⟩, ⟨Tryz.func16, by kernel_rfl⟩, ⟨Tryz.func17, by kernel_rfl⟩, ⟨Tryz.func18, by kernel_rfl⟩, ⟨Tryz.func19, by kernel_rfl⟩, ⟨Tryz.func20, by kernel_rfl⟩, ⟨Tryz.func21, by kernel_rfl⟩, ⟨Tryz.func22, by kernel_rfl⟩, ⟨Tryz.func23, by kernel_rfl⟩, ⟨Tryz.func24, by kernel_rfl⟩, ⟨Tryz.func25, by kernel_rfl⟩, ⟨Tryz.func26, by kernel_rfl⟩, ⟨Tryz.func27, by kernel_rfl⟩, ⟨Tryz.func28, by kernel_rfl⟩, ⟨Tryz.func29, by kernel_rfl⟩, ⟨Tryz.func30, by kernel_rfl⟩, ⟨Tryz.func31, by kernel_rfl⟩, ⟨Tryz.func32, by kernel_rfl⟩, ⟨Tryz.func33, by kernel_rfl⟩, ⟨Tryz.func34, by kernel_rfl⟩, ⟨Tryz.func35, by kernel_rfl⟩, ⟨Tryz.func36, by kernel_rfl⟩, ⟨Tryz.func37, by kernel_rfl⟩, ⟨Tryz.func38, by kernel_rfl⟩, ⟨Tryz.func39, by kernel_rfl⟩, ⟨Tryz.func40, by kernel_rfl⟩, ⟨Tryz.func41, by kernel_rfl⟩, ⟨Tryz.func42, by kernel_rfl⟩, ⟨Tryz.func43, by kernel_rfl⟩, ⟨Tryz.func44, by kernel_rfl⟩, ⟨Tryz.func45, by kernel_rfl⟩, ⟨Tryz.func46, by kernel_rfl⟩, ⟨Tryz.func47, by kernel_rfl⟩, ⟨Tryz.func48, by kernel_rfl⟩, ⟨Tryz.func49, by kernel_rfl⟩, ⟨Tryz.func50, by kernel_rfl⟩, ⟨Tryz.func51, by kernel_rfl⟩, ⟨Tryz.func52, by kernel_rfl⟩, ⟨Tryz.func53, by kernel_rfl⟩, ⟨Tryz.func54, by kernel_rfl⟩, ⟨Tryz.func55, by kernel_rfl⟩, ⟨Tryz.func56, by kernel_rfl⟩, ⟨Tryz.func57, by kernel_rfl⟩, ⟨Tryz.func58, by kernel_rfl⟩, ⟨Tryz.func59, by kernel_rfl⟩, ⟨Tryz.func60, by kernel_rfl⟩, ⟨Tryz.func61, by kernel_rfl⟩, ⟨Tryz.func62, by kernel_rfl⟩, ⟨Tryz.func63, by kernel_rfl⟩, ⟨Tryz.func64, by kernel_rfl⟩, ⟨Tryz.func65, by kernel_rfl⟩, ⟨Tryz.func66, by kernel_rfl⟩, ⟨Tryz.func67, by kernel_rfl⟩, ⟨Tryz.func68, by kernel_rfl⟩, ⟨Tryz.func69, by kernel_rfl⟩, ⟨Tryz.func70, by kernel_rfl⟩, ⟨Tryz.func71, by kernel_rfl⟩, ⟨Tryz.func72, by kernel_rfl⟩, ⟨Tryz.func73, by kernel_rfl⟩, ⟨Tryz.func74, by kernel_rfl⟩, ⟨Tryz.func75, by kernel_rfl⟩, ⟨Tryz.func76, by kernel_rfl⟩, ⟨Tryz.func77, by kernel_rfl⟩, ⟨Tryz.func78, by kernel_rfl⟩, ⟨Tryz.func79, by kernel_rfl⟩, ⟨Tryz.func80, by kernel_rfl⟩, ⟨Tryz.func81, by kernel_rfl⟩, ⟨Tryz.func82, by kernel_rfl⟩, ⟨Tryz.func83, by kernel_rfl⟩, ⟨Tryz.func84, by kernel_rfl⟩, ⟨Tryz.func85, by kernel_rfl⟩, ⟨Tryz.func86, by kernel_rfl⟩, ⟨Tryz.func87, by kernel_rfl⟩, ⟨Tryz.func88, by kernel_rfl⟩, ⟨Tryz.func89, by kernel_rfl⟩, ⟨Tryz.func90, by kernel_rfl⟩, ⟨Tryz.func91, by kernel_rfl⟩, ⟨Tryz.func92, by kernel_rfl⟩, ⟨Tryz.func93, by kernel_rfl⟩, ⟨Tryz.func94, by kernel_rfl⟩, ⟨Tryz.func95, by kernel_rfl⟩, ⟨Tryz.func96, by kernel_rfl⟩, ⟨Tryz.func97, by kernel_rfl⟩, ⟨Tryz.func98, by kernel_rfl⟩, ⟨Tryz.func99, by kernel_rfl⟩, ⟨Tryz.func100, by kernel_rfl⟩, ⟨Tryz.func101, by kernel_rfl⟩, ⟨Tryz.func102, by kernel_rfl⟩, ⟨Tryz.func103, by kernel_rfl⟩, ⟨Tryz.func104, by kernel_rfl⟩, ⟨Tryz.func105, by kernel_rfl⟩, ⟨Tryz.func106, by kernel_rfl⟩, ⟨Tryz.func107, by kernel_rfl⟩, ⟨Tryz.func108, by kernel_rfl⟩, ⟨Tryz.func109, by kernel_rfl⟩, ⟨Tryz.func110, by kernel_rfl⟩, ⟨Tryz.func111, by kernel_rfl⟩, ⟨Tryz.func112, by kernel_rfl⟩, ⟨Tryz.func113, by kernel_rfl⟩, ⟨Tryz.func114, by kernel_rfl⟩, ⟨Tryz.func115, by kernel_rfl⟩, ⟨Tryz.func116, by kernel_rfl⟩, ⟨Tryz.func117, by kernel_rfl⟩, ⟨Tryz.func118, by kernel_rfl⟩, ⟨Tryz.func119, by kernel_rfl⟩, ⟨Tryz.func120, by kernel_rfl⟩, ⟨Tryz.func121, by kernel_rfl⟩, ⟨Tryz.func122, by kernel_rfl⟩, ⟨Tryz.func123, by kernel_rfl⟩, ⟨Tryz.func124, by kernel_rfl⟩, ⟨Tryz.func125, by kernel_rfl⟩, ⟨Tryz.func126, by kernel_rfl⟩, ⟨Tryz.func127, by kernel_rfl⟩, ⟨Tryz.func128, by kernel_rfl⟩, ⟨Tryz.func129, by kernel_rfl⟩, ⟨Tryz.func130, by kernel_rfl⟩, ⟨Tryz.func131, by kernel_rfl⟩, ⟨Tryz.func132, by kernel_rfl⟩, ⟨Tryz.func133, by kernel_rfl⟩, ⟨Tryz.func134, by kernel_rfl⟩, ⟨Tryz.func135, by kernel_rfl⟩, ⟨Tryz.func136, by kernel_rfl⟩, ⟨Tryz.func137, by kernel_rfl⟩, ⟨Tryz.func138, by kernel_rfl⟩, ⟨Tryz.func139, by kernel_rfl⟩, ⟨Tryz.func140, by kernel_rfl⟩, ⟨Tryz.func141, by kernel_rfl⟩, ⟨Tryz.func142, by kernel_rfl⟩, ⟨Tryz.func143, by kernel_rfl⟩, ⟨Tryz.func144, by kernel_rfl⟩, ⟨Tryz.func145, by kernel_rfl⟩, ⟨Tryz.func146, by kernel_rfl⟩, ⟨Tryz.func147, by kernel_rfl⟩, ⟨Tryz.func148, by kernel_rfl⟩, ⟨Tryz.func149, by kernel_rfl⟩, ⟨Tryz.func150, by kernel_rfl⟩, ⟨Tryz.func151, by kernel_rfl⟩, ⟨Tryz.func152, by kernel_rfl⟩, ⟨Tryz.func153, by kernel_rfl⟩, ⟨Tryz.func154, by kernel_rfl⟩, ⟨Tryz.func155, by kernel_rfl⟩, ⟨Tryz.func156, by kernel_rfl⟩, ⟨Tryz.func157, by kernel_rfl⟩, ⟨Tryz.func158, by kernel_rfl⟩, ⟨Tryz.func159, by kernel_rfl⟩, ⟨Tryz.func160, by kernel_rfl⟩, ⟨Tryz.func161, by kernel_rfl⟩, ⟨Tryz.func162, by kernel_rfl⟩, ⟨Tryz.func163, by kernel_rfl⟩, ⟨Tryz.func164, by kernel_rfl⟩, ⟨Tryz.func165, by kernel_rfl⟩, ⟨Tryz.func166, by kernel_rfl⟩, ⟨Tryz.func167, by kernel_rfl⟩, ⟨Tryz.func168, by kernel_rfl⟩, ⟨Tryz.func169, by kernel_rfl⟩, ⟨Tryz.func170, by kernel_rfl⟩, ⟨Tryz.func171, by kernel_rfl⟩, ⟨Tryz.func172, by kernel_rfl⟩, ⟨Tryz.func173, by kernel_rfl⟩, ⟨Tryz.func174, by kernel_rfl⟩, ⟨Tryz.func175, by kernel_rfl⟩, ⟨Tryz.func176, by kernel_rfl⟩, ⟨Tryz.func177, by kernel_rfl⟩, ⟨Tryz.func178, by kernel_rfl⟩, ⟨Tryz.func179, by kernel_rfl⟩, ⟨Tryz.func180, by kernel_rfl⟩, ⟨Tryz.func181, by kernel_rfl⟩, ⟨Tryz.func182, by kernel_rfl⟩, ⟨Tryz.func183, by kernel_rfl⟩, ⟨Tryz.func184, by kernel_rfl⟩, ⟨Tryz.func185, by kernel_rfl⟩, ⟨Tryz.func186, by kernel_rfl⟩, ⟨Tryz.func187, by kernel_rfl⟩, ⟨Tryz.func188, by kernel_rfl⟩, ⟨Tryz.func189, by kernel_rfl⟩, ⟨Tryz.func191, by kernel_rfl⟩, ⟨Tryz.func192, by kernel_rfl⟩, ⟨Tryz.func193, by kernel_rfl⟩, ⟨Tryz.func194, by kernel_rfl⟩, ⟨Tryz.func195, by kernel_rfl⟩, ⟨Tryz.func196, by kernel_rfl⟩, ⟨Tryz.func197, by kernel_rfl⟩, ⟨Tryz.func199, by kernel_rfl⟩, ⟨Tryz.func200, by kernel_rfl⟩, ⟨Tryz.func201, by kernel_rfl⟩, ⟨Tryz.func202, by kernel_rfl⟩, ⟨Tryz.func203, by kernel_rfl⟩, ⟨Tryz.func204, by kernel_rfl⟩, ⟨Tryz.func205, by kernel_rfl⟩, ⟨Tryz.func206, by kernel_rfl⟩, ⟨Tryz.func207, by kernel_rfl⟩, ⟨Tryz.func208, by kernel_rfl⟩, ⟨Tryz.func209, by kernel_rfl⟩, ⟨Tryz.func210, by kernel_rfl⟩, ⟨Tryz.func211, by kernel_rfl⟩, ⟨Tryz.func212, by kernel_rfl⟩, ⟨Tryz.func213, by kernel_rfl⟩, ⟨Tryz.func214, by kernel_rfl⟩, ⟨Tryz.func215, by kernel_rfl⟩, ⟨Tryz.func216, by kernel_rfl⟩, ⟨Tryz.func217, by kernel_rfl⟩, ⟨Tryz.func218, by kernel_rfl⟩, ⟨Tryz.func219, by kernel_rfl⟩, ⟨Tryz.func220, by kernel_rfl⟩, ⟨Tryz.func221, by kernel_rfl⟩, ⟨Tryz.func222, by kernel_rfl⟩, ⟨Tryz.func223, by kernel_rfl⟩, ⟨Tryz.func224, by kernel_rfl⟩, ⟨Tryz.func225, by kernel_rfl⟩, ⟨Tryz.func226, by kernel_rfl⟩, ⟨Tryz.func227, by kernel_rfl⟩, ⟨Tryz.func228, by kernel_rfl⟩, ⟨Tryz.func229, by kernel_rfl⟩, ⟨Tryz.func230, by kernel_rfl⟩, ⟨Tryz.func231, by kernel_rfl⟩, ⟨Tryz.func232, by kernel_rfl⟩, ⟨Tryz.func233, by kernel_rfl⟩, ⟨Tryz.func234, by kernel_rfl⟩, ⟨Tryz.func235, by kernel_rfl⟩, ⟨Tryz.func237, by kernel_rfl⟩, ⟨Tryz.func238, by kernel_rfl⟩, ⟨Tryz.func239, by kernel_rfl⟩, ⟨Tryz.func240, by kernel_rfl⟩, ⟨Tryz.func241, by kernel_rfl⟩, ⟨Tryz.func242, by kernel_rfl⟩, ⟨Tryz.func243, by kernel_rfl⟩, ⟨Tryz.func244, by kernel_rfl⟩, ⟨Tryz.func246, by kernel_rfl⟩, ⟨Tryz.func247, by kernel_rfl⟩, ⟨Tryz.func248, by kernel_rfl⟩, ⟨Tryz.func249, by kernel_rfl⟩, ⟨Tryz.func250, by kernel_rfl⟩, ⟨Tryz.func251, by kernel_rfl⟩, ⟨Tryz.func252, by kernel_rfl⟩, ⟨Tryz.func253, by kernel_rfl⟩, ⟨Tryz.func254, by kernel_rfl⟩, ⟨Tryz.func255, by kernel_rfl⟩, ⟨Tryz.func256, by kernel_rfl⟩, ⟨Tryz.func257, by kernel_rfl⟩, ⟨Tryz.func258, by kernel_rfl⟩, ⟨Tryz.func260, by kernel_rfl⟩, ⟨Tryz.func261, by kernel_rfl⟩, ⟨Tryz.func262, by kernel_rfl⟩, ⟨Tryz.func263, by kernel_rfl⟩, ⟨Tryz.func264, by kernel_rfl⟩, ⟨Tryz.func265, by kernel_rfl⟩, ⟨Tryz.func266, by kernel_rfl⟩, ⟨Tryz.func267, by kernel_rfl⟩, ⟨Tryz.func268, by kernel_rfl⟩, ⟨Tryz.func269, by kernel_rfl⟩, ⟨Tryz.func270, by kernel_rfl⟩, ⟨Tryz.func271, by kernel_rfl⟩, ⟨Tryz.func272, by kernel_rfl⟩, ⟨Tryz.func273, by kernel_rfl⟩, ⟨Tryz.func274, by kernel_rfl⟩, ⟨Tryz.func275, by kernel_rfl⟩, ⟨Tryz.func276, by kernel_rfl⟩, ⟨Tryz.func277, by kernel_rfl⟩, ⟨Tryz.func278, by kernel_rfl⟩, ⟨Tryz.func279, by kernel_rfl⟩, ⟨Tryz.func280, by kernel_rfl⟩, ⟨Tryz.func281, by kernel_rfl⟩, ⟨Tryz.func282, by kernel_rfl⟩, ⟨Tryz.func283, by kernel_rfl⟩, ⟨Tryz.func284, by kernel_rfl⟩, ⟨Tryz.func300, by kernel_rfl⟩, ⟨Tryz.func311, by kernel_rfl⟩, trivial⟩
open Go.RowKit (Below)
noncomputable def gl : List (Nat × SV) := [(0, .sl 1 [.str [105, 110, 105, 110], .str [105, 48, 105, 110, 105, 110], .str [105, 110, 105, 48, 105, 110], .str [105, 110, 105, 110, 105, 110]]), (1, .sl 1 [.str [107, 48, 107, 110, 105, 110], .str [107, 110, 107, 48, 105, 110], .str [107, 110, 107, 110, 105, 110]])]
theorem errs_ok (w : World) (u : Value) : Calls Tryz.prog F.prims_errs #[u] w fun e w' => e = .returned u ∧ Below w.heap.size w w' := by
  refine calls_of_wp Tryz.func186 rfl ?_
  have e0 : (#[u] ++ Array.replicate (Tryz.f186.ntmps - #[u].size) undef) = #[u, undef, undef, undef] := by
    simp [Tryz.f186, Array.replicate]
  rw [e0]
  refine wp_seq (wp_region ?_)
  simp [wpOps, Region.wanted, Oper.wp, execOp, Oper.upon_value, Act.put, Act.eval, Exit.then, List.range, List.range.loop]
  refine .inl (wp_seq (wp_region ?_))
  simp [wpOps, Region.wanted, Oper.wp, execOp, Oper.upon_value, Act.put, Act.eval, Exit.then, List.range, List.range.loop]
  refine .inl (.inl (wp_ret ?_))
  refine ⟨rfl, u, ?_, rfl, Below.refl _ _⟩
  simp [results, Tryz.f186]
noncomputable def E : Env := { P := Tryz.prog, tt := tt, gl := gl, lend := [F._Plexer_reader__class, F._Plexer_reader__while, F._policy_names__meet, F.pairs_each_int_, F.slices_DeleteFunc___int_int_, F.slices_SortFunc___int_int_, F.slices_pdqsortCmpFunc_int_, F.slices_insertionSortCmpFunc_int_, F.slices_Compact___int_int_, F.slices_Clone___int_int_, F.labels_compare, F.slices_IndexFunc___int_int_ + 11000000], idf := [F.prims_errs], mt := [(145, "invigilator/labels.less", 300)] }
theorem hidf : ∀ f, memb f [F.prims_errs] = true → Callable Tryz.prog f ∧ ∀ (w : World) (u : Value), Calls Tryz.prog f #[u] w fun e w' => e = .returned u ∧ Below w.heap.size w w' := by
  intro f hf
  have : f = F.prims_errs := by simpa using memb_mem.1 hf
  subst this
  exact ⟨⟨_, Tryz.func186, rfl, by decide +kernel⟩, errs_ok⟩
set_option maxRecDepth 100000 in
theorem mt_less (w : World) (v : Value) : (method (E.P.types.size + Made.depth) 145 v "invigilator/labels.less").run E.P w = .ok (300, v) w := by kernel_rfl
theorem mt_ok : ∀ T name f, lkM E.mt T name = some f → ∀ (w : World) (v : Value), (method (E.P.types.size + Made.depth) T v name).run E.P w = .ok (f, v) w := by
  intro T name f h w v
  have e : E.mt = [(145, "invigilator/labels.less", 300)] := rfl
  rw [e] at h
  unfold lkM at h
  split at h
  · rename_i h1 h2
    cases h
    have := beq_of h1; subst this
    have e2 : name = "invigilator/labels.less" := (of_decide_eq_true h2).symm
    subst e2
    exact mt_less w v
  · unfold lkM at h; cases h
theorem ok : EnvOK E := have h := envOK_of (gl := gl) (ld := []) tt_ok mixed hidf; ⟨h.tt', h.mixed, h.idf, mt_ok⟩
end Go.Sx.Tz
namespace Go.Sx.Tz
open Go Go.Proofs Go.Shelf
end Go.Sx.Tz
namespace Go.Sx.Tz
open Go.Proofs
set_option maxRecDepth 100000
theorem hkX_nil {E : Env} : ∀ f az r, lkX [] f az = some r → Ret E f az r := fun _ _ _ h => by cases h
theorem hkX_cons {E : Env} {g : Nat} {k : List SV → Rt} {l : List (Nat × (List SV → Rt))} (h : ∀ az r, k az = some r → Ret E g az r) (hl : ∀ f az r, lkX l f az = some r → Ret E f az r) :
    ∀ f az r, lkX ((g, k) :: l) f az = some r → Ret E f az r := by
  intro f az r hk
  simp only [lkX] at hk
  split at hk
  · rename_i e
    have := beq_of e; subst this
    exact h az r hk
  · exact hl f az r hk
noncomputable def E2 : Env := { E with lend := F.prims_errs :: E.lend }
theorem ok2 : EnvOK E2 := ⟨ok.tt', ok.mixed, ok.idf, ok.mt⟩
theorem ret1 {f : FuncId} {l : List SV} {r : SV} (h : Ret E2 f l r) : Ret E f l r := h
noncomputable def ft2 : List (Nat × Func) := [(198, Tryz.f198), (186, Tryz.f186)]
theorem ft2_ok : ftOK Tryz.prog ft2 E2.lend := ⟨⟨Tryz.func198, by kernel_rfl⟩, ⟨Tryz.func186, by kernel_rfl⟩, trivial⟩
def A_pair_0 : List SV := [.str [97, 100, 100], .sl 1 [.int .i64 12]]
def C_pair_0 : SV := .agg [.str [97, 100, 100], .sl 1 [.str [105, 48, 105, 110, 105, 110], .str [105, 110, 105, 48, 105, 110], .str [105, 110, 105, 110, 105, 110]], .sl 1 [.int .i64 11, .int .i64 12], .nilf, .nilf]
theorem M_pair_0 : Ret E F.prims_pair A_pair_0 C_pair_0 := ret1 (ret_of_runL ok2 ft2_ok HkOK.no (show runD E2 ft2 Hk.no 1000 60 (.ret F.prims_pair A_pair_0) = some C_pair_0 by kernel_rfl))
def A_pair_1 : List SV := [.str [115, 117, 98], .sl 1 [.int .i64 12]]
def C_pair_1 : SV := .agg [.str [115, 117, 98], .sl 1 [.str [105, 48, 105, 110, 105, 110], .str [105, 110, 105, 48, 105, 110], .str [105, 110, 105, 110, 105, 110]], .sl 1 [.int .i64 11, .int .i64 12], .nilf, .nilf]
theorem M_pair_1 : Ret E F.prims_pair A_pair_1 C_pair_1 := ret1 (ret_of_runL ok2 ft2_ok HkOK.no (show runD E2 ft2 Hk.no 1000 60 (.ret F.prims_pair A_pair_1) = some C_pair_1 by kernel_rfl))
def A_pair_2 : List SV := [.str [109, 117, 108], .sl 1 [.int .i64 12]]
def C_pair_2 : SV := .agg [.str [109, 117, 108], .sl 1 [.str [105, 48, 105, 110, 105, 110], .str [105, 110, 105, 48, 105, 110], .str [105, 110, 105, 110, 105, 110]], .sl 1 [.int .i64 11, .int .i64 12], .nilf, .nilf]
theorem M_pair_2 : Ret E F.prims_pair A_pair_2 C_pair_2 := ret1 (ret_of_runL ok2 ft2_ok HkOK.no (show runD E2 ft2 Hk.no 1000 60 (.ret F.prims_pair A_pair_2) = some C_pair_2 by kernel_rfl))
def A_pair_3 : List SV := [.str [100, 105, 118], .sl 1 [.int .i64 12, .int .i64 13]]
def C_pair_3 : SV := .agg [.str [100, 105, 118], .sl 1 [.str [105, 48, 105, 110, 105, 110], .str [105, 110, 105, 48, 105, 110], .str [105, 110, 105, 110, 105, 110]], .sl 1 [.int .i64 11, .int .i64 12, .int .i64 13], .nilf, .nilf]
theorem M_pair_3 : Ret E F.prims_pair A_pair_3 C_pair_3 := ret1 (ret_of_runL ok2 ft2_ok HkOK.no (show runD E2 ft2 Hk.no 1000 60 (.ret F.prims_pair A_pair_3) = some C_pair_3 by kernel_rfl))
def A_pair_4 : List SV := [.str [109, 111, 100], .sl 1 [.int .i64 13]]
def C_pair_4 : SV := .agg [.str [109, 111, 100], .sl 1 [.str [105, 48, 105, 110, 105, 110], .str [105, 110, 105, 48, 105, 110], .str [105, 110, 105, 110, 105, 110]], .sl 1 [.int .i64 11, .int .i64 13], .nilf, .nilf]
theorem M_pair_4 : Ret E F.prims_pair A_pair_4 C_pair_4 := ret1 (ret_of_runL ok2 ft2_ok HkOK.no (show runD E2 ft2 Hk.no 1000 60 (.ret F.prims_pair A_pair_4) = some C_pair_4 by kernel_rfl))
def A_pair_5 : List SV := [.str [112, 108, 117, 115], .nils]
def C_pair_5 : SV := .agg [.str [112, 108, 117, 115], .sl 1 [.str [105, 48, 105, 110, 105, 110], .str [105, 110, 105, 48, 105, 110], .str [105, 110, 105, 110, 105, 110]], .sl 1 [.int .i64 11], .nilf, .nilf]
theorem M_pair_5 : Ret E F.prims_pair A_pair_5 C_pair_5 := ret1 (ret_of_runL ok2 ft2_ok HkOK.no (show runD E2 ft2 Hk.no 1000 60 (.ret F.prims_pair A_pair_5) = some C_pair_5 by kernel_rfl))
def A_pair_6 : List SV := [.str [109, 105, 110, 117, 115], .nils]
def C_pair_6 : SV := .agg [.str [109, 105, 110, 117, 115], .sl 1 [.str [105, 48, 105, 110, 105, 110], .str [105, 110, 105, 48, 105, 110], .str [105, 110, 105, 110, 105, 110]], .sl 1 [.int .i64 11], .nilf, .nilf]
theorem M_pair_6 : Ret E F.prims_pair A_pair_6 C_pair_6 := ret1 (ret_of_runL ok2 ft2_ok HkOK.no (show runD E2 ft2 Hk.no 1000 60 (.ret F.prims_pair A_pair_6) = some C_pair_6 by kernel_rfl))
def A_pair_7 : List SV := [.str [116, 105, 109, 101, 115], .nils]
def C_pair_7 : SV := .agg [.str [116, 105, 109, 101, 115], .sl 1 [.str [105, 48, 105, 110, 105, 110], .str [105, 110, 105, 48, 105, 110], .str [105, 110, 105, 110, 105, 110]], .sl 1 [.int .i64 11], .nilf, .nilf]
theorem M_pair_7 : Ret E F.prims_pair A_pair_7 C_pair_7 := ret1 (ret_of_runL ok2 ft2_ok HkOK.no (show runD E2 ft2 Hk.no 1000 60 (.ret F.prims_pair A_pair_7) = some C_pair_7 by kernel_rfl))
def A_pair_8 : List SV := [.str [108, 116], .nils]
def C_pair_8 : SV := .agg [.str [108, 116], .sl 1 [.str [105, 48, 105, 110, 105, 110], .str [105, 110, 105, 48, 105, 110], .str [105, 110, 105, 110, 105, 110]], .sl 1 [.int .i64 11], .nilf, .nilf]
theorem M_pair_8 : Ret E F.prims_pair A_pair_8 C_pair_8 := ret1 (ret_of_runL ok2 ft2_ok HkOK.no (show runD E2 ft2 Hk.no 1000 60 (.ret F.prims_pair A_pair_8) = some C_pair_8 by kernel_rfl))
def A_pair_9 : List SV := [.str [108, 101], .nils]
def C_pair_9 : SV := .agg [.str [108, 101], .sl 1 [.str [105, 48, 105, 110, 105, 110], .str [105, 110, 105, 48, 105, 110], .str [105, 110, 105, 110, 105, 110]], .sl 1 [.int .i64 11], .nilf, .nilf]
theorem M_pair_9 : Ret E F.prims_pair A_pair_9 C_pair_9 := ret1 (ret_of_runL ok2 ft2_ok HkOK.no (show runD E2 ft2 Hk.no 1000 60 (.ret F.prims_pair A_pair_9) = some C_pair_9 by kernel_rfl))
def A_pair_10 : List SV := [.str [103, 116], .nils]
def C_pair_10 : SV := .agg [.str [103, 116], .sl 1 [.str [105, 48, 105, 110, 105, 110], .str [105, 110, 105, 48, 105, 110], .str [105, 110, 105, 110, 105, 110]], .sl 1 [.int .i64 11], .nilf, .nilf]
theorem M_pair_10 : Ret E F.prims_pair A_pair_10 C_pair_10 := ret1 (ret_of_runL ok2 ft2_ok HkOK.no (show runD E2 ft2 Hk.no 1000 60 (.ret F.prims_pair A_pair_10) = some C_pair_10 by kernel_rfl))
def A_pair_11 : List SV := [.str [103, 101], .nils]
def C_pair_11 : SV := .agg [.str [103, 101], .sl 1 [.str [105, 48, 105, 110, 105, 110], .str [105, 110, 105, 48, 105, 110], .str [105, 110, 105, 110, 105, 110]], .sl 1 [.int .i64 11], .nilf, .nilf]
theorem M_pair_11 : Ret E F.prims_pair A_pair_11 C_pair_11 := ret1 (ret_of_runL ok2 ft2_ok HkOK.no (show runD E2 ft2 Hk.no 1000 60 (.ret F.prims_pair A_pair_11) = some C_pair_11 by kernel_rfl))
def A_pair_12 : List SV := [.str [97, 110, 100], .nils]
def C_pair_12 : SV := .agg [.str [97, 110, 100], .sl 1 [.str [105, 48, 105, 110, 105, 110], .str [105, 110, 105, 48, 105, 110], .str [105, 110, 105, 110, 105, 110]], .sl 1 [.int .i64 11], .nilf, .nilf]
theorem M_pair_12 : Ret E F.prims_pair A_pair_12 C_pair_12 := ret1 (ret_of_runL ok2 ft2_ok HkOK.no (show runD E2 ft2 Hk.no 1000 60 (.ret F.prims_pair A_pair_12) = some C_pair_12 by kernel_rfl))
def A_pair_13 : List SV := [.str [111, 114], .nils]
def C_pair_13 : SV := .agg [.str [111, 114], .sl 1 [.str [105, 48, 105, 110, 105, 110], .str [105, 110, 105, 48, 105, 110], .str [105, 110, 105, 110, 105, 110]], .sl 1 [.int .i64 11], .nilf, .nilf]
theorem M_pair_13 : Ret E F.prims_pair A_pair_13 C_pair_13 := ret1 (ret_of_runL ok2 ft2_ok HkOK.no (show runD E2 ft2 Hk.no 1000 60 (.ret F.prims_pair A_pair_13) = some C_pair_13 by kernel_rfl))
def A_pair_14 : List SV := [.str [109, 105, 110], .nils]
def C_pair_14 : SV := .agg [.str [109, 105, 110], .sl 1 [.str [105, 48, 105, 110, 105, 110], .str [105, 110, 105, 48, 105, 110], .str [105, 110, 105, 110, 105, 110]], .sl 1 [.int .i64 11], .nilf, .nilf]
theorem M_pair_14 : Ret E F.prims_pair A_pair_14 C_pair_14 := ret1 (ret_of_runL ok2 ft2_ok HkOK.no (show runD E2 ft2 Hk.no 1000 60 (.ret F.prims_pair A_pair_14) = some C_pair_14 by kernel_rfl))
def A_pair_15 : List SV := [.str [109, 97, 120], .nils]
def C_pair_15 : SV := .agg [.str [109, 97, 120], .sl 1 [.str [105, 48, 105, 110, 105, 110], .str [105, 110, 105, 48, 105, 110], .str [105, 110, 105, 110, 105, 110]], .sl 1 [.int .i64 11], .nilf, .nilf]
theorem M_pair_15 : Ret E F.prims_pair A_pair_15 C_pair_15 := ret1 (ret_of_runL ok2 ft2_ok HkOK.no (show runD E2 ft2 Hk.no 1000 60 (.ret F.prims_pair A_pair_15) = some C_pair_15 by kernel_rfl))
def lPair : List (List SV × SV) := [(A_pair_0, C_pair_0), (A_pair_1, C_pair_1), (A_pair_2, C_pair_2), (A_pair_3, C_pair_3), (A_pair_4, C_pair_4), (A_pair_5, C_pair_5), (A_pair_6, C_pair_6), (A_pair_7, C_pair_7), (A_pair_8, C_pair_8), (A_pair_9, C_pair_9), (A_pair_10, C_pair_10), (A_pair_11, C_pair_11), (A_pair_12, C_pair_12), (A_pair_13, C_pair_13), (A_pair_14, C_pair_14), (A_pair_15, C_pair_15)]
def hkP : Hk := ⟨(F.prims_pair, look lPair) :: [], []⟩
theorem hkP_ok : HkOK E hkP := ⟨hkX_cons (fun az r h => toldL_look (l := lPair) ⟨M_pair_0, M_pair_1, M_pair_2, M_pair_3, M_pair_4, M_pair_5, M_pair_6, M_pair_7, M_pair_8, M_pair_9, M_pair_10, M_pair_11, M_pair_12, M_pair_13, M_pair_14, M_pair_15, trivial⟩ az r h) hkX_nil, fun _ _ _ _ _ _ _ _ h => (by cases h)⟩
def V_prims_table : SV := .sl 5 [.agg [.str [], .nils, .nils, .nilf, .nilf], .agg [.str [110, 101, 103], .sl 1 [.str [105, 110, 105, 110]], .sl 1 [.int .i64 12], .nilf, .nilf], .agg [.str [97, 98, 115], .sl 1 [.str [105, 110, 105, 110]], .sl 1 [.int .i64 12], .nilf, .nilf], .agg [.str [110, 111, 116], .sl 1 [.str [105, 110, 105, 110]], .nils, .nilf, .nilf], .agg [.str [115, 104, 97, 112, 101], .sl 1 [.str [107, 110, 105, 49]], .nils, .fn 187 [], .nilf], .agg [.str [114, 97, 118, 101, 108], .sl 1 [.str [107, 110, 107, 49]], .nils, .fn 188 [], .nilf], .agg [.str [114, 101, 118, 101, 114, 115, 101], .sl 1 [.str [107, 49, 107, 49], .str [107, 50, 107, 50]], .nils, .fn 189 [], .nilf], .agg [.str [102, 108, 105, 112], .sl 1 [.str [107, 50, 107, 50]], .nils, .fn 190 [], .nilf], .agg [.str [105, 111, 116, 97], .sl 1 [.str [105, 48, 105, 49]], .sl 1 [.int .i64 13, .int .i64 15], .fn 191 [], .nilf], .agg [.str [115, 117, 109], .sl 1 [.str [105, 49, 105, 48], .str [105, 50, 105, 49]], .sl 1 [.int .i64 12], .fn 192 [], .nilf], .agg [.str [108, 101, 97, 115, 116], .sl 1 [.str [105, 49, 105, 48], .str [105, 50, 105, 49]], .sl 1 [.int .i64 13], .fn 193 [], .nilf], .agg [.str [109, 111, 115, 116], .sl 1 [.str [105, 49, 105, 48], .str [105, 50, 105, 49]], .sl 1 [.int .i64 13], .fn 194 [], .nilf], .agg [.str [99, 111, 117, 110, 116], .sl 1 [.str [107, 49, 105, 48], .str [107, 50, 105, 49]], .nils, .fn 195 [], .nilf], .agg [.str [115, 99, 97, 110], .sl 1 [.str [105, 49, 105, 49], .str [105, 50, 105, 50]], .sl 1 [.int .i64 12], .fn 196 [], .nilf], .agg [.str [103, 114, 97, 100, 101], .sl 1 [.str [105, 49, 105, 49]], .nils, .fn 197 [], .nilf], .agg [.str [97, 100, 100], .sl 1 [.str [105, 48, 105, 110, 105, 110], .str [105, 110, 105, 48, 105, 110], .str [105, 110, 105, 110, 105, 110]], .sl 1 [.int .i64 11, .int .i64 12], .nilf, .nilf], .agg [.str [115, 117, 98], .sl 1 [.str [105, 48, 105, 110, 105, 110], .str [105, 110, 105, 48, 105, 110], .str [105, 110, 105, 110, 105, 110]], .sl 1 [.int .i64 11, .int .i64 12], .nilf, .nilf], .agg [.str [109, 117, 108], .sl 1 [.str [105, 48, 105, 110, 105, 110], .str [105, 110, 105, 48, 105, 110], .str [105, 110, 105, 110, 105, 110]], .sl 1 [.int .i64 11, .int .i64 12], .nilf, .nilf], .agg [.str [100, 105, 118], .sl 1 [.str [105, 48, 105, 110, 105, 110], .str [105, 110, 105, 48, 105, 110], .str [105, 110, 105, 110, 105, 110]], .sl 1 [.int .i64 11, .int .i64 12, .int .i64 13], .nilf, .nilf], .agg [.str [109, 111, 100], .sl 1 [.str [105, 48, 105, 110, 105, 110], .str [105, 110, 105, 48, 105, 110], .str [105, 110, 105, 110, 105, 110]], .sl 1 [.int .i64 11, .int .i64 13], .nilf, .nilf], .agg [.str [112, 108, 117, 115], .sl 1 [.str [105, 48, 105, 110, 105, 110], .str [105, 110, 105, 48, 105, 110], .str [105, 110, 105, 110, 105, 110]], .sl 1 [.int .i64 11], .nilf, .nilf], .agg [.str [109, 105, 110, 117, 115], .sl 1 [.str [105, 48, 105, 110, 105, 110], .str [105, 110, 105, 48, 105, 110], .str [105, 110, 105, 110, 105, 110]], .sl 1 [.int .i64 11], .nilf, .nilf], .agg [.str [116, 105, 109, 101, 115], .sl 1 [.str [105, 48, 105, 110, 105, 110], .str [105, 110, 105, 48, 105, 110], .str [105, 110, 105, 110, 105, 110]], .sl 1 [.int .i64 11], .nilf, .nilf], .agg [.str [101, 113], .sl 1 [.str [107, 48, 107, 110, 105, 110], .str [107, 110, 107, 48, 105, 110], .str [107, 110, 107, 110, 105, 110]], .sl 1 [.int .i64 11], .nilf, .nilf], .agg [.str [110, 101], .sl 1 [.str [107, 48, 107, 110, 105, 110], .str [107, 110, 107, 48, 105, 110], .str [107, 110, 107, 110, 105, 110]], .sl 1 [.int .i64 11], .nilf, .nilf], .agg [.str [108, 116], .sl 1 [.str [105, 48, 105, 110, 105, 110], .str [105, 110, 105, 48, 105, 110], .str [105, 110, 105, 110, 105, 110]], .sl 1 [.int .i64 11], .nilf, .nilf], .agg [.str [108, 101], .sl 1 [.str [105, 48, 105, 110, 105, 110], .str [105, 110, 105, 48, 105, 110], .str [105, 110, 105, 110, 105, 110]], .sl 1 [.int .i64 11], .nilf, .nilf], .agg [.str [103, 116], .sl 1 [.str [105, 48, 105, 110, 105, 110], .str [105, 110, 105, 48, 105, 110], .str [105, 110, 105, 110, 105, 110]], .sl 1 [.int .i64 11], .nilf, .nilf], .agg [.str [103, 101], .sl 1 [.str [105, 48, 105, 110, 105, 110], .str [105, 110, 105, 48, 105, 110], .str [105, 110, 105, 110, 105, 110]], .sl 1 [.int .i64 11], .nilf, .nilf], .agg [.str [97, 110, 100], .sl 1 [.str [105, 48, 105, 110, 105, 110], .str [105, 110, 105, 48, 105, 110], .str [105, 110, 105, 110, 105, 110]], .sl 1 [.int .i64 11], .nilf, .nilf], .agg [.str [111, 114], .sl 1 [.str [105, 48, 105, 110, 105, 110], .str [105, 110, 105, 48, 105, 110], .str [105, 110, 105, 110, 105, 110]], .sl 1 [.int .i64 11], .nilf, .nilf], .agg [.str [109, 105, 110], .sl 1 [.str [105, 48, 105, 110, 105, 110], .str [105, 110, 105, 48, 105, 110], .str [105, 110, 105, 110, 105, 110]], .sl 1 [.int .i64 11], .nilf, .nilf], .agg [.str [109, 97, 120], .sl 1 [.str [105, 48, 105, 110, 105, 110], .str [105, 110, 105, 48, 105, 110], .str [105, 110, 105, 110, 105, 110]], .sl 1 [.int .i64 11], .nilf, .nilf], .agg [.str [116, 97, 107, 101], .sl 1 [.str [105, 48, 107, 49, 107, 49]], .nils, .nilf, .fn 199 []], .agg [.str [100, 114, 111, 112], .sl 1 [.str [105, 48, 107, 49, 107, 49]], .nils, .nilf, .fn 200 []], .agg [.str [102, 105, 108, 108], .sl 1 [.str [105, 48, 107, 48, 107, 49]], .sl 1 [.int .i64 13, .int .i64 15], .nilf, .fn 201 []], .agg [.str [103, 114, 105, 100], .sl 1 [.str [105, 49, 107, 49, 107, 50]], .sl 1 [.int .i64 11, .int .i64 13, .int .i64 15], .nilf, .fn 202 []], .agg [.str [99, 97, 116], .sl 1 [.str [107, 49, 107, 49, 107, 49], .str [107, 50, 107, 50, 107, 50]], .sl 1 [.int .i64 11, .int .i64 15], .nilf, .fn 203 []], .agg [.str [97, 116], .sl 1 [.str [107, 49, 105, 48, 107, 48], .str [107, 49, 105, 49, 107, 49]], .sl 1 [.int .i64 14], .nilf, .fn 204 []], .agg [.str [105, 110], .sl 1 [.str [107, 110, 107, 49, 105, 110]], .nils, .nilf, .fn 205 []], .agg [.str [112, 105, 99, 107], .sl 1 [.str [105, 49, 107, 49, 107, 49]], .sl 1 [.int .i64 11], .nilf, .fn 206 []]]
theorem L_prims_table : Ret E F.prims_table [] V_prims_table := ret_of_run ok ft_ok hkP_ok (show runD E ft hkP 1000 60 (.ret F.prims_table []) = some V_prims_table by kernel_rfl)
def hk0 : Hk := ⟨(F.prims_table, look [([], V_prims_table)]) :: [], []⟩
theorem hk0_ok : HkOK E hk0 := ⟨hkX_cons (fun az r h => toldL_look (l := [([], V_prims_table)]) ⟨L_prims_table, trivial⟩ az r h) hkX_nil, fun _ _ _ _ _ _ _ _ h => (by cases h)⟩
noncomputable def ft0 : List (Nat × Func) := without [F.prims_table] ft
end Go.Sx.Tz
namespace Go.Sx.Tz
open Go.Proofs
set_option maxRecDepth 100000
def A_lattice_Check_1 : List SV := [.agg [.sl 1 [.str [108, 111, 119], .str [97, 110, 110], .str [98, 111, 98], .str [116, 111, 112]], .sl 1 [.int .u8 15, .int .u8 10, .int .u8 12, .int .u8 8]]]
def C_lattice_Check_1 : SV := .tup [.int .i64 0, .int .i64 0]
theorem M_lattice_Check_1 : Ret E F.lattice_Check A_lattice_Check_1 C_lattice_Check_1 := ret_of_run ok (ftOK_without ft_ok) hk0_ok (show runD E ft0 hk0 1000 60 (.ret F.lattice_Check A_lattice_Check_1) = some C_lattice_Check_1 by kernel_rfl)
noncomputable def ftM1 : List (Nat × Func) := without [F.prims_table, F.lattice_Check] ft
noncomputable def hkM1 : Hk := ⟨(F.lattice_Check, look [(A_lattice_Check_1, C_lattice_Check_1)]) :: hk0.x, []⟩
theorem hkM1_ok : HkOK E hkM1 := ⟨hkX_cons (fun az r h => toldL_look (l := [(A_lattice_Check_1, C_lattice_Check_1)]) ⟨M_lattice_Check_1, trivial⟩ az r h) hk0_ok.x, fun _ _ _ _ _ _ _ _ h => (by cases h)⟩
def A_policy_Check_1 : List SV := [.agg [.agg [.sl 1 [.str [108, 111, 119], .str [97, 110, 110], .str [98, 111, 98], .str [116, 111, 112]], .sl 1 [.int .u8 15, .int .u8 10, .int .u8 12, .int .u8 8]], .sl 2 [.agg [.str [98, 111, 97, 114, 100], .int .i64 0]], .sl 6 [.agg [.str [109, 97, 114, 107, 115], .agg [.int .i64 1, .int .i64 1, .arr 2 1 [.int .i64 0, .int .i64 0], .int .i64 3]], .agg [.str [110, 97, 109, 101, 115], .agg [.int .i64 2, .int .i64 1, .arr 2 1 [.int .i64 1, .int .i64 0], .int .i64 3]]], .sl 3 [.agg [.int .i64 3, .int .i64 1, .int .i64 5]]]]
def C_policy_Check_1 : SV := .tup [.int .i64 0, .int .i64 0, .int .i64 0]
theorem M_policy_Check_1 : Ret E F.policy_Check A_policy_Check_1 C_policy_Check_1 := ret_of_run ok (ftOK_without ft_ok) hkM1_ok (show runD E ftM1 hkM1 1000 60 (.ret F.policy_Check A_policy_Check_1) = some C_policy_Check_1 by kernel_rfl)
noncomputable def ftB : List (Nat × Func) := without [F.prims_table, F.lattice_Check, F.policy_Check] ft
noncomputable def hkM2 : Hk := ⟨(F.policy_Check, look [(A_policy_Check_1, C_policy_Check_1)]) :: hkM1.x, []⟩
theorem hkM2_ok : HkOK E hkM2 := ⟨hkX_cons (fun az r h => toldL_look (l := [(A_policy_Check_1, C_policy_Check_1)]) ⟨M_policy_Check_1, trivial⟩ az r h) hkM1_ok.x, fun _ _ _ _ _ _ _ _ h => (by cases h)⟩
def V_invigilatorlaw32_awake : SV := .bool true
theorem L_invigilatorlaw32_awake : Ret E F.invigilatorlaw32_awake [] V_invigilatorlaw32_awake := ret_of_run ok (ftOK_without ft_ok) hkM2_ok (show runD E ftB hkM2 1000 60 (.ret F.invigilatorlaw32_awake []) = some V_invigilatorlaw32_awake by kernel_rfl)
end Go.Sx.Tz
