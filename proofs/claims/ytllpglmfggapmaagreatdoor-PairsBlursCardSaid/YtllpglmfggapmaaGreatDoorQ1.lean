/-
  An own text of this claim.
-/
import Derived.Test.YtllpglmfggapmaaGreatDoorP2
import Derived.Test.YtllpglmfggapmaaGreatDoorProg
noncomputable section
namespace Go.Sx.Tz
open Go.Proofs
def tt : List (Nat × TI) := [(1, ⟨.fn, 1, 8, .nilf, false⟩),
  (2, ⟨.int .i64, 1, 8, .int .i64 0, false⟩),
  (3, ⟨.int .i64, 1, 8, .int .i64 0, false⟩),
  (4, ⟨.bool, 1, 1, .fls, false⟩),
  (5, ⟨.int .u8, 1, 1, .int .u8 0, false⟩),
  (6, ⟨.int .u8, 1, 1, .int .u8 0, false⟩),
  (7, ⟨.strct [(2, 0), (3, 1), (4, 2), (6, 3)], 4, 24, .agg [.int .i64 0, .int .i64 0, .fls, .int .u8 0], true⟩),
  (8, ⟨.strct [(2, 0), (3, 1), (4, 2), (6, 3)], 4, 24, .agg [.int .i64 0, .int .i64 0, .fls, .int .u8 0], true⟩),
  (9, ⟨.str, 1, 16, .str [], false⟩),
  (10, ⟨.str, 1, 16, .str [], false⟩),
  (11, ⟨.str, 1, 16, .str [], false⟩),
  (12, ⟨.int .u64, 1, 8, .int .u64 0, false⟩),
  (13, ⟨.strct [(9, 0), (12, 1)], 2, 24, .agg [.str [], .int .u64 0], false⟩),
  (14, ⟨.strct [(9, 0), (12, 1)], 2, 24, .agg [.str [], .int .u64 0], false⟩),
  (15, ⟨.ptr 298, 1, 8, .nilp, false⟩),
  (16, ⟨.ptr 301, 1, 8, .nilp, false⟩),
  (17, ⟨.ptr 310, 1, 8, .nilp, false⟩),
  (18, ⟨.strct [(17, 0)], 1, 8, .agg [.nilp], false⟩),
  (19, ⟨.strct [(17, 0)], 1, 8, .agg [.nilp], false⟩),
  (20, ⟨.ifc, 1, 16, .nili, false⟩),
  (21, ⟨.int .i32, 1, 4, .int .i32 0, false⟩),
  (22, ⟨.sl 9, 1, 24, .nils, false⟩),
  (23, ⟨.sl 5, 1, 24, .nils, false⟩),
  (24, ⟨.strct [(22, 0), (23, 1)], 2, 48, .agg [.nils, .nils], true⟩),
  (25, ⟨.strct [(22, 0), (23, 1)], 2, 48, .agg [.nils, .nils], true⟩),
  (26, ⟨.sl 85, 1, 24, .nils, false⟩),
  (27, ⟨.sl 47, 1, 24, .nils, false⟩),
  (28, ⟨.sl 89, 1, 24, .nils, false⟩),
  (29, ⟨.strct [(25, 0), (26, 2), (27, 3), (28, 4)], 5, 120, .agg [.agg [.nils, .nils], .nils, .nils, .nils], true⟩),
  (30, ⟨.strct [(25, 0), (26, 2), (27, 3), (28, 4)], 5, 120, .agg [.agg [.nils, .nils], .nils, .nils, .nils], true⟩),
  (31, ⟨.sl 52, 1, 24, .nils, false⟩),
  (32, ⟨.fn, 1, 8, .nilf, false⟩),
  (33, ⟨.fn, 1, 8, .nilf, false⟩),
  (34, ⟨.int .i64, 1, 8, .int .i64 0, false⟩),
  (36, ⟨.fn, 1, 8, .nilf, false⟩),
  (38, ⟨.fn, 1, 8, .nilf, false⟩),
  (40, ⟨.fn, 1, 8, .nilf, false⟩),
  (41, ⟨.fn, 1, 8, .nilf, false⟩),
  (42, ⟨.fn, 1, 8, .nilf, false⟩),
  (43, ⟨.arr 2 3, 2, 16, .arr 2 1 [.int .i64 0, .int .i64 0], true⟩),
  (44, ⟨.strct [(3, 0), (3, 1), (43, 2), (3, 4)], 5, 40, .agg [.int .i64 0, .int .i64 0, .arr 2 1 [.int .i64 0, .int .i64 0], .int .i64 0], true⟩),
  (45, ⟨.strct [(3, 0), (3, 1), (43, 2), (3, 4)], 5, 40, .agg [.int .i64 0, .int .i64 0, .arr 2 1 [.int .i64 0, .int .i64 0], .int .i64 0], true⟩),
  (46, ⟨.strct [(9, 0), (45, 1)], 6, 56, .agg [.str [], .agg [.int .i64 0, .int .i64 0, .arr 2 1 [.int .i64 0, .int .i64 0], .int .i64 0]], true⟩),
  (47, ⟨.strct [(9, 0), (45, 1)], 6, 56, .agg [.str [], .agg [.int .i64 0, .int .i64 0, .arr 2 1 [.int .i64 0, .int .i64 0], .int .i64 0]], true⟩),
  (48, ⟨.sl 2, 1, 24, .nils, false⟩),
  (49, ⟨.strct [(3, 0), (3, 1), (43, 2), (48, 4)], 5, 56, .agg [.int .i64 0, .int .i64 0, .arr 2 1 [.int .i64 0, .int .i64 0], .nils], true⟩),
  (50, ⟨.strct [(3, 0), (3, 1), (43, 2), (48, 4)], 5, 56, .agg [.int .i64 0, .int .i64 0, .arr 2 1 [.int .i64 0, .int .i64 0], .nils], true⟩),
  (51, ⟨.strct [(9, 0), (50, 1)], 6, 72, .agg [.str [], .agg [.int .i64 0, .int .i64 0, .arr 2 1 [.int .i64 0, .int .i64 0], .nils]], true⟩),
  (52, ⟨.strct [(9, 0), (50, 1)], 6, 72, .agg [.str [], .agg [.int .i64 0, .int .i64 0, .arr 2 1 [.int .i64 0, .int .i64 0], .nils]], true⟩),
  (53, ⟨.fn, 1, 8, .nilf, false⟩),
  (54, ⟨.fn, 1, 8, .nilf, false⟩),
  (55, ⟨.fn, 1, 8, .nilf, false⟩),
  (57, ⟨.fn, 1, 8, .nilf, false⟩),
  (58, ⟨.sl 3, 1, 24, .nils, false⟩),
  (60, ⟨.fn, 1, 8, .nilf, false⟩),
  (61, ⟨.fn, 1, 8, .nilf, false⟩),
  (62, ⟨.fn, 1, 8, .nilf, false⟩),
  (63, ⟨.fn, 1, 8, .nilf, false⟩),
  (64, ⟨.fn, 1, 8, .nilf, false⟩),
  (65, ⟨.fn, 1, 8, .nilf, false⟩),
  (67, ⟨.fn, 1, 8, .nilf, false⟩),
  (68, ⟨.fn, 1, 8, .nilf, false⟩),
  (69, ⟨.fn, 1, 8, .nilf, false⟩),
  (70, ⟨.ptr 30, 1, 8, .nilp, false⟩),
  (71, ⟨.fn, 1, 8, .nilf, false⟩),
  (72, ⟨.arr 2 4, 2, 2, .arr 2 1 [.fls, .fls], true⟩),
  (73, ⟨.strct [(72, 0), (4, 2)], 3, 3, .agg [.arr 2 1 [.fls, .fls], .fls], true⟩),
  (74, ⟨.strct [(72, 0), (4, 2)], 3, 3, .agg [.arr 2 1 [.fls, .fls], .fls], true⟩),
  (76, ⟨.fn, 1, 8, .nilf, false⟩),
  (77, ⟨.fn, 1, 8, .nilf, false⟩),
  (78, ⟨.fn, 1, 8, .nilf, false⟩),
  (79, ⟨.fn, 1, 8, .nilf, false⟩),
  (80, ⟨.fn, 1, 8, .nilf, false⟩),
  (82, ⟨.fn, 1, 8, .nilf, false⟩),
  (83, ⟨.fn, 1, 8, .nilf, false⟩),
  (84, ⟨.strct [(9, 0), (3, 1)], 2, 24, .agg [.str [], .int .i64 0], true⟩),
  (85, ⟨.strct [(9, 0), (3, 1)], 2, 24, .agg [.str [], .int .i64 0], true⟩),
  (86, ⟨.fn, 1, 8, .nilf, false⟩),
  (87, ⟨.fn, 1, 8, .nilf, false⟩),
  (88, ⟨.strct [(3, 0), (3, 1), (3, 2)], 3, 24, .agg [.int .i64 0, .int .i64 0, .int .i64 0], true⟩),
  (89, ⟨.strct [(3, 0), (3, 1), (3, 2)], 3, 24, .agg [.int .i64 0, .int .i64 0, .int .i64 0], true⟩),
  (90, ⟨.fn, 1, 8, .nilf, false⟩),
  (91, ⟨.fn, 1, 8, .nilf, false⟩),
  (92, ⟨.fn, 1, 8, .nilf, false⟩),
  (93, ⟨.fn, 1, 8, .nilf, false⟩),
  (94, ⟨.fn, 1, 8, .nilf, false⟩),
  (95, ⟨.fn, 1, 8, .nilf, false⟩),
  (97, ⟨.fn, 1, 8, .nilf, false⟩),
  (98, ⟨.fn, 1, 8, .nilf, false⟩),
  (99, ⟨.fn, 1, 8, .nilf, false⟩),
  (100, ⟨.fn, 1, 8, .nilf, false⟩),
  (101, ⟨.fn, 1, 8, .nilf, false⟩),
  (102, ⟨.sl 31, 1, 24, .nils, false⟩),
  (104, ⟨.fn, 1, 8, .nilf, false⟩),
  (105, ⟨.fn, 1, 8, .nilf, false⟩),
  (106, ⟨.fn, 1, 8, .nilf, false⟩),
  (107, ⟨.fn, 1, 8, .nilf, false⟩),
  (108, ⟨.fn, 1, 8, .nilf, false⟩),
  (109, ⟨.fn, 1, 8, .nilf, false⟩),
  (110, ⟨.fn, 1, 8, .nilf, false⟩),
  (111, ⟨.fn, 1, 8, .nilf, false⟩),
  (112, ⟨.strct [(22, 0), (23, 1)], 2, 48, .agg [.nils, .nils], true⟩),
  (113, ⟨.fn, 1, 8, .nilf, false⟩),
  (114, ⟨.ptr 112, 1, 8, .nilp, false⟩),
  (115, ⟨.fn, 1, 8, .nilf, false⟩),
  (116, ⟨.ptr 50, 1, 8, .nilp, false⟩),
  (117, ⟨.fn, 1, 8, .nilf, false⟩),
  (118, ⟨.fn, 1, 8, .nilf, false⟩),
  (119, ⟨.fn, 1, 8, .nilf, false⟩),
  (120, ⟨.fn, 1, 8, .nilf, false⟩),
  (121, ⟨.fn, 1, 8, .nilf, false⟩),
  (122, ⟨.fn, 1, 8, .nilf, false⟩),
  (123, ⟨.sl 127, 1, 24, .nils, false⟩),
  (124, ⟨.fn, 1, 8, .nilf, false⟩),
  (125, ⟨.fn, 1, 8, .nilf, false⟩),
  (126, ⟨.strct [(125, 0)], 1, 8, .agg [.nilf], true⟩),
  (127, ⟨.strct [(125, 0)], 1, 8, .agg [.nilf], true⟩),
  (128, ⟨.strct [(25, 0), (3, 2)], 3, 56, .agg [.agg [.nils, .nils], .int .i64 0], true⟩),
  (129, ⟨.strct [(25, 0), (3, 2)], 3, 56, .agg [.agg [.nils, .nils], .int .i64 0], true⟩),
  (131, ⟨.fn, 1, 8, .nilf, false⟩),
  (132, ⟨.fn, 1, 8, .nilf, false⟩),
  (133, ⟨.fn, 1, 8, .nilf, false⟩),
  (134, ⟨.sl 3, 1, 24, .nils, false⟩),
  (135, ⟨.fn, 1, 8, .nilf, false⟩),
  (136, ⟨.fn, 1, 8, .nilf, false⟩),
  (137, ⟨.fn, 1, 8, .nilf, false⟩),
  (138, ⟨.fn, 1, 8, .nilf, false⟩),
  (139, ⟨.fn, 1, 8, .nilf, false⟩),
  (140, ⟨.fn, 1, 8, .nilf, false⟩),
  (141, ⟨.fn, 1, 8, .nilf, false⟩),
  (142, ⟨.fn, 1, 8, .nilf, false⟩),
  (143, ⟨.fn, 1, 8, .nilf, false⟩),
  (144, ⟨.fn, 1, 8, .nilf, false⟩),
  (145, ⟨.fn, 1, 8, .nilf, false⟩),
  (146, ⟨.arr 8 5, 8, 8, .arr 8 1 [.int .u8 0, .int .u8 0, .int .u8 0, .int .u8 0, .int .u8 0, .int .u8 0, .int .u8 0, .int .u8 0], true⟩),
  (147, ⟨.arr 8 5, 8, 8, .arr 8 1 [.int .u8 0, .int .u8 0, .int .u8 0, .int .u8 0, .int .u8 0, .int .u8 0, .int .u8 0, .int .u8 0], true⟩),
  (148, ⟨.arr 8 5, 8, 8, .arr 8 1 [.int .u8 0, .int .u8 0, .int .u8 0, .int .u8 0, .int .u8 0, .int .u8 0, .int .u8 0, .int .u8 0], true⟩),
  (149, ⟨.strct [(3, 0), (147, 1), (148, 9)], 17, 24, .agg [.int .i64 0, .arr 8 1 [.int .u8 0, .int .u8 0, .int .u8 0, .int .u8 0, .int .u8 0, .int .u8 0, .int .u8 0, .int .u8 0], .arr 8 1 [.int .u8 0, .int .u8 0, .int .u8 0, .int .u8 0, .int .u8 0, .int .u8 0, .int .u8 0, .int .u8 0]], true⟩),
  (150, ⟨.strct [(3, 0), (147, 1), (148, 9)], 17, 24, .agg [.int .i64 0, .arr 8 1 [.int .u8 0, .int .u8 0, .int .u8 0, .int .u8 0, .int .u8 0, .int .u8 0, .int .u8 0, .int .u8 0], .arr 8 1 [.int .u8 0, .int .u8 0, .int .u8 0, .int .u8 0, .int .u8 0, .int .u8 0, .int .u8 0, .int .u8 0]], true⟩),
  (151, ⟨.fn, 1, 8, .nilf, false⟩),
  (152, ⟨.ptr 25, 1, 8, .nilp, false⟩),
  (153, ⟨.fn, 1, 8, .nilf, false⟩),
  (154, ⟨.fn, 1, 8, .nilf, false⟩),
  (155, ⟨.fn, 1, 8, .nilf, false⟩),
  (156, ⟨.fn, 1, 8, .nilf, false⟩),
  (157, ⟨.int .u64, 1, 8, .int .u64 0, false⟩),
  (158, ⟨.ifc, 1, 16, .nili, false⟩),
  (159, ⟨.ifc, 1, 16, .nili, false⟩),
  (160, ⟨.fn, 1, 8, .nilf, false⟩),
  (161, ⟨.fn, 1, 8, .nilf, false⟩),
  (162, ⟨.fn, 1, 8, .nilf, false⟩),
  (163, ⟨.strct [(3, 0), (3, 1), (3, 2), (2, 3), (9, 4)], 5, 48, .agg [.int .i64 0, .int .i64 0, .int .i64 0, .int .i64 0, .str []], true⟩),
  (164, ⟨.strct [(3, 0), (3, 1), (3, 2), (2, 3), (9, 4)], 5, 48, .agg [.int .i64 0, .int .i64 0, .int .i64 0, .int .i64 0, .str []], true⟩),
  (165, ⟨.fn, 1, 8, .nilf, false⟩),
  (166, ⟨.mp 9 4, 1, 8, .any, false⟩),
  (167, ⟨.mp 9 4, 1, 8, .any, false⟩),
  (168, ⟨.fn, 1, 8, .nilf, false⟩),
  (169, ⟨.fn, 1, 8, .nilf, false⟩),
  (170, ⟨.mp 43 4, 1, 8, .any, false⟩),
  (171, ⟨.fn, 1, 8, .nilf, false⟩),
  (172, ⟨.fn, 1, 8, .nilf, false⟩),
  (173, ⟨.fn, 1, 8, .nilf, false⟩),
  (174, ⟨.fn, 1, 8, .nilf, false⟩),
  (175, ⟨.fn, 1, 8, .nilf, false⟩),
  (176, ⟨.fn, 1, 8, .nilf, false⟩),
  (177, ⟨.int .i64, 1, 8, .int .i64 0, false⟩),
  (179, ⟨.fn, 1, 8, .nilf, false⟩),
  (180, ⟨.fn, 1, 8, .nilf, false⟩),
  (181, ⟨.fn, 1, 8, .nilf, false⟩),
  (183, ⟨.fn, 1, 8, .nilf, false⟩),
  (184, ⟨.fn, 1, 8, .nilf, false⟩),
  (185, ⟨.int .u32, 1, 4, .int .u32 0, false⟩),
  (186, ⟨.fn, 1, 8, .nilf, false⟩),
  (187, ⟨.int .u64, 1, 8, .int .u64 0, false⟩),
  (188, ⟨.fn, 1, 8, .nilf, false⟩),
  (190, ⟨.fn, 1, 8, .nilf, false⟩),
  (191, ⟨.fn, 1, 8, .nilf, false⟩),
  (192, ⟨.fn, 1, 8, .nilf, false⟩),
  (193, ⟨.fn, 1, 8, .nilf, false⟩),
  (194, ⟨.int .u64, 1, 8, .int .u64 0, false⟩),
  (195, ⟨.fn, 1, 8, .nilf, false⟩),
  (196, ⟨.fn, 1, 8, .nilf, false⟩),
  (197, ⟨.fn, 1, 8, .nilf, false⟩),
  (198, ⟨.ptr 3, 1, 8, .nilp, false⟩),
  (199, ⟨.fn, 1, 8, .nilf, false⟩),
  (201, ⟨.fn, 1, 8, .nilf, false⟩),
  (202, ⟨.fn, 1, 8, .nilf, false⟩),
  (203, ⟨.arr 256 4, 256, 256, .arr 256 1 [.fls, .fls, .fls, .fls, .fls, .fls, .fls, .fls, .fls, .fls, .fls, .fls, .fls, .fls, .fls, .fls, .fls, .fls, .fls, .fls, .fls, .fls, .fls, .fls, .fls, .fls, .fls, .fls, .fls, .fls, .fls, .fls, .fls, .fls, .fls, .fls, .fls, .fls, .fls, .fls, .fls, .fls, .fls, .fls, .fls, .fls, .fls, .fls, .fls, .fls, .fls, .fls, .fls, .fls, .fls, .fls, .fls, .fls, .fls, .fls, .fls, .fls, .fls, .fls, .fls, .fls, .fls, .fls, .fls, .fls, .fls, .fls, .fls, .fls, .fls, .fls, .fls, .fls, .fls, .fls, .fls, .fls, .fls, .fls, .fls, .fls, .fls, .fls, .fls, .fls, .fls, .fls, .fls, .fls, .fls, .fls, .fls, .fls, .fls, .fls, .fls, .fls, .fls, .fls, .fls, .fls, .fls, .fls, .fls, .fls, .fls, .fls, .fls, .fls, .fls, .fls, .fls, .fls, .fls, .fls, .fls, .fls, .fls, .fls, .fls, .fls, .fls, .fls, .fls, .fls, .fls, .fls, .fls, .fls, .fls, .fls, .fls, .fls, .fls, .fls, .fls, .fls, .fls, .fls, .fls, .fls, .fls, .fls, .fls, .fls, .fls, .fls, .fls, .fls, .fls, .fls, .fls, .fls, .fls, .fls, .fls, .fls, .fls, .fls, .fls, .fls, .fls, .fls, .fls, .fls, .fls, .fls, .fls, .fls, .fls, .fls, .fls, .fls, .fls, .fls, .fls, .fls, .fls, .fls, .fls, .fls, .fls, .fls, .fls, .fls, .fls, .fls, .fls, .fls, .fls, .fls, .fls, .fls, .fls, .fls, .fls, .fls, .fls, .fls, .fls, .fls, .fls, .fls, .fls, .fls, .fls, .fls, .fls, .fls, .fls, .fls, .fls, .fls, .fls, .fls, .fls, .fls, .fls, .fls, .fls, .fls, .fls, .fls, .fls, .fls, .fls, .fls, .fls, .fls, .fls, .fls, .fls, .fls, .fls, .fls, .fls, .fls, .fls, .fls, .fls, .fls, .fls, .fls, .fls, .fls, .fls, .fls, .fls, .fls, .fls, .fls], true⟩),
  (204, ⟨.arr 256 4, 256, 256, .arr 256 1 [.fls, .fls, .fls, .fls, .fls, .fls, .fls, .fls, .fls, .fls, .fls, .fls, .fls, .fls, .fls, .fls, .fls, .fls, .fls, .fls, .fls, .fls, .fls, .fls, .fls, .fls, .fls, .fls, .fls, .fls, .fls, .fls, .fls, .fls, .fls, .fls, .fls, .fls, .fls, .fls, .fls, .fls, .fls, .fls, .fls, .fls, .fls, .fls, .fls, .fls, .fls, .fls, .fls, .fls, .fls, .fls, .fls, .fls, .fls, .fls, .fls, .fls, .fls, .fls, .fls, .fls, .fls, .fls, .fls, .fls, .fls, .fls, .fls, .fls, .fls, .fls, .fls, .fls, .fls, .fls, .fls, .fls, .fls, .fls, .fls, .fls, .fls, .fls, .fls, .fls, .fls, .fls, .fls, .fls, .fls, .fls, .fls, .fls, .fls, .fls, .fls, .fls, .fls, .fls, .fls, .fls, .fls, .fls, .fls, .fls, .fls, .fls, .fls, .fls, .fls, .fls, .fls, .fls, .fls, .fls, .fls, .fls, .fls, .fls, .fls, .fls, .fls, .fls, .fls, .fls, .fls, .fls, .fls, .fls, .fls, .fls, .fls, .fls, .fls, .fls, .fls, .fls, .fls, .fls, .fls, .fls, .fls, .fls, .fls, .fls, .fls, .fls, .fls, .fls, .fls, .fls, .fls, .fls, .fls, .fls, .fls, .fls, .fls, .fls, .fls, .fls, .fls, .fls, .fls, .fls, .fls, .fls, .fls, .fls, .fls, .fls, .fls, .fls, .fls, .fls, .fls, .fls, .fls, .fls, .fls, .fls, .fls, .fls, .fls, .fls, .fls, .fls, .fls, .fls, .fls, .fls, .fls, .fls, .fls, .fls, .fls, .fls, .fls, .fls, .fls, .fls, .fls, .fls, .fls, .fls, .fls, .fls, .fls, .fls, .fls, .fls, .fls, .fls, .fls, .fls, .fls, .fls, .fls, .fls, .fls, .fls, .fls, .fls, .fls, .fls, .fls, .fls, .fls, .fls, .fls, .fls, .fls, .fls, .fls, .fls, .fls, .fls, .fls, .fls, .fls, .fls, .fls, .fls, .fls, .fls, .fls, .fls, .fls, .fls, .fls, .fls], true⟩),
  (206, ⟨.fn, 1, 8, .nilf, false⟩),
  (207, ⟨.fn, 1, 8, .nilf, false⟩),
  (208, ⟨.ptr 204, 1, 8, .nilp, false⟩),
  (209, ⟨.ptr 194, 1, 8, .nilp, false⟩),
  (211, ⟨.fn, 1, 8, .nilf, false⟩),
  (213, ⟨.fn, 1, 8, .nilf, false⟩),
  (214, ⟨.fn, 1, 8, .nilf, false⟩),
  (215, ⟨.sl 221, 1, 24, .nils, false⟩),
  (216, ⟨.fn, 1, 8, .nilf, false⟩),
  (217, ⟨.sl 34, 1, 24, .nils, false⟩),
  (218, ⟨.fn, 1, 8, .nilf, false⟩),
  (219, ⟨.fn, 1, 8, .nilf, false⟩),
  (220, ⟨.strct [(9, 0), (22, 1), (217, 2), (218, 3), (219, 4)], 5, 80, .agg [.str [], .nils, .nils, .nilf, .nilf], true⟩),
  (221, ⟨.strct [(9, 0), (22, 1), (217, 2), (218, 3), (219, 4)], 5, 80, .agg [.str [], .nils, .nils, .nilf, .nilf], true⟩),
  (222, ⟨.ptr 224, 1, 8, .nilp, false⟩),
  (223, ⟨.strct [(9, 0), (3, 1)], 2, 24, .agg [.str [], .int .i64 0], true⟩),
  (224, ⟨.strct [(9, 0), (3, 1)], 2, 24, .agg [.str [], .int .i64 0], true⟩),
  (225, ⟨.fn, 1, 8, .nilf, false⟩),
  (226, ⟨.fn, 1, 8, .nilf, false⟩),
  (228, ⟨.fn, 1, 8, .nilf, false⟩),
  (229, ⟨.fn, 1, 8, .nilf, false⟩),
  (230, ⟨.fn, 1, 8, .nilf, false⟩),
  (232, ⟨.fn, 1, 8, .nilf, false⟩),
  (233, ⟨.fn, 1, 8, .nilf, false⟩),
  (234, ⟨.fn, 1, 8, .nilf, false⟩),
  (235, ⟨.fn, 1, 8, .nilf, false⟩),
  (236, ⟨.fn, 1, 8, .nilf, false⟩),
  (237, ⟨.arr 256 5, 256, 256, .arr 256 1 [.int .u8 0, .int .u8 0, .int .u8 0, .int .u8 0, .int .u8 0, .int .u8 0, .int .u8 0, .int .u8 0, .int .u8 0, .int .u8 0, .int .u8 0, .int .u8 0, .int .u8 0, .int .u8 0, .int .u8 0, .int .u8 0, .int .u8 0, .int .u8 0, .int .u8 0, .int .u8 0, .int .u8 0, .int .u8 0, .int .u8 0, .int .u8 0, .int .u8 0, .int .u8 0, .int .u8 0, .int .u8 0, .int .u8 0, .int .u8 0, .int .u8 0, .int .u8 0, .int .u8 0, .int .u8 0, .int .u8 0, .int .u8 0, .int .u8 0, .int .u8 0, .int .u8 0, .int .u8 0, .int .u8 0, .int .u8 0, .int .u8 0, .int .u8 0, .int .u8 0, .int .u8 0, .int .u8 0, .int .u8 0, .int .u8 0, .int .u8 0, .int .u8 0, .int .u8 0, .int .u8 0, .int .u8 0, .int .u8 0, .int .u8 0, .int .u8 0, .int .u8 0, .int .u8 0, .int .u8 0, .int .u8 0, .int .u8 0, .int .u8 0, .int .u8 0, .int .u8 0, .int .u8 0, .int .u8 0, .int .u8 0, .int .u8 0, .int .u8 0, .int .u8 0, .int .u8 0, .int .u8 0, .int .u8 0, .int .u8 0, .int .u8 0, .int .u8 0, .int .u8 0, .int .u8 0, .int .u8 0, .int .u8 0, .int .u8 0, .int .u8 0, .int .u8 0, .int .u8 0, .int .u8 0, .int .u8 0, .int .u8 0, .int .u8 0, .int .u8 0, .int .u8 0, .int .u8 0, .int .u8 0, .int .u8 0, .int .u8 0, .int .u8 0, .int .u8 0, .int .u8 0, .int .u8 0, .int .u8 0, .int .u8 0, .int .u8 0, .int .u8 0, .int .u8 0, .int .u8 0, .int .u8 0, .int .u8 0, .int .u8 0, .int .u8 0, .int .u8 0, .int .u8 0, .int .u8 0, .int .u8 0, .int .u8 0, .int .u8 0, .int .u8 0, .int .u8 0, .int .u8 0, .int .u8 0, .int .u8 0, .int .u8 0, .int .u8 0, .int .u8 0, .int .u8 0, .int .u8 0, .int .u8 0, .int .u8 0, .int .u8 0, .int .u8 0, .int .u8 0, .int .u8 0, .int .u8 0, .int .u8 0, .int .u8 0, .int .u8 0, .int .u8 0, .int .u8 0, .int .u8 0, .int .u8 0, .int .u8 0, .int .u8 0, .int .u8 0, .int .u8 0, .int .u8 0, .int .u8 0, .int .u8 0, .int .u8 0, .int .u8 0, .int .u8 0, .int .u8 0, .int .u8 0, .int .u8 0, .int .u8 0, .int .u8 0, .int .u8 0, .int .u8 0, .int .u8 0, .int .u8 0, .int .u8 0, .int .u8 0, .int .u8 0, .int .u8 0, .int .u8 0, .int .u8 0, .int .u8 0, .int .u8 0, .int .u8 0, .int .u8 0, .int .u8 0, .int .u8 0, .int .u8 0, .int .u8 0, .int .u8 0, .int .u8 0, .int .u8 0, .int .u8 0, .int .u8 0, .int .u8 0, .int .u8 0, .int .u8 0, .int .u8 0, .int .u8 0, .int .u8 0, .int .u8 0, .int .u8 0, .int .u8 0, .int .u8 0, .int .u8 0, .int .u8 0, .int .u8 0, .int .u8 0, .int .u8 0, .int .u8 0, .int .u8 0, .int .u8 0, .int .u8 0, .int .u8 0, .int .u8 0, .int .u8 0, .int .u8 0, .int .u8 0, .int .u8 0, .int .u8 0, .int .u8 0, .int .u8 0, .int .u8 0, .int .u8 0, .int .u8 0, .int .u8 0, .int .u8 0, .int .u8 0, .int .u8 0, .int .u8 0, .int .u8 0, .int .u8 0, .int .u8 0, .int .u8 0, .int .u8 0, .int .u8 0, .int .u8 0, .int .u8 0, .int .u8 0, .int .u8 0, .int .u8 0, .int .u8 0, .int .u8 0, .int .u8 0, .int .u8 0, .int .u8 0, .int .u8 0, .int .u8 0, .int .u8 0, .int .u8 0, .int .u8 0, .int .u8 0, .int .u8 0, .int .u8 0, .int .u8 0, .int .u8 0, .int .u8 0, .int .u8 0, .int .u8 0, .int .u8 0, .int .u8 0, .int .u8 0, .int .u8 0, .int .u8 0, .int .u8 0, .int .u8 0, .int .u8 0, .int .u8 0, .int .u8 0, .int .u8 0, .int .u8 0, .int .u8 0, .int .u8 0], true⟩),
  (238, ⟨.strct [(5, 0), (5, 1)], 2, 2, .agg [.int .u8 0, .int .u8 0], true⟩),
  (239, ⟨.strct [(5, 0), (5, 1)], 2, 2, .agg [.int .u8 0, .int .u8 0], true⟩),
  (240, ⟨.arr 16 239, 32, 32, .arr 16 2 [.agg [.int .u8 0, .int .u8 0], .agg [.int .u8 0, .int .u8 0], .agg [.int .u8 0, .int .u8 0], .agg [.int .u8 0, .int .u8 0], .agg [.int .u8 0, .int .u8 0], .agg [.int .u8 0, .int .u8 0], .agg [.int .u8 0, .int .u8 0], .agg [.int .u8 0, .int .u8 0], .agg [.int .u8 0, .int .u8 0], .agg [.int .u8 0, .int .u8 0], .agg [.int .u8 0, .int .u8 0], .agg [.int .u8 0, .int .u8 0], .agg [.int .u8 0, .int .u8 0], .agg [.int .u8 0, .int .u8 0], .agg [.int .u8 0, .int .u8 0], .agg [.int .u8 0, .int .u8 0]], true⟩),
  (241, ⟨.fn, 1, 8, .nilf, false⟩),
  (242, ⟨.arr 5 2, 5, 40, .arr 5 1 [.int .i64 0, .int .i64 0, .int .i64 0, .int .i64 0, .int .i64 0], true⟩),
  (243, ⟨.fn, 1, 8, .nilf, false⟩),
  (244, ⟨.fn, 1, 8, .nilf, false⟩),
  (245, ⟨.fn, 1, 8, .nilf, false⟩),
  (246, ⟨.fn, 1, 8, .nilf, false⟩),
  (247, ⟨.fn, 1, 8, .nilf, false⟩),
  (248, ⟨.fn, 1, 8, .nilf, false⟩),
  (249, ⟨.fn, 1, 8, .nilf, false⟩),
  (250, ⟨.fn, 1, 8, .nilf, false⟩),
  (251, ⟨.fn, 1, 8, .nilf, false⟩),
  (253, ⟨.fn, 1, 8, .nilf, false⟩),
  (255, ⟨.fn, 1, 8, .nilf, false⟩),
  (256, ⟨.fn, 1, 8, .nilf, false⟩),
  (257, ⟨.fn, 1, 8, .nilf, false⟩),
  (258, ⟨.fn, 1, 8, .nilf, false⟩),
  (259, ⟨.fn, 1, 8, .nilf, false⟩),
  (260, ⟨.sl 48, 1, 24, .nils, false⟩),
  (262, ⟨.fn, 1, 8, .nilf, false⟩),
  (263, ⟨.fn, 1, 8, .nilf, false⟩),
  (264, ⟨.fn, 1, 8, .nilf, false⟩),
  (265, ⟨.fn, 1, 8, .nilf, false⟩),
  (267, ⟨.fn, 1, 8, .nilf, false⟩),
  (268, ⟨.fn, 1, 8, .nilf, false⟩),
  (269, ⟨.fn, 1, 8, .nilf, false⟩),
  (270, ⟨.fn, 1, 8, .nilf, false⟩),
  (271, ⟨.mp 2 2, 1, 8, .any, false⟩),
  (272, ⟨.arr 10 9, 10, 160, .arr 10 1 [.str [], .str [], .str [], .str [], .str [], .str [], .str [], .str [], .str [], .str []], true⟩),
  (273, ⟨.fn, 1, 8, .nilf, false⟩),
  (274, ⟨.fn, 1, 8, .nilf, false⟩),
  (275, ⟨.fn, 1, 8, .nilf, false⟩),
  (276, ⟨.sl 50, 1, 24, .nils, false⟩),
  (277, ⟨.fn, 1, 8, .nilf, false⟩),
  (278, ⟨.fn, 1, 8, .nilf, false⟩),
  (279, ⟨.fn, 1, 8, .nilf, false⟩),
  (280, ⟨.fn, 1, 8, .nilf, false⟩),
  (281, ⟨.fn, 1, 8, .nilf, false⟩),
  (282, ⟨.fn, 1, 8, .nilf, false⟩),
  (283, ⟨.fn, 1, 8, .nilf, false⟩),
  (284, ⟨.fn, 1, 8, .nilf, false⟩),
  (285, ⟨.int .i64, 1, 8, .int .i64 0, false⟩),
  (287, ⟨.fn, 1, 8, .nilf, false⟩),
  (288, ⟨.fn, 1, 8, .nilf, false⟩),
  (289, ⟨.fn, 1, 8, .nilf, false⟩),
  (290, ⟨.arr 33 283, 33, 264, .arr 33 1 [.nilf, .nilf, .nilf, .nilf, .nilf, .nilf, .nilf, .nilf, .nilf, .nilf, .nilf, .nilf, .nilf, .nilf, .nilf, .nilf, .nilf, .nilf, .nilf, .nilf, .nilf, .nilf, .nilf, .nilf, .nilf, .nilf, .nilf, .nilf, .nilf, .nilf, .nilf, .nilf, .nilf], true⟩),
  (292, ⟨.fn, 1, 8, .nilf, false⟩),
  (293, ⟨.fn, 1, 8, .nilf, false⟩),
  (294, ⟨.fn, 1, 8, .nilf, false⟩),
  (295, ⟨.fn, 1, 8, .nilf, false⟩),
  (296, ⟨.fn, 1, 8, .nilf, false⟩),
  (297, ⟨.strct [(17, 0), (17, 1), (17, 2), (9, 3)], 4, 40, .agg [.nilp, .nilp, .nilp, .str []], false⟩),
  (298, ⟨.strct [(17, 0), (17, 1), (17, 2), (9, 3)], 4, 40, .agg [.nilp, .nilp, .nilp, .str []], false⟩),
  (299, ⟨.arr 0 16, 0, 0, .arr 0 1 [], true⟩),
  (300, ⟨.strct [(299, 0)], 0, 0, .agg [.arr 0 1 []], false⟩),
  (301, ⟨.strct [(299, 0)], 0, 0, .agg [.arr 0 1 []], false⟩),
  (302, ⟨.fn, 1, 8, .nilf, false⟩),
  (303, ⟨.int .u8, 1, 1, .int .u8 0, false⟩),
  (304, ⟨.int .u8, 1, 1, .int .u8 0, false⟩),
  (305, ⟨.fn, 1, 8, .nilf, false⟩),
  (306, ⟨.ptr 5, 1, 8, .nilp, false⟩),
  (307, ⟨.int .i32, 1, 4, .int .i32 0, false⟩),
  (308, ⟨.int .i32, 1, 4, .int .i32 0, false⟩),
  (309, ⟨.strct [(12, 0), (12, 1), (185, 2), (303, 3), (5, 4), (5, 5), (304, 6), (305, 7), (306, 8), (307, 9), (308, 10)], 11, 48, .agg [.int .u64 0, .int .u64 0, .int .u32 0, .int .u8 0, .int .u8 0, .int .u8 0, .int .u8 0, .nilf, .nilp, .int .i32 0, .int .i32 0], false⟩),
  (310, ⟨.strct [(12, 0), (12, 1), (185, 2), (303, 3), (5, 4), (5, 5), (304, 6), (305, 7), (306, 8), (307, 9), (308, 10)], 11, 48, .agg [.int .u64 0, .int .u64 0, .int .u32 0, .int .u8 0, .int .u8 0, .int .u8 0, .int .u8 0, .nilf, .nilp, .int .i32 0, .int .i32 0], false⟩)]
set_option maxRecDepth 100000 in
theorem zC5 : ttB Tryz.prog tt = true := by kernel_rfl
theorem mixed : Tryz.prog.follows .mixedOrders = true := by kernel_rfl
abbrev F.invigilatorlaw32_awake : Nat := 5
abbrev F.pairs_each_int_ : Nat := 35
abbrev F.slices_DeleteFunc___int_int_ : Nat := 38
abbrev F.policy_Check : Nat := 51
abbrev F.slices_IndexFunc___int_int_ : Nat := 62
abbrev F.policy_parts : Nat := 76
abbrev F.lattice_Check : Nat := 85
abbrev F.slices_Clone___int_int_ : Nat := 87
abbrev F.slices_SortFunc___int_int_ : Nat := 88
abbrev F.labels_compare : Nat := 90
abbrev F.slices_Compact___int_int_ : Nat := 91
abbrev F.slices_pdqsortCmpFunc_int_ : Nat := 115
abbrev F._policy_names__meet : Nat := 123
abbrev F.slices_insertionSortCmpFunc_int_ : Nat := 132
abbrev F.prims_table : Nat := 171
abbrev F._Plexer_reader__class : Nat := 172
abbrev F._Plexer_reader__while : Nat := 173
abbrev F.prims_errs : Nat := 182
abbrev F.prims_pair : Nat := 194
abbrev F.internal_stringslite_IndexByte : Nat := 248
def ft : List (Nat × Func) := [(5, Tryz.f5), (7, Tryz.f7), (13, Tryz.f13), (14, Tryz.f14), (15, Tryz.f15), (16, Tryz.f16), (17, Tryz.f17), (18, Tryz.f18), (19, Tryz.f19), (20, Tryz.f20), (23, Tryz.f23), (24, Tryz.f24), (26, Tryz.f26), (30, Tryz.f30), (34, Tryz.f34), (35, Tryz.f35), (36, Tryz.f36), (37, Tryz.f37), (38, Tryz.f38), (39, Tryz.f39), (40, Tryz.f40), (41, Tryz.f41), (42, Tryz.f42), (43, Tryz.f43), (44, Tryz.f44), (51, Tryz.f51), (52, Tryz.f52), (53, Tryz.f53), (54, Tryz.f54), (55, Tryz.f55), (56, Tryz.f56), (57, Tryz.f57), (62, Tryz.f62), (63, Tryz.f63), (64, Tryz.f64), (65, Tryz.f65), (76, Tryz.f76), (77, Tryz.f77), (78, Tryz.f78), (79, Tryz.f79), (80, Tryz.f80), (81, Tryz.f81), (82, Tryz.f82), (83, Tryz.f83), (85, Tryz.f85), (86, Tryz.f86), (87, Tryz.f87), (88, Tryz.f88), (89, Tryz.f89), (90, Tryz.f90), (91, Tryz.f91), (92, Tryz.f92), (96, Tryz.f96), (97, Tryz.f97), (98, Tryz.f98), (99, Tryz.f99), (100, Tryz.f100), (101, Tryz.f101), (102, Tryz.f102), (103, Tryz.f103), (104, Tryz.f104), (105, Tryz.f105), (106, Tryz.f106), (107, Tryz.f107), (108, Tryz.f108), (110, Tryz.f110), (111, Tryz.f111), (112, Tryz.f112), (113, Tryz.f113), (114, Tryz.f114), (115, Tryz.f115), (116, Tryz.f116), (123, Tryz.f123), (124, Tryz.f124), (125, Tryz.f125), (126, Tryz.f126), (127, Tryz.f127), (128, Tryz.f128), (129, Tryz.f129), (130, Tryz.f130), (131, Tryz.f131), (132, Tryz.f132), (133, Tryz.f133), (134, Tryz.f134), (135, Tryz.f135), (136, Tryz.f136), (137, Tryz.f137), (138, Tryz.f138), (139, Tryz.f139), (140, Tryz.f140), (141, Tryz.f141), (145, Tryz.f145), (146, Tryz.f146), (147, Tryz.f147), (148, Tryz.f148), (149, Tryz.f149), (150, Tryz.f150), (151, Tryz.f151), (152, Tryz.f152), (153, Tryz.f153), (154, Tryz.f154), (158, Tryz.f158), (159, Tryz.f159), (160, Tryz.f160), (161, Tryz.f161), (162, Tryz.f162), (163, Tryz.f163), (164, Tryz.f164), (165, Tryz.f165), (166, Tryz.f166), (167, Tryz.f167), (168, Tryz.f168), (171, Tryz.f171), (172, Tryz.f172), (173, Tryz.f173), (174, Tryz.f174), (175, Tryz.f175), (176, Tryz.f176), (177, Tryz.f177), (178, Tryz.f178), (182, Tryz.f182), (183, Tryz.f183), (184, Tryz.f184), (185, Tryz.f185), (187, Tryz.f187), (188, Tryz.f188), (189, Tryz.f189), (190, Tryz.f190), (191, Tryz.f191), (192, Tryz.f192), (193, Tryz.f193), (195, Tryz.f195), (196, Tryz.f196), (197, Tryz.f197), (198, Tryz.f198), (199, Tryz.f199), (200, Tryz.f200), (201, Tryz.f201), (202, Tryz.f202), (203, Tryz.f203), (204, Tryz.f204), (205, Tryz.f205), (206, Tryz.f206), (207, Tryz.f207), (208, Tryz.f208), (209, Tryz.f209), (210, Tryz.f210), (211, Tryz.f211), (212, Tryz.f212), (213, Tryz.f213), (214, Tryz.f214), (215, Tryz.f215), (216, Tryz.f216), (217, Tryz.f217), (218, Tryz.f218), (219, Tryz.f219), (220, Tryz.f220), (221, Tryz.f221), (222, Tryz.f222), (223, Tryz.f223), (224, Tryz.f224), (225, Tryz.f225), (226, Tryz.f226), (227, Tryz.f227), (228, Tryz.f228), (230, Tryz.f230), (231, Tryz.f231), (232, Tryz.f232), (233, Tryz.f233), (234, Tryz.f234), (235, Tryz.f235), (236, Tryz.f236), (237, Tryz.f237), (239, Tryz.f239), (240, Tryz.f240), (241, Tryz.f241), (242, Tryz.f242), (243, Tryz.f243), (244, Tryz.f244), (245, Tryz.f245), (246, Tryz.f246), (247, Tryz.f247), (248, Tryz.f248), (249, Tryz.f249), (250, Tryz.f250), (251, Tryz.f251), (253, Tryz.f253), (254, Tryz.f254), (255, Tryz.f255), (256, Tryz.f256), (257, Tryz.f257), (258, Tryz.f258), (259, Tryz.f259), (260, Tryz.f260), (261, Tryz.f261), (262, Tryz.f262), (263, Tryz.f263), (264, Tryz.f264), (265, Tryz.f265), (266, Tryz.f266), (267, Tryz.f267), (268, Tryz.f268), (269, Tryz.f269), (270, Tryz.f270), (271, Tryz.f271), (272, Tryz.f272), (273, Tryz.f273), (274, Tryz.f274), (275, Tryz.f275), (276, Tryz.f276), (277, Tryz.f277), (293, Tryz.f293)]
set_option maxRecDepth 100000 in
theorem zhn : zbd Tryz.prog ft := ⟨⟨Tryz.func5, by kernel_rfl⟩, ⟨Tryz.func7, by kernel_rfl⟩, ⟨Tryz.func13, by kernel_rfl⟩, ⟨Tryz.func14, by kernel_rfl⟩, ⟨Tryz.func15, by kernel_rfl⟩, ⟨Tryz.func16, by kernel_rfl⟩, ⟨Tryz.func17, by kernel_rfl⟩, ⟨Tryz.func18, by kernel_rfl⟩, ⟨Tryz.func19, by kernel_rfl⟩, ⟨Tryz.func20, by kernel_rfl⟩, ⟨Tryz.func23, by kernel_rfl⟩, ⟨Tryz.func24, by kernel_rfl⟩, ⟨Tryz.func26, by kernel_rfl⟩, ⟨Tryz.func30, by kernel_rfl⟩, ⟨Tryz.func34, by kernel_rfl⟩, ⟨Tryz.func35, by kernel_rfl⟩, ⟨Tryz.func36, by kernel_rfl⟩, ⟨Tryz.func37, by kernel_rfl⟩, ⟨Tryz.func38, by kernel_rfl⟩, ⟨Tryz.func39, by kernel_rfl⟩, ⟨Tryz.func40, by kernel_rfl⟩, ⟨Tryz.func41, by kernel_rfl⟩, ⟨Tryz.func42, by kernel_rfl⟩, ⟨Tryz.func43, by kernel_rfl⟩, ⟨Tryz.func44, by kernel_rfl⟩, ⟨Tryz.func51, by kernel_rfl⟩, ⟨Tryz.func52, by kernel_rfl⟩, ⟨Tryz.func53, by kernel_rfl⟩, ⟨Tryz.func54, by kernel_rfl⟩, ⟨Tryz.func55, by kernel_rfl⟩, ⟨Tryz.func56, by kernel_rfl⟩, ⟨Tryz.func57, by kernel_rfl⟩, ⟨Tryz.func62, by kernel_rfl⟩, ⟨Tryz.func63, by kernel_rfl⟩, ⟨Tryz.func64, by kernel_rfl⟩, ⟨Tryz.func65, by kernel_rfl⟩, ⟨Tryz.func76, by kernel_rfl⟩, ⟨Tryz.func77, by kernel_rfl⟩, ⟨Tryz.func78, by kernel_rfl⟩, ⟨Tryz.func79, by kernel_rfl⟩, ⟨Tryz.func80, by kernel_rfl⟩, ⟨Tryz.func81, by kernel_rfl⟩, ⟨Tryz.func82, by kernel_rfl⟩, ⟨Tryz.func83, by kernel_rfl⟩, ⟨Tryz.func85, by kernel_rfl⟩, ⟨Tryz.func86, by kernel_rfl⟩, ⟨Tryz.func87, by kernel_rfl⟩, ⟨Tryz.func88, by kernel_rfl⟩, ⟨Tryz.func89, by kernel_rfl⟩, ⟨Tryz.func90, by kernel_rfl⟩, ⟨Tryz.func91, by kernel_rfl⟩, ⟨Tryz.func92, by kernel_rfl⟩, ⟨Tryz.func96, by kernel_rfl⟩, ⟨Tryz.func97, by kernel_rfl⟩, ⟨Tryz.func98, by kernel_rfl⟩, ⟨Tryz.func99, by kernel_rfl⟩, ⟨Tryz.func100, by kernel_rfl⟩, ⟨Tryz.func101, by kernel_rfl⟩, ⟨Tryz.func102, by kernel_rfl⟩, ⟨Tryz.func103, by kernel_rfl⟩, ⟨Tryz.func104, by kernel_rfl⟩, ⟨Tryz.func105, by kernel_rfl⟩, ⟨Tryz.func106, by kernel_rfl⟩, ⟨Tryz.func107, by kernel_rfl⟩, ⟨Tryz.func108, by kernel_rfl⟩, ⟨Tryz.func110, by kernel_rfl⟩, ⟨Tryz.func111, by kernel_rfl⟩, ⟨Tryz.func112, by kernel_rfl⟩, ⟨Tryz.func113, by kernel_rfl⟩, ⟨Tryz.func114, by kernel_rfl⟩, ⟨Tryz.func115, by kernel_rfl⟩, ⟨Tryz.func116, by kernel_rfl⟩, ⟨Tryz.func123, by kernel_rfl⟩, ⟨Tryz.func124, by kernel_rfl⟩, ⟨Tryz.func125, by kernel_rfl⟩, ⟨Tryz.func126, by kernel_rfl⟩, ⟨Tryz.func127, by kernel_rfl⟩, ⟨Tryz.func128, by kernel_rfl⟩, ⟨Tryz.func129, by kernel_rfl⟩, ⟨Tryz.func130, by kernel_rfl⟩, ⟨Tryz.func131, by kernel_rfl⟩, ⟨Tryz.func132, by kernel_rfl⟩, ⟨Tryz.func133, by kernel_rfl⟩, ⟨Tryz.func134, by kernel_rfl⟩, ⟨Tryz.func135, by kernel_rfl⟩, ⟨Tryz.func136, by kernel_rfl⟩, ⟨Tryz.func137, by kernel_rfl⟩, ⟨Tryz.func138, by kernel_rfl⟩, ⟨Tryz.func139, by kernel_rfl⟩, ⟨Tryz.func140, by kernel_rfl⟩, ⟨Tryz.func141, by kernel_rfl⟩, ⟨Tryz.func145, by kernel_rfl⟩, ⟨Tryz.func146, by kernel_rfl⟩, ⟨Tryz.func147, by kernel_rfl⟩, ⟨Tryz.func148, by kernel_rfl⟩, ⟨Tryz.func149, by kernel_rfl⟩, ⟨Tryz.func150, by kernel_rfl⟩, ⟨Tryz.func151, by kernel_rfl⟩, ⟨Tryz.func152, by kernel_rfl⟩, ⟨Tryz.func153, by kernel_rfl⟩, ⟨Tryz.func154, by kernel_rfl⟩, ⟨Tryz.func158, by kernel_rfl⟩, ⟨Tryz.func159, by kernel_rfl⟩, ⟨Tryz.func160, by kernel_rfl⟩, ⟨Tryz.func161, by kernel_rfl⟩, ⟨Tryz.func162, by kernel_rfl⟩, ⟨Tryz.func163, by kernel_rfl⟩, ⟨Tryz.func164, by kernel_rfl⟩, ⟨Tryz.func165, by kernel_rfl⟩, ⟨Tryz.func166, by kernel_rfl⟩, ⟨Tryz.func167, by kernel_rfl⟩, ⟨Tryz.func168, by kernel_rfl⟩, ⟨Tryz.func171, by kernel_rfl⟩, ⟨Tryz.func172, by kernel_rfl⟩, ⟨Tryz.func173, by kernel_rfl⟩, ⟨Tryz.func174, by kernel_rfl⟩, ⟨Tryz.func175, by kernel_rfl⟩, ⟨Tryz.func176, by kernel_rfl⟩, ⟨Tryz.func177, by kernel_rfl⟩, ⟨Tryz.func178, by kernel_rfl⟩, ⟨Tryz.func182, by kernel_rfl⟩, ⟨Tryz.func183, by kernel_rfl⟩, ⟨Tryz.func184, by kernel_rfl⟩, ⟨Tryz.func185, by kernel_rfl⟩, ⟨Tryz.func187, by kernel_rfl⟩, ⟨Tryz.func188, by kernel_rfl⟩, ⟨Tryz.func189, by kernel_rfl⟩, ⟨Tryz.func190, by kernel_rfl⟩, ⟨Tryz.func191, by kernel_rfl⟩, ⟨Tryz.func192, by kernel_rfl⟩, ⟨Tryz.func193, by kernel_rfl⟩, ⟨Tryz.func195, by kernel_rfl⟩, ⟨Tryz.func196, by kernel_rfl⟩, ⟨Tryz.func197, by kernel_rfl⟩, ⟨Tryz.func198, by kernel_rfl⟩, ⟨Tryz.func199, by kernel_rfl⟩, ⟨Tryz.func200, by kernel_rfl⟩, ⟨Tryz.func201, by kernel_rfl⟩, ⟨Tryz.func202, by kernel_rfl⟩, ⟨Tryz.func203, by kernel_rfl⟩, ⟨Tryz.func204, by kernel_rfl⟩, ⟨Tryz.func205, by kernel_rfl⟩, ⟨Tryz.func206, by kernel_rfl⟩, ⟨Tryz.func207, by kernel_rfl⟩, ⟨Tryz.func208, by kernel_rfl⟩, ⟨Tryz.func209, by kernel_rfl⟩, ⟨Tryz.func210, by kernel_rfl⟩, ⟨Tryz.func211, by kernel_rfl⟩, ⟨Tryz.func212, by kernel_rfl⟩, ⟨Tryz.func213, by kernel_rfl⟩, ⟨Tryz.func214, by kernel_rfl⟩, ⟨Tryz.func215, by kernel_rfl⟩, ⟨Tryz.func216, by kernel_rfl⟩, ⟨Tryz.func217, by kernel_rfl⟩, ⟨Tryz.func218, by kernel_rfl⟩, ⟨Tryz.func219, by kernel_rfl⟩, ⟨Tryz.func220, by kernel_rfl⟩, ⟨Tryz.func221, by kernel_rfl⟩, ⟨Tryz.func222, by kernel_rfl⟩, ⟨Tryz.func223, by kernel_rfl⟩, ⟨Tryz.func224, by kernel_rfl⟩, ⟨Tryz.func225, by kernel_rfl⟩, ⟨Tryz.func226, by kernel_rfl⟩, ⟨Tryz.func227, by kernel_rfl⟩, ⟨Tryz.func228, by kernel_rfl⟩, ⟨Tryz.func230, by kernel_rfl⟩, ⟨Tryz.func231, by kernel_rfl⟩, ⟨Tryz.func232, by kernel_rfl⟩, ⟨Tryz.func233, by kernel_rfl⟩, ⟨Tryz.func234, by kernel_rfl⟩, ⟨Tryz.func235, by kernel_rfl⟩, ⟨Tryz.func236, by kernel_rfl⟩, ⟨Tryz.func237, by kernel_rfl⟩, ⟨Tryz.func239, by kernel_rfl⟩, ⟨Tryz.func240, by kernel_rfl⟩, ⟨Tryz.func241, by kernel_rfl⟩, ⟨Tryz.func242, by kernel_rfl⟩, ⟨Tryz.func243, by kernel_rfl⟩, ⟨Tryz.func244, by kernel_rfl⟩, ⟨Tryz.func245, by kernel_rfl⟩, ⟨Tryz.func246, by kernel_rfl⟩, ⟨Tryz.func247, by kernel_rfl⟩, ⟨Tryz.func248, by kernel_rfl⟩, ⟨Tryz.func249, by kernel_rfl⟩, ⟨Tryz.func250, by kernel_rfl⟩, ⟨Tryz.func251, by kernel_rfl⟩, ⟨Tryz.func253, by kernel_rfl⟩, ⟨Tryz.func254, by kernel_rfl⟩, ⟨Tryz.func255, by kernel_rfl⟩, ⟨Tryz.func256, by kernel_rfl⟩, ⟨Tryz.func257, by kernel_rfl⟩, ⟨Tryz.func258, by kernel_rfl⟩, ⟨Tryz.func259, by kernel_rfl⟩, ⟨Tryz.func260, by kernel_rfl⟩, ⟨Tryz.func261, by kernel_rfl⟩, ⟨Tryz.func262, by kernel_rfl⟩, ⟨Tryz.func263, by kernel_rfl⟩, ⟨Tryz.func264, by kernel_rfl⟩, ⟨Tryz.func265, by kernel_rfl⟩, ⟨Tryz.func266, by kernel_rfl⟩, ⟨Tryz.func267, by kernel_rfl⟩, ⟨Tryz.func268, by kernel_rfl⟩, ⟨Tryz.func269, by kernel_rfl⟩, ⟨Tryz.func270, by kernel_rfl⟩, ⟨Tryz.func271, by kernel_rfl⟩, ⟨Tryz.func272, by kernel_rfl⟩, ⟨Tryz.func273, by kernel_rfl⟩, ⟨Tryz.func274, by kernel_rfl⟩, ⟨Tryz.func275, by kernel_rfl⟩, ⟨Tryz.func276, by kernel_rfl⟩, ⟨Tryz.func277, by kernel_rfl⟩, ⟨Tryz.func293, by kernel_rfl⟩, trivial⟩
open Go.RowKit (Below)
def gl : List (Nat × SV) := [(0, .sl 1 [.str [105, 110, 105, 110], .str [105, 48, 105, 110, 105, 110], .str [105, 110, 105, 48, 105, 110], .str [105, 110, 105, 110, 105, 110]]), (1, .sl 1 [.str [107, 48, 107, 110, 105, 110], .str [107, 110, 107, 48, 105, 110], .str [107, 110, 107, 110, 105, 110]])]
theorem zAp (w : World) (u : Value) : Calls Tryz.prog F.prims_errs #[u] w fun e w' => e = .returned u /\ Below w.heap.size w w' := by
  refine calls_of_wp Tryz.func182 rfl ?_
  have e0 : (#[u] ++ Array.replicate (Tryz.f182.ntmps - #[u].size) undef) = #[u, undef, undef, undef] := by
    simp [Tryz.f182, Array.replicate]
  rw [e0]
  refine wp_seq (wp_region ?_)
  simp [wpOps, Region.wanted, Oper.wp, execOp, Oper.upon_value, Act.put, Act.eval, Exit.then, List.range, List.range.loop]
  refine .inl (wp_seq (wp_region ?_))
  simp [wpOps, Region.wanted, Oper.wp, execOp, Oper.upon_value, Act.put, Act.eval, Exit.then, List.range, List.range.loop]
  refine .inl (.inl (wp_ret ?_))
  refine ⟨rfl, u, ?_, rfl, Below.refl _ _⟩
  simp [results, Tryz.f182]
def E : Env := { P := Tryz.prog, tt := tt, gl := gl, lend := [F._Plexer_reader__class, F._Plexer_reader__while, F._policy_names__meet, F.pairs_each_int_, F.slices_DeleteFunc___int_int_, F.slices_SortFunc___int_int_, F.slices_pdqsortCmpFunc_int_, F.slices_insertionSortCmpFunc_int_, F.slices_Compact___int_int_, F.slices_Clone___int_int_, F.labels_compare, F.slices_IndexFunc___int_int_ + 11000000], idf := [F.prims_errs], mt := [(134, "invigilator/labels.less", 293)] }
theorem zE5 : ∀ f, wj f [F.prims_errs] = true -> wJ Tryz.prog f /\ ∀ (w : World) (u : Value), Calls Tryz.prog f #[u] w fun e w' => e = .returned u /\ Below w.heap.size w w' := by
  intro f hf
  have : f = F.prims_errs := by simpa using memb_mem.1 hf
  subst this
  exact ⟨⟨_, Tryz.func182, rfl, by decide +kernel⟩, zAp⟩
set_option maxRecDepth 100000 in
theorem zzu (w : World) (v : Value) : (method (E.P.types.size + Made.depth) 134 v "invigilator/labels.less").run E.P w = .ok (293, v) w := by kernel_rfl
theorem zEh : ∀ T name f, lkM E.mt T name = some f -> ∀ (w : World) (v : Value), (method (E.P.types.size + Made.depth) T v name).run E.P w = .ok (f, v) w := by
  intro T name f h w v
  have e : E.mt = [(134, "invigilator/labels.less", 293)] := rfl
  rw [e] at h
  unfold lkM at h
  split at h
  . rename_i h1 h2
    cases h
    have := zq h1; subst this
    have e2 : name = "invigilator/labels.less" := (of_decide_eq_true h2).symm
    subst e2
    exact zzu w v
  . unfold lkM at h; cases h
theorem ok : EnvOK E := have h := zyd (gl := gl) (ld := []) zC5 mixed zE5; ⟨h.tt', h.mixed, h.idf, zEh⟩
end Go.Sx.Tz
end
namespace Go.Sx.Tz
open Go Go.Proofs Go.Shelf
end Go.Sx.Tz
noncomputable section
namespace Go.Sx.Tz
open Go.Proofs
set_option maxRecDepth 100000
theorem zi9 {E : Env} : ∀ f az r, lkX [] f az = some r -> Ret E f az r := fun _ _ _ h => by cases h
theorem zak {E : Env} {g : Nat} {k : List SV -> Rt} {l : List (Nat × (List SV -> Rt))} (h : ∀ az r, k az = some r -> Ret E g az r) (hl : ∀ f az r, lkX l f az = some r -> Ret E f az r) :
    ∀ f az r, lkX ((g, k) :: l) f az = some r -> Ret E f az r := by
  intro f az r hk
  simp only [lkX] at hk
  split at hk
  . rename_i e
    have := zq e; subst this
    exact h az r hk
  . exact hl f az r hk
def E2 : Env := { E with lend := F.prims_errs :: E.lend }
theorem ok2 : EnvOK E2 := ⟨ok.tt', ok.mixed, ok.idf, ok.mt⟩
theorem js {f : FuncId} {l : List SV} {r : SV} (h : Ret E2 f l r) : Ret E f l r := h
def ft2 : List (Nat × Func) := [(194, Tryz.f194), (182, Tryz.f182)]
theorem wT : zbd Tryz.prog ft2 E2.lend := ⟨⟨Tryz.func194, by kernel_rfl⟩, ⟨Tryz.func182, by kernel_rfl⟩, trivial⟩
def zf5 : List SV := [.str [97, 100, 100], .sl 1 [.int .i64 12]]
def C_pair_0 : SV := .agg [.str [97, 100, 100], .sl 1 [.str [105, 48, 105, 110, 105, 110], .str [105, 110, 105, 48, 105, 110], .str [105, 110, 105, 110, 105, 110]], .sl 1 [.int .i64 11, .int .i64 12], .nilf, .nilf]
theorem zxq : Ret E F.prims_pair zf5 C_pair_0 := js (qA ok2 wT HkOK.no (show qN E2 ft2 Hk.no 1000 60 (.ret F.prims_pair zf5) = some C_pair_0 by kernel_rfl))
def zgf : List SV := [.str [115, 117, 98], .sl 1 [.int .i64 12]]
def C_pair_1 : SV := .agg [.str [115, 117, 98], .sl 1 [.str [105, 48, 105, 110, 105, 110], .str [105, 110, 105, 48, 105, 110], .str [105, 110, 105, 110, 105, 110]], .sl 1 [.int .i64 11, .int .i64 12], .nilf, .nilf]
theorem zy3 : Ret E F.prims_pair zgf C_pair_1 := js (qA ok2 wT HkOK.no (show qN E2 ft2 Hk.no 1000 60 (.ret F.prims_pair zgf) = some C_pair_1 by kernel_rfl))
def zgj : List SV := [.str [109, 117, 108], .sl 1 [.int .i64 12]]
def C_pair_2 : SV := .agg [.str [109, 117, 108], .sl 1 [.str [105, 48, 105, 110, 105, 110], .str [105, 110, 105, 48, 105, 110], .str [105, 110, 105, 110, 105, 110]], .sl 1 [.int .i64 11, .int .i64 12], .nilf, .nilf]
theorem zxb : Ret E F.prims_pair zgj C_pair_2 := js (qA ok2 wT HkOK.no (show qN E2 ft2 Hk.no 1000 60 (.ret F.prims_pair zgj) = some C_pair_2 by kernel_rfl))
def zg7 : List SV := [.str [100, 105, 118], .sl 1 [.int .i64 12, .int .i64 13]]
def C_pair_3 : SV := .agg [.str [100, 105, 118], .sl 1 [.str [105, 48, 105, 110, 105, 110], .str [105, 110, 105, 48, 105, 110], .str [105, 110, 105, 110, 105, 110]], .sl 1 [.int .i64 11, .int .i64 12, .int .i64 13], .nilf, .nilf]
theorem zwj : Ret E F.prims_pair zg7 C_pair_3 := js (qA ok2 wT HkOK.no (show qN E2 ft2 Hk.no 1000 60 (.ret F.prims_pair zg7) = some C_pair_3 by kernel_rfl))
def zfz : List SV := [.str [109, 111, 100], .sl 1 [.int .i64 13]]
def C_pair_4 : SV := .agg [.str [109, 111, 100], .sl 1 [.str [105, 48, 105, 110, 105, 110], .str [105, 110, 105, 48, 105, 110], .str [105, 110, 105, 110, 105, 110]], .sl 1 [.int .i64 11, .int .i64 13], .nilf, .nilf]
theorem zwm : Ret E F.prims_pair zfz C_pair_4 := js (qA ok2 wT HkOK.no (show qN E2 ft2 Hk.no 1000 60 (.ret F.prims_pair zfz) = some C_pair_4 by kernel_rfl))
def zf6 : List SV := [.str [112, 108, 117, 115], .nils]
def C_pair_5 : SV := .agg [.str [112, 108, 117, 115], .sl 1 [.str [105, 48, 105, 110, 105, 110], .str [105, 110, 105, 48, 105, 110], .str [105, 110, 105, 110, 105, 110]], .sl 1 [.int .i64 11], .nilf, .nilf]
theorem zwo : Ret E F.prims_pair zf6 C_pair_5 := js (qA ok2 wT HkOK.no (show qN E2 ft2 Hk.no 1000 60 (.ret F.prims_pair zf6) = some C_pair_5 by kernel_rfl))
def zgl : List SV := [.str [109, 105, 110, 117, 115], .nils]
def C_pair_6 : SV := .agg [.str [109, 105, 110, 117, 115], .sl 1 [.str [105, 48, 105, 110, 105, 110], .str [105, 110, 105, 48, 105, 110], .str [105, 110, 105, 110, 105, 110]], .sl 1 [.int .i64 11], .nilf, .nilf]
theorem zxu : Ret E F.prims_pair zgl C_pair_6 := js (qA ok2 wT HkOK.no (show qN E2 ft2 Hk.no 1000 60 (.ret F.prims_pair zgl) = some C_pair_6 by kernel_rfl))
def zgy : List SV := [.str [116, 105, 109, 101, 115], .nils]
def C_pair_7 : SV := .agg [.str [116, 105, 109, 101, 115], .sl 1 [.str [105, 48, 105, 110, 105, 110], .str [105, 110, 105, 48, 105, 110], .str [105, 110, 105, 110, 105, 110]], .sl 1 [.int .i64 11], .nilf, .nilf]
theorem zxf : Ret E F.prims_pair zgy C_pair_7 := js (qA ok2 wT HkOK.no (show qN E2 ft2 Hk.no 1000 60 (.ret F.prims_pair zgy) = some C_pair_7 by kernel_rfl))
def zgc : List SV := [.str [108, 116], .nils]
def C_pair_8 : SV := .agg [.str [108, 116], .sl 1 [.str [105, 48, 105, 110, 105, 110], .str [105, 110, 105, 48, 105, 110], .str [105, 110, 105, 110, 105, 110]], .sl 1 [.int .i64 11], .nilf, .nilf]
theorem zy1 : Ret E F.prims_pair zgc C_pair_8 := js (qA ok2 wT HkOK.no (show qN E2 ft2 Hk.no 1000 60 (.ret F.prims_pair zgc) = some C_pair_8 by kernel_rfl))
def zg3 : List SV := [.str [108, 101], .nils]
def C_pair_9 : SV := .agg [.str [108, 101], .sl 1 [.str [105, 48, 105, 110, 105, 110], .str [105, 110, 105, 48, 105, 110], .str [105, 110, 105, 110, 105, 110]], .sl 1 [.int .i64 11], .nilf, .nilf]
theorem zwl : Ret E F.prims_pair zg3 C_pair_9 := js (qA ok2 wT HkOK.no (show qN E2 ft2 Hk.no 1000 60 (.ret F.prims_pair zg3) = some C_pair_9 by kernel_rfl))
def zdg : List SV := [.str [103, 116], .nils]
def C_pair_10 : SV := .agg [.str [103, 116], .sl 1 [.str [105, 48, 105, 110, 105, 110], .str [105, 110, 105, 48, 105, 110], .str [105, 110, 105, 110, 105, 110]], .sl 1 [.int .i64 11], .nilf, .nilf]
theorem zvp : Ret E F.prims_pair zdg C_pair_10 := js (qA ok2 wT HkOK.no (show qN E2 ft2 Hk.no 1000 60 (.ret F.prims_pair zdg) = some C_pair_10 by kernel_rfl))
def zdf : List SV := [.str [103, 101], .nils]
def C_pair_11 : SV := .agg [.str [103, 101], .sl 1 [.str [105, 48, 105, 110, 105, 110], .str [105, 110, 105, 48, 105, 110], .str [105, 110, 105, 110, 105, 110]], .sl 1 [.int .i64 11], .nilf, .nilf]
theorem zvg : Ret E F.prims_pair zdf C_pair_11 := js (qA ok2 wT HkOK.no (show qN E2 ft2 Hk.no 1000 60 (.ret F.prims_pair zdf) = some C_pair_11 by kernel_rfl))
def zdd : List SV := [.str [97, 110, 100], .nils]
def C_pair_12 : SV := .agg [.str [97, 110, 100], .sl 1 [.str [105, 48, 105, 110, 105, 110], .str [105, 110, 105, 48, 105, 110], .str [105, 110, 105, 110, 105, 110]], .sl 1 [.int .i64 11], .nilf, .nilf]
theorem zwd : Ret E F.prims_pair zdd C_pair_12 := js (qA ok2 wT HkOK.no (show qN E2 ft2 Hk.no 1000 60 (.ret F.prims_pair zdd) = some C_pair_12 by kernel_rfl))
def zdz : List SV := [.str [111, 114], .nils]
def C_pair_13 : SV := .agg [.str [111, 114], .sl 1 [.str [105, 48, 105, 110, 105, 110], .str [105, 110, 105, 48, 105, 110], .str [105, 110, 105, 110, 105, 110]], .sl 1 [.int .i64 11], .nilf, .nilf]
theorem zul : Ret E F.prims_pair zdz C_pair_13 := js (qA ok2 wT HkOK.no (show qN E2 ft2 Hk.no 1000 60 (.ret F.prims_pair zdz) = some C_pair_13 by kernel_rfl))
def zc8 : List SV := [.str [109, 105, 110], .nils]
def C_pair_14 : SV := .agg [.str [109, 105, 110], .sl 1 [.str [105, 48, 105, 110, 105, 110], .str [105, 110, 105, 48, 105, 110], .str [105, 110, 105, 110, 105, 110]], .sl 1 [.int .i64 11], .nilf, .nilf]
theorem zuu : Ret E F.prims_pair zc8 C_pair_14 := js (qA ok2 wT HkOK.no (show qN E2 ft2 Hk.no 1000 60 (.ret F.prims_pair zc8) = some C_pair_14 by kernel_rfl))
def zdv : List SV := [.str [109, 97, 120], .nils]
def C_pair_15 : SV := .agg [.str [109, 97, 120], .sl 1 [.str [105, 48, 105, 110, 105, 110], .str [105, 110, 105, 48, 105, 110], .str [105, 110, 105, 110, 105, 110]], .sl 1 [.int .i64 11], .nilf, .nilf]
theorem zvw : Ret E F.prims_pair zdv C_pair_15 := js (qA ok2 wT HkOK.no (show qN E2 ft2 Hk.no 1000 60 (.ret F.prims_pair zdv) = some C_pair_15 by kernel_rfl))
def zzm : List (List SV × SV) := [(zf5, C_pair_0), (zgf, C_pair_1), (zgj, C_pair_2), (zg7, C_pair_3), (zfz, C_pair_4), (zf6, C_pair_5), (zgl, C_pair_6), (zgy, C_pair_7), (zgc, C_pair_8), (zg3, C_pair_9), (zdg, C_pair_10), (zdf, C_pair_11), (zdd, C_pair_12), (zdz, C_pair_13), (zc8, C_pair_14), (zdv, C_pair_15)]
def hkP : Hk := ⟨(F.prims_pair, zcl zzm) :: [], []⟩
theorem zC1 : HkOK E hkP := ⟨zak (fun az r h => xj (l := zzm) ⟨zxq, zy3, zxb, zwj, zwm, zwo, zxu, zxf, zy1, zwl, zvp, zvg, zwd, zul, zuu, zvw, trivial⟩ az r h) zi9, fun _ _ _ _ _ _ _ _ h => (by cases h)⟩
def V_prims_table : SV := .sl 5 [.agg [.str [], .nils, .nils, .nilf, .nilf], .agg [.str [110, 101, 103], .sl 1 [.str [105, 110, 105, 110]], .sl 1 [.int .i64 12], .nilf, .nilf], .agg [.str [97, 98, 115], .sl 1 [.str [105, 110, 105, 110]], .sl 1 [.int .i64 12], .nilf, .nilf], .agg [.str [110, 111, 116], .sl 1 [.str [105, 110, 105, 110]], .nils, .nilf, .nilf], .agg [.str [115, 104, 97, 112, 101], .sl 1 [.str [107, 110, 105, 49]], .nils, .fn 183 [], .nilf], .agg [.str [114, 97, 118, 101, 108], .sl 1 [.str [107, 110, 107, 49]], .nils, .fn 184 [], .nilf], .agg [.str [114, 101, 118, 101, 114, 115, 101], .sl 1 [.str [107, 49, 107, 49], .str [107, 50, 107, 50]], .nils, .fn 185 [], .nilf], .agg [.str [102, 108, 105, 112], .sl 1 [.str [107, 50, 107, 50]], .nils, .fn 186 [], .nilf], .agg [.str [105, 111, 116, 97], .sl 1 [.str [105, 48, 105, 49]], .sl 1 [.int .i64 13, .int .i64 15], .fn 187 [], .nilf], .agg [.str [115, 117, 109], .sl 1 [.str [105, 49, 105, 48], .str [105, 50, 105, 49]], .sl 1 [.int .i64 12], .fn 188 [], .nilf], .agg [.str [108, 101, 97, 115, 116], .sl 1 [.str [105, 49, 105, 48], .str [105, 50, 105, 49]], .sl 1 [.int .i64 13], .fn 189 [], .nilf], .agg [.str [109, 111, 115, 116], .sl 1 [.str [105, 49, 105, 48], .str [105, 50, 105, 49]], .sl 1 [.int .i64 13], .fn 190 [], .nilf], .agg [.str [99, 111, 117, 110, 116], .sl 1 [.str [107, 49, 105, 48], .str [107, 50, 105, 49]], .nils, .fn 191 [], .nilf], .agg [.str [115, 99, 97, 110], .sl 1 [.str [105, 49, 105, 49], .str [105, 50, 105, 50]], .sl 1 [.int .i64 12], .fn 192 [], .nilf], .agg [.str [103, 114, 97, 100, 101], .sl 1 [.str [105, 49, 105, 49]], .nils, .fn 193 [], .nilf], .agg [.str [97, 100, 100], .sl 1 [.str [105, 48, 105, 110, 105, 110], .str [105, 110, 105, 48, 105, 110], .str [105, 110, 105, 110, 105, 110]], .sl 1 [.int .i64 11, .int .i64 12], .nilf, .nilf], .agg [.str [115, 117, 98], .sl 1 [.str [105, 48, 105, 110, 105, 110], .str [105, 110, 105, 48, 105, 110], .str [105, 110, 105, 110, 105, 110]], .sl 1 [.int .i64 11, .int .i64 12], .nilf, .nilf], .agg [.str [109, 117, 108], .sl 1 [.str [105, 48, 105, 110, 105, 110], .str [105, 110, 105, 48, 105, 110], .str [105, 110, 105, 110, 105, 110]], .sl 1 [.int .i64 11, .int .i64 12], .nilf, .nilf], .agg [.str [100, 105, 118], .sl 1 [.str [105, 48, 105, 110, 105, 110], .str [105, 110, 105, 48, 105, 110], .str [105, 110, 105, 110, 105, 110]], .sl 1 [.int .i64 11, .int .i64 12, .int .i64 13], .nilf, .nilf], .agg [.str [109, 111, 100], .sl 1 [.str [105, 48, 105, 110, 105, 110], .str [105, 110, 105, 48, 105, 110], .str [105, 110, 105, 110, 105, 110]], .sl 1 [.int .i64 11, .int .i64 13], .nilf, .nilf], .agg [.str [112, 108, 117, 115], .sl 1 [.str [105, 48, 105, 110, 105, 110], .str [105, 110, 105, 48, 105, 110], .str [105, 110, 105, 110, 105, 110]], .sl 1 [.int .i64 11], .nilf, .nilf], .agg [.str [109, 105, 110, 117, 115], .sl 1 [.str [105, 48, 105, 110, 105, 110], .str [105, 110, 105, 48, 105, 110], .str [105, 110, 105, 110, 105, 110]], .sl 1 [.int .i64 11], .nilf, .nilf], .agg [.str [116, 105, 109, 101, 115], .sl 1 [.str [105, 48, 105, 110, 105, 110], .str [105, 110, 105, 48, 105, 110], .str [105, 110, 105, 110, 105, 110]], .sl 1 [.int .i64 11], .nilf, .nilf], .agg [.str [101, 113], .sl 1 [.str [107, 48, 107, 110, 105, 110], .str [107, 110, 107, 48, 105, 110], .str [107, 110, 107, 110, 105, 110]], .sl 1 [.int .i64 11], .nilf, .nilf], .agg [.str [110, 101], .sl 1 [.str [107, 48, 107, 110, 105, 110], .str [107, 110, 107, 48, 105, 110], .str [107, 110, 107, 110, 105, 110]], .sl 1 [.int .i64 11], .nilf, .nilf], .agg [.str [108, 116], .sl 1 [.str [105, 48, 105, 110, 105, 110], .str [105, 110, 105, 48, 105, 110], .str [105, 110, 105, 110, 105, 110]], .sl 1 [.int .i64 11], .nilf, .nilf], .agg [.str [108, 101], .sl 1 [.str [105, 48, 105, 110, 105, 110], .str [105, 110, 105, 48, 105, 110], .str [105, 110, 105, 110, 105, 110]], .sl 1 [.int .i64 11], .nilf, .nilf], .agg [.str [103, 116], .sl 1 [.str [105, 48, 105, 110, 105, 110], .str [105, 110, 105, 48, 105, 110], .str [105, 110, 105, 110, 105, 110]], .sl 1 [.int .i64 11], .nilf, .nilf], .agg [.str [103, 101], .sl 1 [.str [105, 48, 105, 110, 105, 110], .str [105, 110, 105, 48, 105, 110], .str [105, 110, 105, 110, 105, 110]], .sl 1 [.int .i64 11], .nilf, .nilf], .agg [.str [97, 110, 100], .sl 1 [.str [105, 48, 105, 110, 105, 110], .str [105, 110, 105, 48, 105, 110], .str [105, 110, 105, 110, 105, 110]], .sl 1 [.int .i64 11], .nilf, .nilf], .agg [.str [111, 114], .sl 1 [.str [105, 48, 105, 110, 105, 110], .str [105, 110, 105, 48, 105, 110], .str [105, 110, 105, 110, 105, 110]], .sl 1 [.int .i64 11], .nilf, .nilf], .agg [.str [109, 105, 110], .sl 1 [.str [105, 48, 105, 110, 105, 110], .str [105, 110, 105, 48, 105, 110], .str [105, 110, 105, 110, 105, 110]], .sl 1 [.int .i64 11], .nilf, .nilf], .agg [.str [109, 97, 120], .sl 1 [.str [105, 48, 105, 110, 105, 110], .str [105, 110, 105, 48, 105, 110], .str [105, 110, 105, 110, 105, 110]], .sl 1 [.int .i64 11], .nilf, .nilf], .agg [.str [116, 97, 107, 101], .sl 1 [.str [105, 48, 107, 49, 107, 49]], .nils, .nilf, .fn 195 []], .agg [.str [100, 114, 111, 112], .sl 1 [.str [105, 48, 107, 49, 107, 49]], .nils, .nilf, .fn 196 []], .agg [.str [102, 105, 108, 108], .sl 1 [.str [105, 48, 107, 48, 107, 49]], .sl 1 [.int .i64 13, .int .i64 15], .nilf, .fn 197 []], .agg [.str [103, 114, 105, 100], .sl 1 [.str [105, 49, 107, 49, 107, 50]], .sl 1 [.int .i64 11, .int .i64 13, .int .i64 15], .nilf, .fn 198 []], .agg [.str [99, 97, 116], .sl 1 [.str [107, 49, 107, 49, 107, 49], .str [107, 50, 107, 50, 107, 50]], .sl 1 [.int .i64 11, .int .i64 15], .nilf, .fn 199 []], .agg [.str [97, 116], .sl 1 [.str [107, 49, 105, 48, 107, 48], .str [107, 49, 105, 49, 107, 49]], .sl 1 [.int .i64 14], .nilf, .fn 200 []], .agg [.str [105, 110], .sl 1 [.str [107, 110, 107, 49, 105, 110]], .nils, .nilf, .fn 201 []], .agg [.str [112, 105, 99, 107], .sl 1 [.str [105, 49, 107, 49, 107, 49]], .sl 1 [.int .i64 11], .nilf, .fn 202 []]]
theorem L_prims_table : Ret E F.prims_table [] V_prims_table := xm ok zhn zC1 (show qN E ft hkP 1000 60 (.ret F.prims_table []) = some V_prims_table by kernel_rfl)
def hk0 : Hk := ⟨(F.prims_table, zcl [([], V_prims_table)]) :: [], []⟩
theorem hk0_ok : HkOK E hk0 := ⟨zak (fun az r h => xj (l := [([], V_prims_table)]) ⟨L_prims_table, trivial⟩ az r h) zi9, fun _ _ _ _ _ _ _ _ h => (by cases h)⟩
def ft0 : List (Nat × Func) := wy [F.prims_table] ft
end Go.Sx.Tz
end
noncomputable section
namespace Go.Sx.Tz
open Go.Proofs
set_option maxRecDepth 100000
def yw : List SV := [.agg [.sl 1 [.str [108, 111, 119], .str [97, 110, 110], .str [98, 111, 98], .str [116, 111, 112]], .sl 1 [.int .u8 15, .int .u8 10, .int .u8 12, .int .u8 8]]]
def C_lattice_Check_1 : SV := .tup [.int .i64 0, .int .i64 0]
theorem zfc : Ret E F.lattice_Check yw C_lattice_Check_1 := xm ok (je zhn) hk0_ok (show qN E ft0 hk0 1000 60 (.ret F.lattice_Check yw) = some C_lattice_Check_1 by kernel_rfl)
def zEv : List (Nat × Func) := wy [F.prims_table, F.lattice_Check] ft
def hkM1 : Hk := ⟨(F.lattice_Check, zcl [(yw, C_lattice_Check_1)]) :: hk0.x, []⟩
theorem hkM1_ok : HkOK E hkM1 := ⟨zak (fun az r h => xj (l := [(yw, C_lattice_Check_1)]) ⟨zfc, trivial⟩ az r h) hk0_ok.x, fun _ _ _ _ _ _ _ _ h => (by cases h)⟩
def yK : List SV := [.agg [.agg [.sl 1 [.str [108, 111, 119], .str [97, 110, 110], .str [98, 111, 98], .str [116, 111, 112]], .sl 1 [.int .u8 15, .int .u8 10, .int .u8 12, .int .u8 8]], .sl 2 [.agg [.str [98, 111, 97, 114, 100], .int .i64 0]], .sl 6 [.agg [.str [109, 97, 114, 107, 115], .agg [.int .i64 1, .int .i64 1, .arr 2 1 [.int .i64 0, .int .i64 0], .int .i64 3]], .agg [.str [110, 97, 109, 101, 115], .agg [.int .i64 2, .int .i64 1, .arr 2 1 [.int .i64 1, .int .i64 0], .int .i64 3]]], .sl 3 [.agg [.int .i64 3, .int .i64 1, .int .i64 5]]]]
def C_policy_Check_1 : SV := .tup [.int .i64 0, .int .i64 0, .int .i64 0]
theorem zg8 : Ret E F.policy_Check yK C_policy_Check_1 := xm ok (je zhn) hkM1_ok (show qN E zEv hkM1 1000 60 (.ret F.policy_Check yK) = some C_policy_Check_1 by kernel_rfl)
def ftB : List (Nat × Func) := wy [F.prims_table, F.lattice_Check, F.policy_Check] ft
def hkM2 : Hk := ⟨(F.policy_Check, zcl [(yK, C_policy_Check_1)]) :: hkM1.x, []⟩
theorem zzv : HkOK E hkM2 := ⟨zak (fun az r h => xj (l := [(yK, C_policy_Check_1)]) ⟨zg8, trivial⟩ az r h) hkM1_ok.x, fun _ _ _ _ _ _ _ _ h => (by cases h)⟩
def V_invigilatorlaw32_awake : SV := .bool true
theorem L_invigilatorlaw32_awake : Ret E F.invigilatorlaw32_awake [] V_invigilatorlaw32_awake := xm ok (je zhn) zzv (show qN E ftB hkM2 1000 60 (.ret F.invigilatorlaw32_awake []) = some V_invigilatorlaw32_awake by kernel_rfl)
end Go.Sx.Tz
end
