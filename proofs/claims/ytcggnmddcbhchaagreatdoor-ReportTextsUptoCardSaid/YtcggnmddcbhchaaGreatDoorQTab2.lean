import Derived.Test.YtcggnmddcbhchaaGreatDoorQVO
/- Text Tab2. -/
namespace Go.Proofs.YtcggnmddcbhchaaGreatDoor
open Go.RowKit Lim
def tabL : List (Nat × TI) := [
  (1, ⟨.scal, [.lit .nilFunc], 8⟩),
  (2, ⟨.int .i64, [.lit (.int .i64 0)], 8⟩),
  (3, ⟨.int .i64, [.lit (.int .i64 0)], 8⟩),
  (4, ⟨.bool, [.lit (.bool false)], 1⟩),
  (5, ⟨.int .u8, [.lit (.int .u8 0)], 1⟩),
  (6, ⟨.int .u8, [.lit (.int .u8 0)], 1⟩),
  (7, ⟨.strct [(0, 1, 2), (1, 1, 3), (2, 1, 4), (3, 1, 6)], [.lit (.int .i64 0), .lit (.int .i64 0), .lit (.bool false), .lit (.int .u8 0)], 24⟩),
  (8, ⟨.strct [(0, 1, 2), (1, 1, 3), (2, 1, 4), (3, 1, 6)], [.lit (.int .i64 0), .lit (.int .i64 0), .lit (.bool false), .lit (.int .u8 0)], 24⟩),
  (9, ⟨.str, [.lit (.string ⟨#[]⟩)], 16⟩),
  (10, ⟨.str, [.lit (.string ⟨#[]⟩)], 16⟩),
  (11, ⟨.str, [.lit (.string ⟨#[]⟩)], 16⟩),
  (12, ⟨.int .u64, [.lit (.int .u64 0)], 8⟩),
  (13, ⟨.strct [(0, 1, 9), (1, 1, 12)], [.lit (.string ⟨#[]⟩), .lit (.int .u64 0)], 24⟩),
  (14, ⟨.strct [(0, 1, 9), (1, 1, 12)], [.lit (.string ⟨#[]⟩), .lit (.int .u64 0)], 24⟩),
  (15, ⟨.scal, [.lit (.pointer none)], 8⟩),
  (16, ⟨.scal, [.lit (.pointer none)], 8⟩),
  (17, ⟨.scal, [.lit (.pointer none)], 8⟩),
  (18, ⟨.strct [(0, 1, 17)], [.lit (.pointer none)], 8⟩),
  (19, ⟨.strct [(0, 1, 17)], [.lit (.pointer none)], 8⟩),
  (20, ⟨.scal, [.lit .nilIface], 16⟩),
  (21, ⟨.int .i32, [.lit (.int .i32 0)], 4⟩),
  (22, ⟨.slc 133 1 true, [.nat []], 24⟩),
  (23, ⟨.slc 133 1 true, [.nat []], 24⟩),
  (24, ⟨.strct [(0, 1, 4), (1, 1, 23)], [.lit (.bool false), .nat []], 32⟩),
  (25, ⟨.strct [(0, 1, 4), (1, 1, 23)], [.lit (.bool false), .nat []], 32⟩),
  (26, ⟨.strct [(0, 2, 25), (2, 1, 23)], [.lit (.bool false), .nat [], .nat []], 56⟩),
  (27, ⟨.strct [(0, 2, 25), (2, 1, 23)], [.lit (.bool false), .nat [], .nat []], 56⟩),
  (28, ⟨.strct [(0, 3, 27), (3, 3, 27), (6, 1, 3), (7, 1, 3), (8, 1, 3), (9, 1, 3), (10, 1, 3), (11, 1, 3)], [.lit (.bool false), .nat [], .nat [], .lit (.bool false), .nat [], .nat [], .lit (.int .i64 0), .lit (.int .i64 0), .lit (.int .i64 0), .lit (.int .i64 0), .lit (.int .i64 0), .lit (.int .i64 0)], 160⟩),
  (29, ⟨.strct [(0, 3, 27), (3, 3, 27), (6, 1, 3), (7, 1, 3), (8, 1, 3), (9, 1, 3), (10, 1, 3), (11, 1, 3)], [.lit (.bool false), .nat [], .nat [], .lit (.bool false), .nat [], .nat [], .lit (.int .i64 0), .lit (.int .i64 0), .lit (.int .i64 0), .lit (.int .i64 0), .lit (.int .i64 0), .lit (.int .i64 0)], 160⟩),
  (30, ⟨.int .i64, [.lit (.int .i64 0)], 8⟩),
  (32, ⟨.scal, [.lit .nilFunc], 8⟩),
  (33, ⟨.scal, [.lit .nilFunc], 8⟩),
  (34, ⟨.scal, [.lit .nilFunc], 8⟩),
  (35, ⟨.scal, [.lit .nilFunc], 8⟩),
  (36, ⟨.scal, [.lit .nilFunc], 8⟩),
  (38, ⟨.scal, [.lit .nilFunc], 8⟩),
  (39, ⟨.scal, [.lit .nilFunc], 8⟩),
  (40, ⟨.scal, [.lit .nilFunc], 8⟩),
  (41, ⟨.slc 3 1 false, [.sl 1 []], 24⟩),
  (42, ⟨.strct [(0, 1, 41), (1, 1, 41)], [.sl 1 [], .sl 1 []], 48⟩),
  (43, ⟨.strct [(0, 1, 41), (1, 1, 41)], [.sl 1 [], .sl 1 []], 48⟩),
  (44, ⟨.slc 66 9 false, [.sl 9 []], 24⟩),
  (45, ⟨.slc 68 2 false, [.sl 2 []], 24⟩),
  (46, ⟨.slc 9 1 false, [.sl 1 []], 24⟩),
  (48, ⟨.scal, [.lit .nilFunc], 8⟩),
  (49, ⟨.scal, [.lit .nilFunc], 8⟩),
  (50, ⟨.scal, [.lit .nilFunc], 8⟩),
  (51, ⟨.scal, [.lit .nilFunc], 8⟩),
  (52, ⟨.scal, [.lit .nilFunc], 8⟩),
  (53, ⟨.scal, [.lit .nilFunc], 8⟩),
  (54, ⟨.scal, [.lit .nilFunc], 8⟩),
  (55, ⟨.scal, [.lit .nilFunc], 8⟩),
  (56, ⟨.scal, [.lit .nilFunc], 8⟩),
  (57, ⟨.scal, [.lit .nilFunc], 8⟩),
  (58, ⟨.scal, [.lit .nilFunc], 8⟩),
  (59, ⟨.scal, [.lit .nilFunc], 8⟩),
  (60, ⟨.scal, [.lit .nilFunc], 8⟩),
  (61, ⟨.scal, [.lit .nilFunc], 8⟩),
  (62, ⟨.slc 41 1 false, [.sl 1 []], 24⟩),
  (63, ⟨.strct [(0, 1, 62)], [.sl 1 []], 24⟩),
  (64, ⟨.strct [(0, 1, 62)], [.sl 1 []], 24⟩),
  (65, ⟨.strct [(0, 1, 3), (1, 1, 9), (2, 1, 3), (3, 1, 3), (4, 1, 3), (5, 1, 3), (6, 1, 3), (7, 1, 3), (8, 1, 64)], [.lit (.int .i64 0), .lit (.string ⟨#[]⟩), .lit (.int .i64 0), .lit (.int .i64 0), .lit (.int .i64 0), .lit (.int .i64 0), .lit (.int .i64 0), .lit (.int .i64 0), .sl 1 []], 96⟩),
  (66, ⟨.strct [(0, 1, 3), (1, 1, 9), (2, 1, 3), (3, 1, 3), (4, 1, 3), (5, 1, 3), (6, 1, 3), (7, 1, 3), (8, 1, 64)], [.lit (.int .i64 0), .lit (.string ⟨#[]⟩), .lit (.int .i64 0), .lit (.int .i64 0), .lit (.int .i64 0), .lit (.int .i64 0), .lit (.int .i64 0), .lit (.int .i64 0), .sl 1 []], 96⟩),
  (67, ⟨.strct [(0, 1, 3), (1, 1, 3)], [.lit (.int .i64 0), .lit (.int .i64 0)], 16⟩),
  (68, ⟨.strct [(0, 1, 3), (1, 1, 3)], [.lit (.int .i64 0), .lit (.int .i64 0)], 16⟩),
  (69, ⟨.scal, [.lit .nilFunc], 8⟩),
  (70, ⟨.scal, [.lit .nilFunc], 8⟩),
  (71, ⟨.scal, [.lit (.pointer none)], 8⟩),
  (72, ⟨.scal, [.lit (.pointer none)], 8⟩),
  (73, ⟨.scal, [.lit .nilFunc], 8⟩),
  (74, ⟨.scal, [.lit .nilFunc], 8⟩),
  (75, ⟨.scal, [.lit .nilFunc], 8⟩),
  (76, ⟨.slc 23 1 false, [.sl 1 []], 24⟩),
  (78, ⟨.scal, [.lit .nilFunc], 8⟩),
  (79, ⟨.scal, [.lit .nilFunc], 8⟩),
  (81, ⟨.scal, [.lit .nilFunc], 8⟩),
  (82, ⟨.scal, [.lit .nilFunc], 8⟩),
  (83, ⟨.scal, [.lit .nilFunc], 8⟩),
  (85, ⟨.scal, [.lit .nilFunc], 8⟩),
  (86, ⟨.strct [(0, 2, 25), (2, 1, 3)], [.lit (.bool false), .nat [], .lit (.int .i64 0)], 40⟩),
  (87, ⟨.strct [(0, 2, 25), (2, 1, 3)], [.lit (.bool false), .nat [], .lit (.int .i64 0)], 40⟩),
  (89, ⟨.scal, [.lit .nilFunc], 8⟩),
  (90, ⟨.scal, [.lit .nilFunc], 8⟩),
  (91, ⟨.scal, [.lit .nilFunc], 8⟩),
  (92, ⟨.scal, [.lit .nilFunc], 8⟩),
  (93, ⟨.scal, [.lit .nilFunc], 8⟩),
  (94, ⟨.scal, [.lit .nilFunc], 8⟩),
  (96, ⟨.scal, [.lit .nilFunc], 8⟩),
  (97, ⟨.arr 6 9 1, [.lit (.string ⟨#[]⟩), .lit (.string ⟨#[]⟩), .lit (.string ⟨#[]⟩), .lit (.string ⟨#[]⟩), .lit (.string ⟨#[]⟩), .lit (.string ⟨#[]⟩)], 96⟩),
  (98, ⟨.scal, [.lit .nilFunc], 8⟩),
  (99, ⟨.scal, [.lit .nilFunc], 8⟩),
  (100, ⟨.scal, [.lit .nilFunc], 8⟩),
  (101, ⟨.scal, [.lit .nilFunc], 8⟩),
  (102, ⟨.scal, [.lit .nilFunc], 8⟩),
  (103, ⟨.int .u64, [.lit (.int .u64 0)], 8⟩),
  (105, ⟨.scal, [.lit .nilFunc], 8⟩),
  (106, ⟨.scal, [.lit .nilFunc], 8⟩),
  (107, ⟨.scal, [.lit .nilFunc], 8⟩),
  (109, ⟨.scal, [.lit .nilFunc], 8⟩),
  (110, ⟨.scal, [.lit .nilFunc], 8⟩),
  (111, ⟨.scal, [.lit .nilFunc], 8⟩),
  (112, ⟨.scal, [.lit .nilFunc], 8⟩),
  (113, ⟨.scal, [.lit .nilFunc], 8⟩),
  (114, ⟨.scal, [.lit (.pointer none)], 8⟩),
  (115, ⟨.scal, [.lit .nilFunc], 8⟩),
  (116, ⟨.scal, [.lit .nilFunc], 8⟩),
  (117, ⟨.scal, [.lit .nilFunc], 8⟩),
  (118, ⟨.scal, [.lit .nilFunc], 8⟩),
  (119, ⟨.scal, [.lit .nilFunc], 8⟩),
  (120, ⟨.scal, [.lit .nilFunc], 8⟩),
  (121, ⟨.scal, [.lit .nilFunc], 8⟩),
  (122, ⟨.scal, [.lit .nilFunc], 8⟩),
  (123, ⟨.scal, [.lit .nilFunc], 8⟩),
  (124, ⟨.scal, [.lit .nilFunc], 8⟩),
  (125, ⟨.scal, [.lit .nilFunc], 8⟩),
  (126, ⟨.scal, [.lit .nilFunc], 8⟩),
  (127, ⟨.scal, [.lit .nilFunc], 8⟩),
  (128, ⟨.scal, [.lit .nilFunc], 8⟩),
  (129, ⟨.scal, [.lit .nilFunc], 8⟩),
  (130, ⟨.scal, [.lit .nilFunc], 8⟩),
  (131, ⟨.scal, [.lit .nilFunc], 8⟩),
  (132, ⟨.scal, [.lit .nilFunc], 8⟩),
  (133, ⟨.int .u32, [.lit (.int .u32 0)], 4⟩),
  (134, ⟨.scal, [.lit .nilFunc], 8⟩),
  (135, ⟨.scal, [.lit .nilFunc], 8⟩),
  (136, ⟨.int .u64, [.lit (.int .u64 0)], 8⟩),
  (137, ⟨.scal, [.lit .nilFunc], 8⟩),
  (139, ⟨.scal, [.lit .nilFunc], 8⟩),
  (140, ⟨.slc 5 1 false, [.sl 1 []], 24⟩),
  (141, ⟨.scal, [.lit .nilFunc], 8⟩),
  (142, ⟨.scal, [.lit .nilFunc], 8⟩),
  (143, ⟨.scal, [.lit .nilFunc], 8⟩),
  (144, ⟨.scal, [.lit .nilFunc], 8⟩),
  (145, ⟨.scal, [.lit .nilFunc], 8⟩),
  (146, ⟨.scal, [.lit .nilFunc], 8⟩),
  (148, ⟨.scal, [.lit .nilFunc], 8⟩),
  (149, ⟨.scal, [.lit .nilFunc], 8⟩),
  (150, ⟨.scal, [.lit .nilFunc], 8⟩),
  (151, ⟨.scal, [.lit .nilFunc], 8⟩),
  (152, ⟨.scal, [.lit .nilFunc], 8⟩),
  (153, ⟨.scal, [.lit .nilFunc], 8⟩),
  (155, ⟨.scal, [.lit .nilFunc], 8⟩),
  (157, ⟨.scal, [.lit .nilFunc], 8⟩),
  (159, ⟨.scal, [.lit .nilFunc], 8⟩),
  (161, ⟨.scal, [.lit .nilFunc], 8⟩),
  (162, ⟨.scal, [.lit .nilFunc], 8⟩),
  (163, ⟨.scal, [.lit .nilFunc], 8⟩),
  (164, ⟨.scal, [.lit .nilFunc], 8⟩),
  (165, ⟨.scal, [.lit .nilFunc], 8⟩),
  (166, ⟨.scal, [.lit .nilFunc], 8⟩),
  (167, ⟨.slc 25 2 false, [.sl 2 []], 24⟩),
  (168, ⟨.scal, [.lit .nilFunc], 8⟩),
  (170, ⟨.scal, [.lit .nilFunc], 8⟩),
  (171, ⟨.scal, [.lit .nilFunc], 8⟩),
  (173, ⟨.scal, [.lit .nilFunc], 8⟩),
  (175, ⟨.scal, [.lit .nilFunc], 8⟩),
  (176, ⟨.scal, [.lit .nilFunc], 8⟩),
  (177, ⟨.scal, [.lit (.pointer none)], 8⟩),
  (178, ⟨.strct [(0, 1, 177), (1, 1, 140)], [.lit (.pointer none), .sl 1 []], 32⟩),
  (179, ⟨.strct [(0, 1, 177), (1, 1, 140)], [.lit (.pointer none), .sl 1 []], 32⟩),
  (180, ⟨.scal, [.lit .nilFunc], 8⟩),
  (181, ⟨.scal, [.lit .nilIface], 16⟩),
  (182, ⟨.scal, [.lit .nilIface], 16⟩),
  (184, ⟨.scal, [.lit .nilFunc], 8⟩),
  (185, ⟨.scal, [.lit .nilFunc], 8⟩),
  (186, ⟨.scal, [.lit .nilFunc], 8⟩),
  (187, ⟨.scal, [.lit .nilFunc], 8⟩),
  (188, ⟨.scal, [.lit .nilFunc], 8⟩),
  (190, ⟨.scal, [.lit .nilFunc], 8⟩),
  (191, ⟨.scal, [.lit .nilFunc], 8⟩),
  (193, ⟨.scal, [.lit .nilFunc], 8⟩),
  (195, ⟨.scal, [.lit .nilFunc], 8⟩),
  (197, ⟨.scal, [.lit .nilFunc], 8⟩),
  (199, ⟨.scal, [.lit .nilFunc], 8⟩),
  (200, ⟨.arr 5 9 1, [.lit (.string ⟨#[]⟩), .lit (.string ⟨#[]⟩), .lit (.string ⟨#[]⟩), .lit (.string ⟨#[]⟩), .lit (.string ⟨#[]⟩)], 80⟩),
  (202, ⟨.scal, [.lit .nilFunc], 8⟩),
  (204, ⟨.scal, [.lit .nilFunc], 8⟩),
  (205, ⟨.scal, [.lit .nilFunc], 8⟩),
  (207, ⟨.scal, [.lit .nilFunc], 8⟩),
  (208, ⟨.arr 24 5 1, [.lit (.int .u8 0), .lit (.int .u8 0), .lit (.int .u8 0), .lit (.int .u8 0), .lit (.int .u8 0), .lit (.int .u8 0), .lit (.int .u8 0), .lit (.int .u8 0), .lit (.int .u8 0), .lit (.int .u8 0), .lit (.int .u8 0), .lit (.int .u8 0), .lit (.int .u8 0), .lit (.int .u8 0), .lit (.int .u8 0), .lit (.int .u8 0), .lit (.int .u8 0), .lit (.int .u8 0), .lit (.int .u8 0), .lit (.int .u8 0), .lit (.int .u8 0), .lit (.int .u8 0), .lit (.int .u8 0), .lit (.int .u8 0)], 24⟩),
  (209, ⟨.scal, [.lit .nilFunc], 8⟩),
  (210, ⟨.scal, [.lit .nilFunc], 8⟩),
  (212, ⟨.scal, [.lit .nilFunc], 8⟩),
  (214, ⟨.scal, [.lit .nilFunc], 8⟩),
  (216, ⟨.scal, [.lit .nilFunc], 8⟩),
  (217, ⟨.scal, [.lit (.pointer none)], 8⟩),
  (218, ⟨.scal, [.lit .nilFunc], 8⟩),
  (219, ⟨.scal, [.lit .nilFunc], 8⟩),
  (220, ⟨.scal, [.lit .nilFunc], 8⟩),
  (221, ⟨.scal, [.lit .nilFunc], 8⟩),
  (222, ⟨.scal, [.lit .nilFunc], 8⟩),
  (223, ⟨.scal, [.lit .nilFunc], 8⟩),
  (224, ⟨.scal, [.lit .nilFunc], 8⟩),
  (225, ⟨.arr 20 103 1, [.lit (.int .u64 0), .lit (.int .u64 0), .lit (.int .u64 0), .lit (.int .u64 0), .lit (.int .u64 0), .lit (.int .u64 0), .lit (.int .u64 0), .lit (.int .u64 0), .lit (.int .u64 0), .lit (.int .u64 0), .lit (.int .u64 0), .lit (.int .u64 0), .lit (.int .u64 0), .lit (.int .u64 0), .lit (.int .u64 0), .lit (.int .u64 0), .lit (.int .u64 0), .lit (.int .u64 0), .lit (.int .u64 0), .lit (.int .u64 0)], 160⟩),
  (227, ⟨.scal, [.lit .nilFunc], 8⟩),
  (229, ⟨.scal, [.lit .nilFunc], 8⟩),
  (230, ⟨.scal, [.lit .nilFunc], 8⟩),
  (232, ⟨.strct [(0, 1, 5), (1, 1, 5)], [.lit (.int .u8 0), .lit (.int .u8 0)], 2⟩),
  (233, ⟨.strct [(0, 1, 5), (1, 1, 5)], [.lit (.int .u8 0), .lit (.int .u8 0)], 2⟩),
  (234, ⟨.arr 16 233 2, [.lit (.int .u8 0), .lit (.int .u8 0), .lit (.int .u8 0), .lit (.int .u8 0), .lit (.int .u8 0), .lit (.int .u8 0), .lit (.int .u8 0), .lit (.int .u8 0), .lit (.int .u8 0), .lit (.int .u8 0), .lit (.int .u8 0), .lit (.int .u8 0), .lit (.int .u8 0), .lit (.int .u8 0), .lit (.int .u8 0), .lit (.int .u8 0), .lit (.int .u8 0), .lit (.int .u8 0), .lit (.int .u8 0), .lit (.int .u8 0), .lit (.int .u8 0), .lit (.int .u8 0), .lit (.int .u8 0), .lit (.int .u8 0), .lit (.int .u8 0), .lit (.int .u8 0), .lit (.int .u8 0), .lit (.int .u8 0), .lit (.int .u8 0), .lit (.int .u8 0), .lit (.int .u8 0), .lit (.int .u8 0)], 32⟩),
  (235, ⟨.scal, [.lit .nilFunc], 8⟩),
  (236, ⟨.arr 32 5 1, [.lit (.int .u8 0), .lit (.int .u8 0), .lit (.int .u8 0), .lit (.int .u8 0), .lit (.int .u8 0), .lit (.int .u8 0), .lit (.int .u8 0), .lit (.int .u8 0), .lit (.int .u8 0), .lit (.int .u8 0), .lit (.int .u8 0), .lit (.int .u8 0), .lit (.int .u8 0), .lit (.int .u8 0), .lit (.int .u8 0), .lit (.int .u8 0), .lit (.int .u8 0), .lit (.int .u8 0), .lit (.int .u8 0), .lit (.int .u8 0), .lit (.int .u8 0), .lit (.int .u8 0), .lit (.int .u8 0), .lit (.int .u8 0), .lit (.int .u8 0), .lit (.int .u8 0), .lit (.int .u8 0), .lit (.int .u8 0), .lit (.int .u8 0), .lit (.int .u8 0), .lit (.int .u8 0), .lit (.int .u8 0)], 32⟩),
  (237, ⟨.arr 64 5 1, [.lit (.int .u8 0), .lit (.int .u8 0), .lit (.int .u8 0), .lit (.int .u8 0), .lit (.int .u8 0), .lit (.int .u8 0), .lit (.int .u8 0), .lit (.int .u8 0), .lit (.int .u8 0), .lit (.int .u8 0), .lit (.int .u8 0), .lit (.int .u8 0), .lit (.int .u8 0), .lit (.int .u8 0), .lit (.int .u8 0), .lit (.int .u8 0), .lit (.int .u8 0), .lit (.int .u8 0), .lit (.int .u8 0), .lit (.int .u8 0), .lit (.int .u8 0), .lit (.int .u8 0), .lit (.int .u8 0), .lit (.int .u8 0), .lit (.int .u8 0), .lit (.int .u8 0), .lit (.int .u8 0), .lit (.int .u8 0), .lit (.int .u8 0), .lit (.int .u8 0), .lit (.int .u8 0), .lit (.int .u8 0), .lit (.int .u8 0), .lit (.int .u8 0), .lit (.int .u8 0), .lit (.int .u8 0), .lit (.int .u8 0), .lit (.int .u8 0), .lit (.int .u8 0), .lit (.int .u8 0), .lit (.int .u8 0), .lit (.int .u8 0), .lit (.int .u8 0), .lit (.int .u8 0), .lit (.int .u8 0), .lit (.int .u8 0), .lit (.int .u8 0), .lit (.int .u8 0), .lit (.int .u8 0), .lit (.int .u8 0), .lit (.int .u8 0), .lit (.int .u8 0), .lit (.int .u8 0), .lit (.int .u8 0), .lit (.int .u8 0), .lit (.int .u8 0), .lit (.int .u8 0), .lit (.int .u8 0), .lit (.int .u8 0), .lit (.int .u8 0), .lit (.int .u8 0), .lit (.int .u8 0), .lit (.int .u8 0), .lit (.int .u8 0)], 64⟩),
  (238, ⟨.strct [(0, 1, 17), (1, 1, 17), (2, 1, 17), (3, 1, 9)], [.lit (.pointer none), .lit (.pointer none), .lit (.pointer none), .lit (.string ⟨#[]⟩)], 40⟩),
  (239, ⟨.strct [(0, 1, 17), (1, 1, 17), (2, 1, 17), (3, 1, 9)], [.lit (.pointer none), .lit (.pointer none), .lit (.pointer none), .lit (.string ⟨#[]⟩)], 40⟩),
  (240, ⟨.arr 0 16 1, [], 0⟩),
  (243, ⟨.int .u8, [.lit (.int .u8 0)], 1⟩),
  (244, ⟨.int .u8, [.lit (.int .u8 0)], 1⟩),
  (245, ⟨.scal, [.lit .nilFunc], 8⟩),
  (246, ⟨.int .i32, [.lit (.int .i32 0)], 4⟩),
  (247, ⟨.int .i32, [.lit (.int .i32 0)], 4⟩),
  (248, ⟨.strct [(0, 1, 12), (1, 1, 12), (2, 1, 133), (3, 1, 243), (4, 1, 5), (5, 1, 5), (6, 1, 244), (7, 1, 245), (8, 1, 217), (9, 1, 246), (10, 1, 247)], [.lit (.int .u64 0), .lit (.int .u64 0), .lit (.int .u32 0), .lit (.int .u8 0), .lit (.int .u8 0), .lit (.int .u8 0), .lit (.int .u8 0), .lit .nilFunc, .lit (.pointer none), .lit (.int .i32 0), .lit (.int .i32 0)], 48⟩),
  (249, ⟨.strct [(0, 1, 12), (1, 1, 12), (2, 1, 133), (3, 1, 243), (4, 1, 5), (5, 1, 5), (6, 1, 244), (7, 1, 245), (8, 1, 217), (9, 1, 246), (10, 1, 247)], [.lit (.int .u64 0), .lit (.int .u64 0), .lit (.int .u32 0), .lit (.int .u8 0), .lit (.int .u8 0), .lit (.int .u8 0), .lit (.int .u8 0), .lit .nilFunc, .lit (.pointer none), .lit (.int .i32 0), .lit (.int .i32 0)], 48⟩)]
def tab : TyTab := ofL tabL
theorem tab_ok : tabL.all (fun p => tiB Tryz.prog p.1 p.2) = true := by kernel_rfl
set_option maxRecDepth 100000
theorem tab1 : tab 1 = some ⟨.scal, [.lit .nilFunc], 8⟩ := rfl
theorem tab2 : tab 2 = some ⟨.int .i64, [.lit (.int .i64 0)], 8⟩ := rfl
theorem tab3 : tab 3 = some ⟨.int .i64, [.lit (.int .i64 0)], 8⟩ := rfl
theorem tab4 : tab 4 = some ⟨.bool, [.lit (.bool false)], 1⟩ := rfl
theorem tab5 : tab 5 = some ⟨.int .u8, [.lit (.int .u8 0)], 1⟩ := rfl
theorem tab6 : tab 6 = some ⟨.int .u8, [.lit (.int .u8 0)], 1⟩ := rfl
theorem tab7 : tab 7 = some ⟨.strct [(0, 1, 2), (1, 1, 3), (2, 1, 4), (3, 1, 6)], [.lit (.int .i64 0), .lit (.int .i64 0), .lit (.bool false), .lit (.int .u8 0)], 24⟩ := rfl
theorem tab8 : tab 8 = some ⟨.strct [(0, 1, 2), (1, 1, 3), (2, 1, 4), (3, 1, 6)], [.lit (.int .i64 0), .lit (.int .i64 0), .lit (.bool false), .lit (.int .u8 0)], 24⟩ := rfl
theorem tab9 : tab 9 = some ⟨.str, [.lit (.string ⟨#[]⟩)], 16⟩ := rfl
theorem tab10 : tab 10 = some ⟨.str, [.lit (.string ⟨#[]⟩)], 16⟩ := rfl
theorem tab11 : tab 11 = some ⟨.str, [.lit (.string ⟨#[]⟩)], 16⟩ := rfl
theorem tab12 : tab 12 = some ⟨.int .u64, [.lit (.int .u64 0)], 8⟩ := rfl
theorem tab13 : tab 13 = some ⟨.strct [(0, 1, 9), (1, 1, 12)], [.lit (.string ⟨#[]⟩), .lit (.int .u64 0)], 24⟩ := rfl
theorem tab14 : tab 14 = some ⟨.strct [(0, 1, 9), (1, 1, 12)], [.lit (.string ⟨#[]⟩), .lit (.int .u64 0)], 24⟩ := rfl
theorem tab15 : tab 15 = some ⟨.scal, [.lit (.pointer none)], 8⟩ := rfl
theorem tab16 : tab 16 = some ⟨.scal, [.lit (.pointer none)], 8⟩ := rfl
theorem tab17 : tab 17 = some ⟨.scal, [.lit (.pointer none)], 8⟩ := rfl
theorem tab18 : tab 18 = some ⟨.strct [(0, 1, 17)], [.lit (.pointer none)], 8⟩ := rfl
theorem tab19 : tab 19 = some ⟨.strct [(0, 1, 17)], [.lit (.pointer none)], 8⟩ := rfl
theorem tab20 : tab 20 = some ⟨.scal, [.lit .nilIface], 16⟩ := rfl
theorem tab21 : tab 21 = some ⟨.int .i32, [.lit (.int .i32 0)], 4⟩ := rfl
theorem tab22 : tab 22 = some ⟨.slc 133 1 true, [.nat []], 24⟩ := rfl
theorem tab23 : tab 23 = some ⟨.slc 133 1 true, [.nat []], 24⟩ := rfl
theorem tab24 : tab 24 = some ⟨.strct [(0, 1, 4), (1, 1, 23)], [.lit (.bool false), .nat []], 32⟩ := rfl
theorem tab25 : tab 25 = some ⟨.strct [(0, 1, 4), (1, 1, 23)], [.lit (.bool false), .nat []], 32⟩ := rfl
theorem tab26 : tab 26 = some ⟨.strct [(0, 2, 25), (2, 1, 23)], [.lit (.bool false), .nat [], .nat []], 56⟩ := rfl
theorem tab27 : tab 27 = some ⟨.strct [(0, 2, 25), (2, 1, 23)], [.lit (.bool false), .nat [], .nat []], 56⟩ := rfl
theorem tab28 : tab 28 = some ⟨.strct [(0, 3, 27), (3, 3, 27), (6, 1, 3), (7, 1, 3), (8, 1, 3), (9, 1, 3), (10, 1, 3), (11, 1, 3)], [.lit (.bool false), .nat [], .nat [], .lit (.bool false), .nat [], .nat [], .lit (.int .i64 0), .lit (.int .i64 0), .lit (.int .i64 0), .lit (.int .i64 0), .lit (.int .i64 0), .lit (.int .i64 0)], 160⟩ := rfl
theorem tab29 : tab 29 = some ⟨.strct [(0, 3, 27), (3, 3, 27), (6, 1, 3), (7, 1, 3), (8, 1, 3), (9, 1, 3), (10, 1, 3), (11, 1, 3)], [.lit (.bool false), .nat [], .nat [], .lit (.bool false), .nat [], .nat [], .lit (.int .i64 0), .lit (.int .i64 0), .lit (.int .i64 0), .lit (.int .i64 0), .lit (.int .i64 0), .lit (.int .i64 0)], 160⟩ := rfl
theorem tab30 : tab 30 = some ⟨.int .i64, [.lit (.int .i64 0)], 8⟩ := rfl
theorem tab32 : tab 32 = some ⟨.scal, [.lit .nilFunc], 8⟩ := rfl
theorem tab33 : tab 33 = some ⟨.scal, [.lit .nilFunc], 8⟩ := rfl
theorem tab34 : tab 34 = some ⟨.scal, [.lit .nilFunc], 8⟩ := rfl
theorem tab35 : tab 35 = some ⟨.scal, [.lit .nilFunc], 8⟩ := rfl
theorem tab36 : tab 36 = some ⟨.scal, [.lit .nilFunc], 8⟩ := rfl
theorem tab38 : tab 38 = some ⟨.scal, [.lit .nilFunc], 8⟩ := rfl
theorem tab39 : tab 39 = some ⟨.scal, [.lit .nilFunc], 8⟩ := rfl
theorem tab40 : tab 40 = some ⟨.scal, [.lit .nilFunc], 8⟩ := rfl
theorem tab41 : tab 41 = some ⟨.slc 3 1 false, [.sl 1 []], 24⟩ := rfl
theorem tab42 : tab 42 = some ⟨.strct [(0, 1, 41), (1, 1, 41)], [.sl 1 [], .sl 1 []], 48⟩ := rfl
theorem tab43 : tab 43 = some ⟨.strct [(0, 1, 41), (1, 1, 41)], [.sl 1 [], .sl 1 []], 48⟩ := rfl
theorem tab44 : tab 44 = some ⟨.slc 66 9 false, [.sl 9 []], 24⟩ := rfl
theorem tab45 : tab 45 = some ⟨.slc 68 2 false, [.sl 2 []], 24⟩ := rfl
theorem tab46 : tab 46 = some ⟨.slc 9 1 false, [.sl 1 []], 24⟩ := rfl
theorem tab48 : tab 48 = some ⟨.scal, [.lit .nilFunc], 8⟩ := rfl
theorem tab49 : tab 49 = some ⟨.scal, [.lit .nilFunc], 8⟩ := rfl
theorem tab50 : tab 50 = some ⟨.scal, [.lit .nilFunc], 8⟩ := rfl
theorem tab51 : tab 51 = some ⟨.scal, [.lit .nilFunc], 8⟩ := rfl
theorem tab52 : tab 52 = some ⟨.scal, [.lit .nilFunc], 8⟩ := rfl
theorem tab53 : tab 53 = some ⟨.scal, [.lit .nilFunc], 8⟩ := rfl
theorem tab54 : tab 54 = some ⟨.scal, [.lit .nilFunc], 8⟩ := rfl
theorem tab55 : tab 55 = some ⟨.scal, [.lit .nilFunc], 8⟩ := rfl
theorem tab56 : tab 56 = some ⟨.scal, [.lit .nilFunc], 8⟩ := rfl
theorem tab57 : tab 57 = some ⟨.scal, [.lit .nilFunc], 8⟩ := rfl
theorem tab58 : tab 58 = some ⟨.scal, [.lit .nilFunc], 8⟩ := rfl
theorem tab59 : tab 59 = some ⟨.scal, [.lit .nilFunc], 8⟩ := rfl
theorem tab60 : tab 60 = some ⟨.scal, [.lit .nilFunc], 8⟩ := rfl
theorem tab61 : tab 61 = some ⟨.scal, [.lit .nilFunc], 8⟩ := rfl
theorem tab62 : tab 62 = some ⟨.slc 41 1 false, [.sl 1 []], 24⟩ := rfl
theorem tab63 : tab 63 = some ⟨.strct [(0, 1, 62)], [.sl 1 []], 24⟩ := rfl
theorem tab64 : tab 64 = some ⟨.strct [(0, 1, 62)], [.sl 1 []], 24⟩ := rfl
theorem tab65 : tab 65 = some ⟨.strct [(0, 1, 3), (1, 1, 9), (2, 1, 3), (3, 1, 3), (4, 1, 3), (5, 1, 3), (6, 1, 3), (7, 1, 3), (8, 1, 64)], [.lit (.int .i64 0), .lit (.string ⟨#[]⟩), .lit (.int .i64 0), .lit (.int .i64 0), .lit (.int .i64 0), .lit (.int .i64 0), .lit (.int .i64 0), .lit (.int .i64 0), .sl 1 []], 96⟩ := rfl
theorem tab66 : tab 66 = some ⟨.strct [(0, 1, 3), (1, 1, 9), (2, 1, 3), (3, 1, 3), (4, 1, 3), (5, 1, 3), (6, 1, 3), (7, 1, 3), (8, 1, 64)], [.lit (.int .i64 0), .lit (.string ⟨#[]⟩), .lit (.int .i64 0), .lit (.int .i64 0), .lit (.int .i64 0), .lit (.int .i64 0), .lit (.int .i64 0), .lit (.int .i64 0), .sl 1 []], 96⟩ := rfl
theorem tab67 : tab 67 = some ⟨.strct [(0, 1, 3), (1, 1, 3)], [.lit (.int .i64 0), .lit (.int .i64 0)], 16⟩ := rfl
theorem tab68 : tab 68 = some ⟨.strct [(0, 1, 3), (1, 1, 3)], [.lit (.int .i64 0), .lit (.int .i64 0)], 16⟩ := rfl
theorem tab69 : tab 69 = some ⟨.scal, [.lit .nilFunc], 8⟩ := rfl
theorem tab70 : tab 70 = some ⟨.scal, [.lit .nilFunc], 8⟩ := rfl
theorem tab71 : tab 71 = some ⟨.scal, [.lit (.pointer none)], 8⟩ := rfl
theorem tab72 : tab 72 = some ⟨.scal, [.lit (.pointer none)], 8⟩ := rfl
theorem tab73 : tab 73 = some ⟨.scal, [.lit .nilFunc], 8⟩ := rfl
theorem tab74 : tab 74 = some ⟨.scal, [.lit .nilFunc], 8⟩ := rfl
theorem tab75 : tab 75 = some ⟨.scal, [.lit .nilFunc], 8⟩ := rfl
theorem tab76 : tab 76 = some ⟨.slc 23 1 false, [.sl 1 []], 24⟩ := rfl
theorem tab78 : tab 78 = some ⟨.scal, [.lit .nilFunc], 8⟩ := rfl
theorem tab79 : tab 79 = some ⟨.scal, [.lit .nilFunc], 8⟩ := rfl
theorem tab81 : tab 81 = some ⟨.scal, [.lit .nilFunc], 8⟩ := rfl
theorem tab82 : tab 82 = some ⟨.scal, [.lit .nilFunc], 8⟩ := rfl
theorem tab83 : tab 83 = some ⟨.scal, [.lit .nilFunc], 8⟩ := rfl
theorem tab85 : tab 85 = some ⟨.scal, [.lit .nilFunc], 8⟩ := rfl
theorem tab86 : tab 86 = some ⟨.strct [(0, 2, 25), (2, 1, 3)], [.lit (.bool false), .nat [], .lit (.int .i64 0)], 40⟩ := rfl
theorem tab87 : tab 87 = some ⟨.strct [(0, 2, 25), (2, 1, 3)], [.lit (.bool false), .nat [], .lit (.int .i64 0)], 40⟩ := rfl
theorem tab89 : tab 89 = some ⟨.scal, [.lit .nilFunc], 8⟩ := rfl
theorem tab90 : tab 90 = some ⟨.scal, [.lit .nilFunc], 8⟩ := rfl
theorem tab91 : tab 91 = some ⟨.scal, [.lit .nilFunc], 8⟩ := rfl
theorem tab92 : tab 92 = some ⟨.scal, [.lit .nilFunc], 8⟩ := rfl
theorem tab93 : tab 93 = some ⟨.scal, [.lit .nilFunc], 8⟩ := rfl
theorem tab94 : tab 94 = some ⟨.scal, [.lit .nilFunc], 8⟩ := rfl
theorem tab96 : tab 96 = some ⟨.scal, [.lit .nilFunc], 8⟩ := rfl
theorem tab97 : tab 97 = some ⟨.arr 6 9 1, [.lit (.string ⟨#[]⟩), .lit (.string ⟨#[]⟩), .lit (.string ⟨#[]⟩), .lit (.string ⟨#[]⟩), .lit (.string ⟨#[]⟩), .lit (.string ⟨#[]⟩)], 96⟩ := rfl
theorem tab98 : tab 98 = some ⟨.scal, [.lit .nilFunc], 8⟩ := rfl
theorem tab99 : tab 99 = some ⟨.scal, [.lit .nilFunc], 8⟩ := rfl
theorem tab100 : tab 100 = some ⟨.scal, [.lit .nilFunc], 8⟩ := rfl
theorem tab101 : tab 101 = some ⟨.scal, [.lit .nilFunc], 8⟩ := rfl
theorem tab102 : tab 102 = some ⟨.scal, [.lit .nilFunc], 8⟩ := rfl
theorem tab103 : tab 103 = some ⟨.int .u64, [.lit (.int .u64 0)], 8⟩ := rfl
theorem tab105 : tab 105 = some ⟨.scal, [.lit .nilFunc], 8⟩ := rfl
theorem tab106 : tab 106 = some ⟨.scal, [.lit .nilFunc], 8⟩ := rfl
theorem tab107 : tab 107 = some ⟨.scal, [.lit .nilFunc], 8⟩ := rfl
theorem tab109 : tab 109 = some ⟨.scal, [.lit .nilFunc], 8⟩ := rfl
theorem tab110 : tab 110 = some ⟨.scal, [.lit .nilFunc], 8⟩ := rfl
theorem tab111 : tab 111 = some ⟨.scal, [.lit .nilFunc], 8⟩ := rfl
theorem tab112 : tab 112 = some ⟨.scal, [.lit .nilFunc], 8⟩ := rfl
theorem tab113 : tab 113 = some ⟨.scal, [.lit .nilFunc], 8⟩ := rfl
theorem tab114 : tab 114 = some ⟨.scal, [.lit (.pointer none)], 8⟩ := rfl
theorem tab115 : tab 115 = some ⟨.scal, [.lit .nilFunc], 8⟩ := rfl
theorem tab116 : tab 116 = some ⟨.scal, [.lit .nilFunc], 8⟩ := rfl
theorem tab117 : tab 117 = some ⟨.scal, [.lit .nilFunc], 8⟩ := rfl
theorem tab118 : tab 118 = some ⟨.scal, [.lit .nilFunc], 8⟩ := rfl
theorem tab119 : tab 119 = some ⟨.scal, [.lit .nilFunc], 8⟩ := rfl
theorem tab120 : tab 120 = some ⟨.scal, [.lit .nilFunc], 8⟩ := rfl
theorem tab121 : tab 121 = some ⟨.scal, [.lit .nilFunc], 8⟩ := rfl
theorem tab122 : tab 122 = some ⟨.scal, [.lit .nilFunc], 8⟩ := rfl
theorem tab123 : tab 123 = some ⟨.scal, [.lit .nilFunc], 8⟩ := rfl
theorem tab124 : tab 124 = some ⟨.scal, [.lit .nilFunc], 8⟩ := rfl
theorem tab125 : tab 125 = some ⟨.scal, [.lit .nilFunc], 8⟩ := rfl
theorem tab126 : tab 126 = some ⟨.scal, [.lit .nilFunc], 8⟩ := rfl
theorem tab127 : tab 127 = some ⟨.scal, [.lit .nilFunc], 8⟩ := rfl
theorem tab128 : tab 128 = some ⟨.scal, [.lit .nilFunc], 8⟩ := rfl
theorem tab129 : tab 129 = some ⟨.scal, [.lit .nilFunc], 8⟩ := rfl
theorem tab130 : tab 130 = some ⟨.scal, [.lit .nilFunc], 8⟩ := rfl
theorem tab131 : tab 131 = some ⟨.scal, [.lit .nilFunc], 8⟩ := rfl
theorem tab132 : tab 132 = some ⟨.scal, [.lit .nilFunc], 8⟩ := rfl
theorem tab133 : tab 133 = some ⟨.int .u32, [.lit (.int .u32 0)], 4⟩ := rfl
theorem tab134 : tab 134 = some ⟨.scal, [.lit .nilFunc], 8⟩ := rfl
theorem tab135 : tab 135 = some ⟨.scal, [.lit .nilFunc], 8⟩ := rfl
theorem tab136 : tab 136 = some ⟨.int .u64, [.lit (.int .u64 0)], 8⟩ := rfl
theorem tab137 : tab 137 = some ⟨.scal, [.lit .nilFunc], 8⟩ := rfl
theorem tab139 : tab 139 = some ⟨.scal, [.lit .nilFunc], 8⟩ := rfl
theorem tab140 : tab 140 = some ⟨.slc 5 1 false, [.sl 1 []], 24⟩ := rfl
theorem tab141 : tab 141 = some ⟨.scal, [.lit .nilFunc], 8⟩ := rfl
theorem tab142 : tab 142 = some ⟨.scal, [.lit .nilFunc], 8⟩ := rfl
theorem tab143 : tab 143 = some ⟨.scal, [.lit .nilFunc], 8⟩ := rfl
theorem tab144 : tab 144 = some ⟨.scal, [.lit .nilFunc], 8⟩ := rfl
theorem tab145 : tab 145 = some ⟨.scal, [.lit .nilFunc], 8⟩ := rfl
theorem tab146 : tab 146 = some ⟨.scal, [.lit .nilFunc], 8⟩ := rfl
theorem tab148 : tab 148 = some ⟨.scal, [.lit .nilFunc], 8⟩ := rfl
theorem tab149 : tab 149 = some ⟨.scal, [.lit .nilFunc], 8⟩ := rfl
theorem tab150 : tab 150 = some ⟨.scal, [.lit .nilFunc], 8⟩ := rfl
theorem tab151 : tab 151 = some ⟨.scal, [.lit .nilFunc], 8⟩ := rfl
theorem tab152 : tab 152 = some ⟨.scal, [.lit .nilFunc], 8⟩ := rfl
theorem tab153 : tab 153 = some ⟨.scal, [.lit .nilFunc], 8⟩ := rfl
theorem tab155 : tab 155 = some ⟨.scal, [.lit .nilFunc], 8⟩ := rfl
theorem tab157 : tab 157 = some ⟨.scal, [.lit .nilFunc], 8⟩ := rfl
theorem tab159 : tab 159 = some ⟨.scal, [.lit .nilFunc], 8⟩ := rfl
theorem tab161 : tab 161 = some ⟨.scal, [.lit .nilFunc], 8⟩ := rfl
theorem tab162 : tab 162 = some ⟨.scal, [.lit .nilFunc], 8⟩ := rfl
theorem tab163 : tab 163 = some ⟨.scal, [.lit .nilFunc], 8⟩ := rfl
theorem tab164 : tab 164 = some ⟨.scal, [.lit .nilFunc], 8⟩ := rfl
theorem tab165 : tab 165 = some ⟨.scal, [.lit .nilFunc], 8⟩ := rfl
theorem tab166 : tab 166 = some ⟨.scal, [.lit .nilFunc], 8⟩ := rfl
theorem tab167 : tab 167 = some ⟨.slc 25 2 false, [.sl 2 []], 24⟩ := rfl
theorem tab168 : tab 168 = some ⟨.scal, [.lit .nilFunc], 8⟩ := rfl
theorem tab170 : tab 170 = some ⟨.scal, [.lit .nilFunc], 8⟩ := rfl
theorem tab171 : tab 171 = some ⟨.scal, [.lit .nilFunc], 8⟩ := rfl
theorem tab173 : tab 173 = some ⟨.scal, [.lit .nilFunc], 8⟩ := rfl
theorem tab175 : tab 175 = some ⟨.scal, [.lit .nilFunc], 8⟩ := rfl
theorem tab176 : tab 176 = some ⟨.scal, [.lit .nilFunc], 8⟩ := rfl
theorem tab177 : tab 177 = some ⟨.scal, [.lit (.pointer none)], 8⟩ := rfl
theorem tab178 : tab 178 = some ⟨.strct [(0, 1, 177), (1, 1, 140)], [.lit (.pointer none), .sl 1 []], 32⟩ := rfl
theorem tab179 : tab 179 = some ⟨.strct [(0, 1, 177), (1, 1, 140)], [.lit (.pointer none), .sl 1 []], 32⟩ := rfl
theorem tab180 : tab 180 = some ⟨.scal, [.lit .nilFunc], 8⟩ := rfl
theorem tab181 : tab 181 = some ⟨.scal, [.lit .nilIface], 16⟩ := rfl
theorem tab182 : tab 182 = some ⟨.scal, [.lit .nilIface], 16⟩ := rfl
theorem tab184 : tab 184 = some ⟨.scal, [.lit .nilFunc], 8⟩ := rfl
theorem tab185 : tab 185 = some ⟨.scal, [.lit .nilFunc], 8⟩ := rfl
theorem tab186 : tab 186 = some ⟨.scal, [.lit .nilFunc], 8⟩ := rfl
theorem tab187 : tab 187 = some ⟨.scal, [.lit .nilFunc], 8⟩ := rfl
theorem tab188 : tab 188 = some ⟨.scal, [.lit .nilFunc], 8⟩ := rfl
theorem tab190 : tab 190 = some ⟨.scal, [.lit .nilFunc], 8⟩ := rfl
theorem tab191 : tab 191 = some ⟨.scal, [.lit .nilFunc], 8⟩ := rfl
theorem tab193 : tab 193 = some ⟨.scal, [.lit .nilFunc], 8⟩ := rfl
theorem tab195 : tab 195 = some ⟨.scal, [.lit .nilFunc], 8⟩ := rfl
theorem tab197 : tab 197 = some ⟨.scal, [.lit .nilFunc], 8⟩ := rfl
theorem tab199 : tab 199 = some ⟨.scal, [.lit .nilFunc], 8⟩ := rfl
theorem tab200 : tab 200 = some ⟨.arr 5 9 1, [.lit (.string ⟨#[]⟩), .lit (.string ⟨#[]⟩), .lit (.string ⟨#[]⟩), .lit (.string ⟨#[]⟩), .lit (.string ⟨#[]⟩)], 80⟩ := rfl
theorem tab202 : tab 202 = some ⟨.scal, [.lit .nilFunc], 8⟩ := rfl
theorem tab204 : tab 204 = some ⟨.scal, [.lit .nilFunc], 8⟩ := rfl
theorem tab205 : tab 205 = some ⟨.scal, [.lit .nilFunc], 8⟩ := rfl
theorem tab207 : tab 207 = some ⟨.scal, [.lit .nilFunc], 8⟩ := rfl
theorem tab208 : tab 208 = some ⟨.arr 24 5 1, [.lit (.int .u8 0), .lit (.int .u8 0), .lit (.int .u8 0), .lit (.int .u8 0), .lit (.int .u8 0), .lit (.int .u8 0), .lit (.int .u8 0), .lit (.int .u8 0), .lit (.int .u8 0), .lit (.int .u8 0), .lit (.int .u8 0), .lit (.int .u8 0), .lit (.int .u8 0), .lit (.int .u8 0), .lit (.int .u8 0), .lit (.int .u8 0), .lit (.int .u8 0), .lit (.int .u8 0), .lit (.int .u8 0), .lit (.int .u8 0), .lit (.int .u8 0), .lit (.int .u8 0), .lit (.int .u8 0), .lit (.int .u8 0)], 24⟩ := rfl
theorem tab209 : tab 209 = some ⟨.scal, [.lit .nilFunc], 8⟩ := rfl
theorem tab210 : tab 210 = some ⟨.scal, [.lit .nilFunc], 8⟩ := rfl
theorem tab212 : tab 212 = some ⟨.scal, [.lit .nilFunc], 8⟩ := rfl
theorem tab214 : tab 214 = some ⟨.scal, [.lit .nilFunc], 8⟩ := rfl
theorem tab216 : tab 216 = some ⟨.scal, [.lit .nilFunc], 8⟩ := rfl
theorem tab217 : tab 217 = some ⟨.scal, [.lit (.pointer none)], 8⟩ := rfl
theorem tab218 : tab 218 = some ⟨.scal, [.lit .nilFunc], 8⟩ := rfl
theorem tab219 : tab 219 = some ⟨.scal, [.lit .nilFunc], 8⟩ := rfl
theorem tab220 : tab 220 = some ⟨.scal, [.lit .nilFunc], 8⟩ := rfl
theorem tab221 : tab 221 = some ⟨.scal, [.lit .nilFunc], 8⟩ := rfl
theorem tab222 : tab 222 = some ⟨.scal, [.lit .nilFunc], 8⟩ := rfl
theorem tab223 : tab 223 = some ⟨.scal, [.lit .nilFunc], 8⟩ := rfl
theorem tab224 : tab 224 = some ⟨.scal, [.lit .nilFunc], 8⟩ := rfl
theorem tab225 : tab 225 = some ⟨.arr 20 103 1, [.lit (.int .u64 0), .lit (.int .u64 0), .lit (.int .u64 0), .lit (.int .u64 0), .lit (.int .u64 0), .lit (.int .u64 0), .lit (.int .u64 0), .lit (.int .u64 0), .lit (.int .u64 0), .lit (.int .u64 0), .lit (.int .u64 0), .lit (.int .u64 0), .lit (.int .u64 0), .lit (.int .u64 0), .lit (.int .u64 0), .lit (.int .u64 0), .lit (.int .u64 0), .lit (.int .u64 0), .lit (.int .u64 0), .lit (.int .u64 0)], 160⟩ := rfl
theorem tab227 : tab 227 = some ⟨.scal, [.lit .nilFunc], 8⟩ := rfl
theorem tab229 : tab 229 = some ⟨.scal, [.lit .nilFunc], 8⟩ := rfl
theorem tab230 : tab 230 = some ⟨.scal, [.lit .nilFunc], 8⟩ := rfl
theorem tab232 : tab 232 = some ⟨.strct [(0, 1, 5), (1, 1, 5)], [.lit (.int .u8 0), .lit (.int .u8 0)], 2⟩ := rfl
theorem tab233 : tab 233 = some ⟨.strct [(0, 1, 5), (1, 1, 5)], [.lit (.int .u8 0), .lit (.int .u8 0)], 2⟩ := rfl
theorem tab234 : tab 234 = some ⟨.arr 16 233 2, [.lit (.int .u8 0), .lit (.int .u8 0), .lit (.int .u8 0), .lit (.int .u8 0), .lit (.int .u8 0), .lit (.int .u8 0), .lit (.int .u8 0), .lit (.int .u8 0), .lit (.int .u8 0), .lit (.int .u8 0), .lit (.int .u8 0), .lit (.int .u8 0), .lit (.int .u8 0), .lit (.int .u8 0), .lit (.int .u8 0), .lit (.int .u8 0), .lit (.int .u8 0), .lit (.int .u8 0), .lit (.int .u8 0), .lit (.int .u8 0), .lit (.int .u8 0), .lit (.int .u8 0), .lit (.int .u8 0), .lit (.int .u8 0), .lit (.int .u8 0), .lit (.int .u8 0), .lit (.int .u8 0), .lit (.int .u8 0), .lit (.int .u8 0), .lit (.int .u8 0), .lit (.int .u8 0), .lit (.int .u8 0)], 32⟩ := rfl
theorem tab235 : tab 235 = some ⟨.scal, [.lit .nilFunc], 8⟩ := rfl
theorem tab236 : tab 236 = some ⟨.arr 32 5 1, [.lit (.int .u8 0), .lit (.int .u8 0), .lit (.int .u8 0), .lit (.int .u8 0), .lit (.int .u8 0), .lit (.int .u8 0), .lit (.int .u8 0), .lit (.int .u8 0), .lit (.int .u8 0), .lit (.int .u8 0), .lit (.int .u8 0), .lit (.int .u8 0), .lit (.int .u8 0), .lit (.int .u8 0), .lit (.int .u8 0), .lit (.int .u8 0), .lit (.int .u8 0), .lit (.int .u8 0), .lit (.int .u8 0), .lit (.int .u8 0), .lit (.int .u8 0), .lit (.int .u8 0), .lit (.int .u8 0), .lit (.int .u8 0), .lit (.int .u8 0), .lit (.int .u8 0), .lit (.int .u8 0), .lit (.int .u8 0), .lit (.int .u8 0), .lit (.int .u8 0), .lit (.int .u8 0), .lit (.int .u8 0)], 32⟩ := rfl
theorem tab237 : tab 237 = some ⟨.arr 64 5 1, [.lit (.int .u8 0), .lit (.int .u8 0), .lit (.int .u8 0), .lit (.int .u8 0), .lit (.int .u8 0), .lit (.int .u8 0), .lit (.int .u8 0), .lit (.int .u8 0), .lit (.int .u8 0), .lit (.int .u8 0), .lit (.int .u8 0), .lit (.int .u8 0), .lit (.int .u8 0), .lit (.int .u8 0), .lit (.int .u8 0), .lit (.int .u8 0), .lit (.int .u8 0), .lit (.int .u8 0), .lit (.int .u8 0), .lit (.int .u8 0), .lit (.int .u8 0), .lit (.int .u8 0), .lit (.int .u8 0), .lit (.int .u8 0), .lit (.int .u8 0), .lit (.int .u8 0), .lit (.int .u8 0), .lit (.int .u8 0), .lit (.int .u8 0), .lit (.int .u8 0), .lit (.int .u8 0), .lit (.int .u8 0), .lit (.int .u8 0), .lit (.int .u8 0), .lit (.int .u8 0), .lit (.int .u8 0), .lit (.int .u8 0), .lit (.int .u8 0), .lit (.int .u8 0), .lit (.int .u8 0), .lit (.int .u8 0), .lit (.int .u8 0), .lit (.int .u8 0), .lit (.int .u8 0), .lit (.int .u8 0), .lit (.int .u8 0), .lit (.int .u8 0), .lit (.int .u8 0), .lit (.int .u8 0), .lit (.int .u8 0), .lit (.int .u8 0), .lit (.int .u8 0), .lit (.int .u8 0), .lit (.int .u8 0), .lit (.int .u8 0), .lit (.int .u8 0), .lit (.int .u8 0), .lit (.int .u8 0), .lit (.int .u8 0), .lit (.int .u8 0), .lit (.int .u8 0), .lit (.int .u8 0), .lit (.int .u8 0), .lit (.int .u8 0)], 64⟩ := rfl
theorem tab238 : tab 238 = some ⟨.strct [(0, 1, 17), (1, 1, 17), (2, 1, 17), (3, 1, 9)], [.lit (.pointer none), .lit (.pointer none), .lit (.pointer none), .lit (.string ⟨#[]⟩)], 40⟩ := rfl
theorem tab239 : tab 239 = some ⟨.strct [(0, 1, 17), (1, 1, 17), (2, 1, 17), (3, 1, 9)], [.lit (.pointer none), .lit (.pointer none), .lit (.pointer none), .lit (.string ⟨#[]⟩)], 40⟩ := rfl
theorem tab240 : tab 240 = some ⟨.arr 0 16 1, [], 0⟩ := rfl
theorem tab243 : tab 243 = some ⟨.int .u8, [.lit (.int .u8 0)], 1⟩ := rfl
theorem tab244 : tab 244 = some ⟨.int .u8, [.lit (.int .u8 0)], 1⟩ := rfl
theorem tab245 : tab 245 = some ⟨.scal, [.lit .nilFunc], 8⟩ := rfl
theorem tab246 : tab 246 = some ⟨.int .i32, [.lit (.int .i32 0)], 4⟩ := rfl
theorem tab247 : tab 247 = some ⟨.int .i32, [.lit (.int .i32 0)], 4⟩ := rfl
theorem tab248 : tab 248 = some ⟨.strct [(0, 1, 12), (1, 1, 12), (2, 1, 133), (3, 1, 243), (4, 1, 5), (5, 1, 5), (6, 1, 244), (7, 1, 245), (8, 1, 217), (9, 1, 246), (10, 1, 247)], [.lit (.int .u64 0), .lit (.int .u64 0), .lit (.int .u32 0), .lit (.int .u8 0), .lit (.int .u8 0), .lit (.int .u8 0), .lit (.int .u8 0), .lit .nilFunc, .lit (.pointer none), .lit (.int .i32 0), .lit (.int .i32 0)], 48⟩ := rfl
theorem tab249 : tab 249 = some ⟨.strct [(0, 1, 12), (1, 1, 12), (2, 1, 133), (3, 1, 243), (4, 1, 5), (5, 1, 5), (6, 1, 244), (7, 1, 245), (8, 1, 217), (9, 1, 246), (10, 1, 247)], [.lit (.int .u64 0), .lit (.int .u64 0), .lit (.int .u32 0), .lit (.int .u8 0), .lit (.int .u8 0), .lit (.int .u8 0), .lit (.int .u8 0), .lit .nilFunc, .lit (.pointer none), .lit (.int .i32 0), .lit (.int .i32 0)], 48⟩ := rfl
end Go.Proofs.YtcggnmddcbhchaaGreatDoor
