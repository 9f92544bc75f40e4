/- The table of types of this translation (printed by a program), checked by the kernel. -/
import Derived.Test.YtkmicjpoekbhfaaGreatDoorQVO
namespace Go.Proofs.YtkmicjpoekbhfaaGreatDoor
open Go.RowKit Lim

def tabL : List (Nat × TI) := [
  (1, ⟨.scal, [.lit .nilFunc], 8⟩),
  (2, ⟨.int .i64, [.lit (.int .i64 0)], 8⟩),
  (3, ⟨.int .i64, [.lit (.int .i64 0)], 8⟩),
  (4, ⟨.bool, [.lit (.bool false)], 1⟩),
  (5, ⟨.int .u8, [.lit (.int .u8 0)], 1⟩),
  (6, ⟨.int .u8, [.lit (.int .u8 0)], 1⟩),
  (7, ⟨.strct [(0, 1, 2), (1, 1, 3), (2, 1, 4), (3, 1, 6)], [.lit (.int .i64 0), .lit (.int .i64 0), .lit (.bool false), .lit (.int .u8 0)], 24⟩),
  (8, ⟨.strct [(0, 1, 2), (1, 1, 3), (2, 1, 4), (3, 1, 6)], [.lit (.int .i64 0), .lit (.int .i64 0), .lit (.bool false), .lit (.int .u8 0)], 24⟩),
  (9, ⟨.str, [.lit (.string ⟨#[]⟩)], 16⟩),
  (10, ⟨.str, [.lit (.string ⟨#[]⟩)], 16⟩),
  (11, ⟨.str, [.lit (.string ⟨#[]⟩)], 16⟩),
  (12, ⟨.int .u64, [.lit (.int .u64 0)], 8⟩),
  (13, ⟨.strct [(0, 1, 9), (1, 1, 12)], [.lit (.string ⟨#[]⟩), .lit (.int .u64 0)], 24⟩),
  (14, ⟨.strct [(0, 1, 9), (1, 1, 12)], [.lit (.string ⟨#[]⟩), .lit (.int .u64 0)], 24⟩),
  (15, ⟨.scal, [.lit (.pointer none)], 8⟩),
  (16, ⟨.scal, [.lit (.pointer none)], 8⟩),
  (17, ⟨.scal, [.lit (.pointer none)], 8⟩),
  (18, ⟨.strct [(0, 1, 17)], [.lit (.pointer none)], 8⟩),
  (19, ⟨.strct [(0, 1, 17)], [.lit (.pointer none)], 8⟩),
  (20, ⟨.scal, [.lit .nilIface], 16⟩),
  (21, ⟨.int .i32, [.lit (.int .i32 0)], 4⟩),
  (22, ⟨.slc 9 1 false, [.sl 1 []], 24⟩),
  (23, ⟨.slc 3 1 false, [.sl 1 []], 24⟩),
  (24, ⟨.strct [(0, 1, 3), (1, 1, 3), (2, 1, 3), (3, 1, 9), (4, 1, 22), (5, 1, 23), (6, 1, 3), (7, 1, 3), (8, 1, 22), (9, 1, 3), (10, 1, 9), (11, 1, 3), (12, 1, 3), (13, 1, 3), (14, 1, 3), (15, 1, 23), (16, 1, 3)], [.lit (.int .i64 0), .lit (.int .i64 0), .lit (.int .i64 0), .lit (.string ⟨#[]⟩), .sl 1 [], .sl 1 [], .lit (.int .i64 0), .lit (.int .i64 0), .sl 1 [], .lit (.int .i64 0), .lit (.string ⟨#[]⟩), .lit (.int .i64 0), .lit (.int .i64 0), .lit (.int .i64 0), .lit (.int .i64 0), .sl 1 [], .lit (.int .i64 0)], 216⟩),
  (25, ⟨.strct [(0, 1, 3), (1, 1, 3), (2, 1, 3), (3, 1, 9), (4, 1, 22), (5, 1, 23), (6, 1, 3), (7, 1, 3), (8, 1, 22), (9, 1, 3), (10, 1, 9), (11, 1, 3), (12, 1, 3), (13, 1, 3), (14, 1, 3), (15, 1, 23), (16, 1, 3)], [.lit (.int .i64 0), .lit (.int .i64 0), .lit (.int .i64 0), .lit (.string ⟨#[]⟩), .sl 1 [], .sl 1 [], .lit (.int .i64 0), .lit (.int .i64 0), .sl 1 [], .lit (.int .i64 0), .lit (.string ⟨#[]⟩), .lit (.int .i64 0), .lit (.int .i64 0), .lit (.int .i64 0), .lit (.int .i64 0), .sl 1 [], .lit (.int .i64 0)], 216⟩),
  (26, ⟨.strct [(0, 1, 3), (1, 1, 23), (2, 1, 3), (3, 1, 9), (4, 1, 4)], [.lit (.int .i64 0), .sl 1 [], .lit (.int .i64 0), .lit (.string ⟨#[]⟩), .lit (.bool false)], 64⟩),
  (27, ⟨.strct [(0, 1, 3), (1, 1, 23), (2, 1, 3), (3, 1, 9), (4, 1, 4)], [.lit (.int .i64 0), .sl 1 [], .lit (.int .i64 0), .lit (.string ⟨#[]⟩), .lit (.bool false)], 64⟩),
  (28, ⟨.int .i64, [.lit (.int .i64 0)], 8⟩),
  (30, ⟨.scal, [.lit .nilFunc], 8⟩),
  (32, ⟨.scal, [.lit .nilFunc], 8⟩),
  (33, ⟨.scal, [.lit .nilFunc], 8⟩),
  (34, ⟨.scal, [.lit .nilFunc], 8⟩),
  (35, ⟨.scal, [.lit .nilFunc], 8⟩),
  (36, ⟨.scal, [.lit .nilFunc], 8⟩),
  (37, ⟨.scal, [.lit .nilFunc], 8⟩),
  (39, ⟨.scal, [.lit .nilFunc], 8⟩),
  (40, ⟨.scal, [.lit .nilFunc], 8⟩),
  (41, ⟨.scal, [.lit .nilFunc], 8⟩),
  (42, ⟨.scal, [.lit .nilFunc], 8⟩),
  (43, ⟨.scal, [.lit .nilFunc], 8⟩),
  (44, ⟨.int .u16, [.lit (.int .u16 0)], 2⟩),
  (45, ⟨.int .u64, [.lit (.int .u64 0)], 8⟩),
  (46, ⟨.scal, [.lit .nilFunc], 8⟩),
  (47, ⟨.scal, [.lit .nilFunc], 8⟩),
  (48, ⟨.scal, [.lit .nilFunc], 8⟩),
  (49, ⟨.scal, [.lit .nilFunc], 8⟩),
  (50, ⟨.scal, [.lit .nilFunc], 8⟩),
  (51, ⟨.scal, [.lit .nilFunc], 8⟩),
  (52, ⟨.scal, [.lit .nilFunc], 8⟩),
  (53, ⟨.scal, [.lit .nilFunc], 8⟩),
  (54, ⟨.scal, [.lit .nilFunc], 8⟩),
  (55, ⟨.scal, [.lit .nilFunc], 8⟩),
  (56, ⟨.scal, [.lit .nilFunc], 8⟩),
  (57, ⟨.scal, [.lit .nilFunc], 8⟩),
  (58, ⟨.scal, [.lit .nilFunc], 8⟩),
  (59, ⟨.scal, [.lit .nilFunc], 8⟩),
  (60, ⟨.scal, [.lit .nilFunc], 8⟩),
  (61, ⟨.scal, [.lit .nilFunc], 8⟩),
  (62, ⟨.slc 115 1 true, [.nat []], 24⟩),
  (63, ⟨.slc 115 1 true, [.nat []], 24⟩),
  (64, ⟨.strct [(0, 1, 4), (1, 1, 63)], [.lit (.bool false), .nat []], 32⟩),
  (65, ⟨.strct [(0, 1, 4), (1, 1, 63)], [.lit (.bool false), .nat []], 32⟩),
  (66, ⟨.scal, [.lit .nilFunc], 8⟩),
  (67, ⟨.strct [(0, 2, 65), (2, 1, 3)], [.lit (.bool false), .nat [], .lit (.int .i64 0)], 40⟩),
  (68, ⟨.strct [(0, 2, 65), (2, 1, 3)], [.lit (.bool false), .nat [], .lit (.int .i64 0)], 40⟩),
  (69, ⟨.scal, [.lit .nilFunc], 8⟩),
  (70, ⟨.scal, [.lit .nilFunc], 8⟩),
  (71, ⟨.slc 5 1 false, [.sl 1 []], 24⟩),
  (72, ⟨.scal, [.lit .nilFunc], 8⟩),
  (73, ⟨.scal, [.lit .nilFunc], 8⟩),
  (74, ⟨.scal, [.lit .nilFunc], 8⟩),
  (75, ⟨.scal, [.lit .nilFunc], 8⟩),
  (76, ⟨.scal, [.lit .nilFunc], 8⟩),
  (77, ⟨.scal, [.lit .nilFunc], 8⟩),
  (78, ⟨.scal, [.lit .nilFunc], 8⟩),
  (79, ⟨.scal, [.lit .nilFunc], 8⟩),
  (80, ⟨.scal, [.lit .nilFunc], 8⟩),
  (81, ⟨.scal, [.lit .nilFunc], 8⟩),
  (82, ⟨.scal, [.lit .nilFunc], 8⟩),
  (83, ⟨.scal, [.lit .nilFunc], 8⟩),
  (84, ⟨.scal, [.lit .nilFunc], 8⟩),
  (85, ⟨.scal, [.lit .nilFunc], 8⟩),
  (86, ⟨.scal, [.lit .nilFunc], 8⟩),
  (87, ⟨.scal, [.lit .nilFunc], 8⟩),
  (88, ⟨.int .u64, [.lit (.int .u64 0)], 8⟩),
  (89, ⟨.scal, [.lit (.pointer none)], 8⟩),
  (90, ⟨.strct [(0, 1, 89), (1, 1, 71)], [.lit (.pointer none), .sl 1 []], 32⟩),
  (91, ⟨.strct [(0, 1, 89), (1, 1, 71)], [.lit (.pointer none), .sl 1 []], 32⟩),
  (92, ⟨.scal, [.lit .nilFunc], 8⟩),
  (93, ⟨.scal, [.lit .nilIface], 16⟩),
  (94, ⟨.scal, [.lit .nilIface], 16⟩),
  (96, ⟨.scal, [.lit .nilFunc], 8⟩),
  (97, ⟨.scal, [.lit .nilFunc], 8⟩),
  (99, ⟨.scal, [.lit .nilFunc], 8⟩),
  (101, ⟨.scal, [.lit .nilFunc], 8⟩),
  (103, ⟨.scal, [.lit .nilFunc], 8⟩),
  (105, ⟨.scal, [.lit .nilFunc], 8⟩),
  (106, ⟨.scal, [.lit .nilFunc], 8⟩),
  (107, ⟨.scal, [.lit .nilFunc], 8⟩),
  (108, ⟨.scal, [.lit .nilFunc], 8⟩),
  (109, ⟨.scal, [.lit .nilFunc], 8⟩),
  (110, ⟨.arr 5 9 1, [.lit (.string ⟨#[]⟩), .lit (.string ⟨#[]⟩), .lit (.string ⟨#[]⟩), .lit (.string ⟨#[]⟩), .lit (.string ⟨#[]⟩)], 80⟩),
  (112, ⟨.scal, [.lit .nilFunc], 8⟩),
  (113, ⟨.scal, [.lit .nilFunc], 8⟩),
  (114, ⟨.scal, [.lit .nilFunc], 8⟩),
  (115, ⟨.int .u32, [.lit (.int .u32 0)], 4⟩),
  (117, ⟨.scal, [.lit .nilFunc], 8⟩),
  (118, ⟨.scal, [.lit .nilFunc], 8⟩),
  (119, ⟨.scal, [.lit .nilFunc], 8⟩),
  (121, ⟨.scal, [.lit .nilFunc], 8⟩),
  (122, ⟨.scal, [.lit .nilFunc], 8⟩),
  (123, ⟨.scal, [.lit .nilFunc], 8⟩),
  (124, ⟨.scal, [.lit .nilFunc], 8⟩),
  (125, ⟨.scal, [.lit (.pointer none)], 8⟩),
  (126, ⟨.scal, [.lit .nilFunc], 8⟩),
  (128, ⟨.scal, [.lit .nilFunc], 8⟩),
  (129, ⟨.scal, [.lit .nilFunc], 8⟩),
  (131, ⟨.scal, [.lit .nilFunc], 8⟩),
  (132, ⟨.scal, [.lit .nilFunc], 8⟩),
  (134, ⟨.scal, [.lit .nilFunc], 8⟩),
  (135, ⟨.scal, [.lit .nilFunc], 8⟩),
  (136, ⟨.int .i64, [.lit (.int .i64 0)], 8⟩),
  (138, ⟨.scal, [.lit .nilFunc], 8⟩),
  (139, ⟨.scal, [.lit .nilFunc], 8⟩),
  (140, ⟨.scal, [.lit .nilFunc], 8⟩),
  (142, ⟨.scal, [.lit .nilFunc], 8⟩),
  (143, ⟨.scal, [.lit .nilFunc], 8⟩),
  (144, ⟨.scal, [.lit .nilFunc], 8⟩),
  (145, ⟨.scal, [.lit .nilFunc], 8⟩),
  (147, ⟨.scal, [.lit .nilFunc], 8⟩),
  (148, ⟨.scal, [.lit .nilFunc], 8⟩),
  (150, ⟨.scal, [.lit .nilFunc], 8⟩),
  (152, ⟨.scal, [.lit .nilFunc], 8⟩),
  (153, ⟨.arr 24 5 1, [.lit (.int .u8 0), .lit (.int .u8 0), .lit (.int .u8 0), .lit (.int .u8 0), .lit (.int .u8 0), .lit (.int .u8 0), .lit (.int .u8 0), .lit (.int .u8 0), .lit (.int .u8 0), .lit (.int .u8 0), .lit (.int .u8 0), .lit (.int .u8 0), .lit (.int .u8 0), .lit (.int .u8 0), .lit (.int .u8 0), .lit (.int .u8 0), .lit (.int .u8 0), .lit (.int .u8 0), .lit (.int .u8 0), .lit (.int .u8 0), .lit (.int .u8 0), .lit (.int .u8 0), .lit (.int .u8 0), .lit (.int .u8 0)], 24⟩),
  (154, ⟨.scal, [.lit .nilFunc], 8⟩),
  (156, ⟨.scal, [.lit .nilFunc], 8⟩),
  (158, ⟨.scal, [.lit .nilFunc], 8⟩),
  (159, ⟨.scal, [.lit .nilFunc], 8⟩),
  (160, ⟨.scal, [.lit .nilFunc], 8⟩),
  (161, ⟨.scal, [.lit .nilFunc], 8⟩),
  (165, ⟨.scal, [.lit .nilFunc], 8⟩),
  (166, ⟨.scal, [.lit .nilFunc], 8⟩),
  (167, ⟨.scal, [.lit (.pointer none)], 8⟩),
  (168, ⟨.int .u64, [.lit (.int .u64 0)], 8⟩),
  (169, ⟨.scal, [.lit .nilFunc], 8⟩),
  (170, ⟨.scal, [.lit .nilFunc], 8⟩),
  (171, ⟨.scal, [.lit .nilFunc], 8⟩),
  (172, ⟨.scal, [.lit (.pointer none)], 8⟩),
  (173, ⟨.scal, [.lit .nilFunc], 8⟩),
  (174, ⟨.scal, [.lit .nilFunc], 8⟩),
  (175, ⟨.scal, [.lit .nilFunc], 8⟩),
  (176, ⟨.scal, [.lit .nilFunc], 8⟩),
  (177, ⟨.scal, [.lit .nilFunc], 8⟩),
  (178, ⟨.arr 20 88 1, [.lit (.int .u64 0), .lit (.int .u64 0), .lit (.int .u64 0), .lit (.int .u64 0), .lit (.int .u64 0), .lit (.int .u64 0), .lit (.int .u64 0), .lit (.int .u64 0), .lit (.int .u64 0), .lit (.int .u64 0), .lit (.int .u64 0), .lit (.int .u64 0), .lit (.int .u64 0), .lit (.int .u64 0), .lit (.int .u64 0), .lit (.int .u64 0), .lit (.int .u64 0), .lit (.int .u64 0), .lit (.int .u64 0), .lit (.int .u64 0)], 160⟩),
  (180, ⟨.scal, [.lit .nilFunc], 8⟩),
  (181, ⟨.scal, [.lit .nilFunc], 8⟩),
  (182, ⟨.scal, [.lit .nilFunc], 8⟩),
  (183, ⟨.scal, [.lit (.pointer none)], 8⟩),
  (185, ⟨.scal, [.lit .nilFunc], 8⟩),
  (187, ⟨.strct [(0, 1, 5), (1, 1, 5)], [.lit (.int .u8 0), .lit (.int .u8 0)], 2⟩),
  (188, ⟨.strct [(0, 1, 5), (1, 1, 5)], [.lit (.int .u8 0), .lit (.int .u8 0)], 2⟩),
  (189, ⟨.arr 16 188 2, [.lit (.int .u8 0), .lit (.int .u8 0), .lit (.int .u8 0), .lit (.int .u8 0), .lit (.int .u8 0), .lit (.int .u8 0), .lit (.int .u8 0), .lit (.int .u8 0), .lit (.int .u8 0), .lit (.int .u8 0), .lit (.int .u8 0), .lit (.int .u8 0), .lit (.int .u8 0), .lit (.int .u8 0), .lit (.int .u8 0), .lit (.int .u8 0), .lit (.int .u8 0), .lit (.int .u8 0), .lit (.int .u8 0), .lit (.int .u8 0), .lit (.int .u8 0), .lit (.int .u8 0), .lit (.int .u8 0), .lit (.int .u8 0), .lit (.int .u8 0), .lit (.int .u8 0), .lit (.int .u8 0), .lit (.int .u8 0), .lit (.int .u8 0), .lit (.int .u8 0), .lit (.int .u8 0), .lit (.int .u8 0)], 32⟩),
  (190, ⟨.scal, [.lit .nilFunc], 8⟩),
  (191, ⟨.scal, [.lit .nilFunc], 8⟩),
  (192, ⟨.arr 32 5 1, [.lit (.int .u8 0), .lit (.int .u8 0), .lit (.int .u8 0), .lit (.int .u8 0), .lit (.int .u8 0), .lit (.int .u8 0), .lit (.int .u8 0), .lit (.int .u8 0), .lit (.int .u8 0), .lit (.int .u8 0), .lit (.int .u8 0), .lit (.int .u8 0), .lit (.int .u8 0), .lit (.int .u8 0), .lit (.int .u8 0), .lit (.int .u8 0), .lit (.int .u8 0), .lit (.int .u8 0), .lit (.int .u8 0), .lit (.int .u8 0), .lit (.int .u8 0), .lit (.int .u8 0), .lit (.int .u8 0), .lit (.int .u8 0), .lit (.int .u8 0), .lit (.int .u8 0), .lit (.int .u8 0), .lit (.int .u8 0), .lit (.int .u8 0), .lit (.int .u8 0), .lit (.int .u8 0), .lit (.int .u8 0)], 32⟩),
  (193, ⟨.arr 64 5 1, [.lit (.int .u8 0), .lit (.int .u8 0), .lit (.int .u8 0), .lit (.int .u8 0), .lit (.int .u8 0), .lit (.int .u8 0), .lit (.int .u8 0), .lit (.int .u8 0), .lit (.int .u8 0), .lit (.int .u8 0), .lit (.int .u8 0), .lit (.int .u8 0), .lit (.int .u8 0), .lit (.int .u8 0), .lit (.int .u8 0), .lit (.int .u8 0), .lit (.int .u8 0), .lit (.int .u8 0), .lit (.int .u8 0), .lit (.int .u8 0), .lit (.int .u8 0), .lit (.int .u8 0), .lit (.int .u8 0), .lit (.int .u8 0), .lit (.int .u8 0), .lit (.int .u8 0), .lit (.int .u8 0), .lit (.int .u8 0), .lit (.int .u8 0), .lit (.int .u8 0), .lit (.int .u8 0), .lit (.int .u8 0), .lit (.int .u8 0), .lit (.int .u8 0), .lit (.int .u8 0), .lit (.int .u8 0), .lit (.int .u8 0), .lit (.int .u8 0), .lit (.int .u8 0), .lit (.int .u8 0), .lit (.int .u8 0), .lit (.int .u8 0), .lit (.int .u8 0), .lit (.int .u8 0), .lit (.int .u8 0), .lit (.int .u8 0), .lit (.int .u8 0), .lit (.int .u8 0), .lit (.int .u8 0), .lit (.int .u8 0), .lit (.int .u8 0), .lit (.int .u8 0), .lit (.int .u8 0), .lit (.int .u8 0), .lit (.int .u8 0), .lit (.int .u8 0), .lit (.int .u8 0), .lit (.int .u8 0), .lit (.int .u8 0), .lit (.int .u8 0), .lit (.int .u8 0), .lit (.int .u8 0), .lit (.int .u8 0), .lit (.int .u8 0)], 64⟩),
  (194, ⟨.scal, [.lit .nilFunc], 8⟩),
  (195, ⟨.strct [(0, 1, 17), (1, 1, 17), (2, 1, 17), (3, 1, 9)], [.lit (.pointer none), .lit (.pointer none), .lit (.pointer none), .lit (.string ⟨#[]⟩)], 40⟩),
  (196, ⟨.strct [(0, 1, 17), (1, 1, 17), (2, 1, 17), (3, 1, 9)], [.lit (.pointer none), .lit (.pointer none), .lit (.pointer none), .lit (.string ⟨#[]⟩)], 40⟩),
  (197, ⟨.arr 0 16 1, [], 0⟩),
  (200, ⟨.int .u8, [.lit (.int .u8 0)], 1⟩),
  (201, ⟨.int .u8, [.lit (.int .u8 0)], 1⟩),
  (202, ⟨.scal, [.lit .nilFunc], 8⟩),
  (203, ⟨.int .i32, [.lit (.int .i32 0)], 4⟩),
  (204, ⟨.int .i32, [.lit (.int .i32 0)], 4⟩),
  (205, ⟨.strct [(0, 1, 12), (1, 1, 12), (2, 1, 115), (3, 1, 200), (4, 1, 5), (5, 1, 5), (6, 1, 201), (7, 1, 202), (8, 1, 125), (9, 1, 203), (10, 1, 204)], [.lit (.int .u64 0), .lit (.int .u64 0), .lit (.int .u32 0), .lit (.int .u8 0), .lit (.int .u8 0), .lit (.int .u8 0), .lit (.int .u8 0), .lit .nilFunc, .lit (.pointer none), .lit (.int .i32 0), .lit (.int .i32 0)], 48⟩),
  (206, ⟨.strct [(0, 1, 12), (1, 1, 12), (2, 1, 115), (3, 1, 200), (4, 1, 5), (5, 1, 5), (6, 1, 201), (7, 1, 202), (8, 1, 125), (9, 1, 203), (10, 1, 204)], [.lit (.int .u64 0), .lit (.int .u64 0), .lit (.int .u32 0), .lit (.int .u8 0), .lit (.int .u8 0), .lit (.int .u8 0), .lit (.int .u8 0), .lit .nilFunc, .lit (.pointer none), .lit (.int .i32 0), .lit (.int .i32 0)], 48⟩)]
def tab : TyTab := ofL tabL
theorem tab_ok : tabL.all (fun p => tiB Tryz.prog p.1 p.2) = true := by kernel_rfl
set_option maxRecDepth 100000
theorem tab1 : tab 1 = some ⟨.scal, [.lit .nilFunc], 8⟩ := rfl
theorem tab2 : tab 2 = some ⟨.int .i64, [.lit (.int .i64 0)], 8⟩ := rfl
theorem tab3 : tab 3 = some ⟨.int .i64, [.lit (.int .i64 0)], 8⟩ := rfl
theorem tab4 : tab 4 = some ⟨.bool, [.lit (.bool false)], 1⟩ := rfl
theorem tab5 : tab 5 = some ⟨.int .u8, [.lit (.int .u8 0)], 1⟩ := rfl
theorem tab6 : tab 6 = some ⟨.int .u8, [.lit (.int .u8 0)], 1⟩ := rfl
theorem tab7 : tab 7 = some ⟨.strct [(0, 1, 2), (1, 1, 3), (2, 1, 4), (3, 1, 6)], [.lit (.int .i64 0), .lit (.int .i64 0), .lit (.bool false), .lit (.int .u8 0)], 24⟩ := rfl
theorem tab8 : tab 8 = some ⟨.strct [(0, 1, 2), (1, 1, 3), (2, 1, 4), (3, 1, 6)], [.lit (.int .i64 0), .lit (.int .i64 0), .lit (.bool false), .lit (.int .u8 0)], 24⟩ := rfl
theorem tab9 : tab 9 = some ⟨.str, [.lit (.string ⟨#[]⟩)], 16⟩ := rfl
theorem tab10 : tab 10 = some ⟨.str, [.lit (.string ⟨#[]⟩)], 16⟩ := rfl
theorem tab11 : tab 11 = some ⟨.str, [.lit (.string ⟨#[]⟩)], 16⟩ := rfl
theorem tab12 : tab 12 = some ⟨.int .u64, [.lit (.int .u64 0)], 8⟩ := rfl
theorem tab13 : tab 13 = some ⟨.strct [(0, 1, 9), (1, 1, 12)], [.lit (.string ⟨#[]⟩), .lit (.int .u64 0)], 24⟩ := rfl
theorem tab14 : tab 14 = some ⟨.strct [(0, 1, 9), (1, 1, 12)], [.lit (.string ⟨#[]⟩), .lit (.int .u64 0)], 24⟩ := rfl
theorem tab15 : tab 15 = some ⟨.scal, [.lit (.pointer none)], 8⟩ := rfl
theorem tab16 : tab 16 = some ⟨.scal, [.lit (.pointer none)], 8⟩ := rfl
theorem tab17 : tab 17 = some ⟨.scal, [.lit (.pointer none)], 8⟩ := rfl
theorem tab18 : tab 18 = some ⟨.strct [(0, 1, 17)], [.lit (.pointer none)], 8⟩ := rfl
theorem tab19 : tab 19 = some ⟨.strct [(0, 1, 17)], [.lit (.pointer none)], 8⟩ := rfl
theorem tab20 : tab 20 = some ⟨.scal, [.lit .nilIface], 16⟩ := rfl
theorem tab21 : tab 21 = some ⟨.int .i32, [.lit (.int .i32 0)], 4⟩ := rfl
theorem tab22 : tab 22 = some ⟨.slc 9 1 false, [.sl 1 []], 24⟩ := rfl
theorem tab23 : tab 23 = some ⟨.slc 3 1 false, [.sl 1 []], 24⟩ := rfl
theorem tab24 : tab 24 = some ⟨.strct [(0, 1, 3), (1, 1, 3), (2, 1, 3), (3, 1, 9), (4, 1, 22), (5, 1, 23), (6, 1, 3), (7, 1, 3), (8, 1, 22), (9, 1, 3), (10, 1, 9), (11, 1, 3), (12, 1, 3), (13, 1, 3), (14, 1, 3), (15, 1, 23), (16, 1, 3)], [.lit (.int .i64 0), .lit (.int .i64 0), .lit (.int .i64 0), .lit (.string ⟨#[]⟩), .sl 1 [], .sl 1 [], .lit (.int .i64 0), .lit (.int .i64 0), .sl 1 [], .lit (.int .i64 0), .lit (.string ⟨#[]⟩), .lit (.int .i64 0), .lit (.int .i64 0), .lit (.int .i64 0), .lit (.int .i64 0), .sl 1 [], .lit (.int .i64 0)], 216⟩ := rfl
theorem tab25 : tab 25 = some ⟨.strct [(0, 1, 3), (1, 1, 3), (2, 1, 3), (3, 1, 9), (4, 1, 22), (5, 1, 23), (6, 1, 3), (7, 1, 3), (8, 1, 22), (9, 1, 3), (10, 1, 9), (11, 1, 3), (12, 1, 3), (13, 1, 3), (14, 1, 3), (15, 1, 23), (16, 1, 3)], [.lit (.int .i64 0), .lit (.int .i64 0), .lit (.int .i64 0), .lit (.string ⟨#[]⟩), .sl 1 [], .sl 1 [], .lit (.int .i64 0), .lit (.int .i64 0), .sl 1 [], .lit (.int .i64 0), .lit (.string ⟨#[]⟩), .lit (.int .i64 0), .lit (.int .i64 0), .lit (.int .i64 0), .lit (.int .i64 0), .sl 1 [], .lit (.int .i64 0)], 216⟩ := rfl
theorem tab26 : tab 26 = some ⟨.strct [(0, 1, 3), (1, 1, 23), (2, 1, 3), (3, 1, 9), (4, 1, 4)], [.lit (.int .i64 0), .sl 1 [], .lit (.int .i64 0), .lit (.string ⟨#[]⟩), .lit (.bool false)], 64⟩ := rfl
theorem tab27 : tab 27 = some ⟨.strct [(0, 1, 3), (1, 1, 23), (2, 1, 3), (3, 1, 9), (4, 1, 4)], [.lit (.int .i64 0), .sl 1 [], .lit (.int .i64 0), .lit (.string ⟨#[]⟩), .lit (.bool false)], 64⟩ := rfl
theorem tab28 : tab 28 = some ⟨.int .i64, [.lit (.int .i64 0)], 8⟩ := rfl
theorem tab30 : tab 30 = some ⟨.scal, [.lit .nilFunc], 8⟩ := rfl
theorem tab32 : tab 32 = some ⟨.scal, [.lit .nilFunc], 8⟩ := rfl
theorem tab33 : tab 33 = some ⟨.scal, [.lit .nilFunc], 8⟩ := rfl
theorem tab34 : tab 34 = some ⟨.scal, [.lit .nilFunc], 8⟩ := rfl
theorem tab35 : tab 35 = some ⟨.scal, [.lit .nilFunc], 8⟩ := rfl
theorem tab36 : tab 36 = some ⟨.scal, [.lit .nilFunc], 8⟩ := rfl
theorem tab37 : tab 37 = some ⟨.scal, [.lit .nilFunc], 8⟩ := rfl
theorem tab39 : tab 39 = some ⟨.scal, [.lit .nilFunc], 8⟩ := rfl
theorem tab40 : tab 40 = some ⟨.scal, [.lit .nilFunc], 8⟩ := rfl
theorem tab41 : tab 41 = some ⟨.scal, [.lit .nilFunc], 8⟩ := rfl
theorem tab42 : tab 42 = some ⟨.scal, [.lit .nilFunc], 8⟩ := rfl
theorem tab43 : tab 43 = some ⟨.scal, [.lit .nilFunc], 8⟩ := rfl
theorem tab44 : tab 44 = some ⟨.int .u16, [.lit (.int .u16 0)], 2⟩ := rfl
theorem tab45 : tab 45 = some ⟨.int .u64, [.lit (.int .u64 0)], 8⟩ := rfl
theorem tab46 : tab 46 = some ⟨.scal, [.lit .nilFunc], 8⟩ := rfl
theorem tab47 : tab 47 = some ⟨.scal, [.lit .nilFunc], 8⟩ := rfl
theorem tab48 : tab 48 = some ⟨.scal, [.lit .nilFunc], 8⟩ := rfl
theorem tab49 : tab 49 = some ⟨.scal, [.lit .nilFunc], 8⟩ := rfl
theorem tab50 : tab 50 = some ⟨.scal, [.lit .nilFunc], 8⟩ := rfl
theorem tab51 : tab 51 = some ⟨.scal, [.lit .nilFunc], 8⟩ := rfl
theorem tab52 : tab 52 = some ⟨.scal, [.lit .nilFunc], 8⟩ := rfl
theorem tab53 : tab 53 = some ⟨.scal, [.lit .nilFunc], 8⟩ := rfl
theorem tab54 : tab 54 = some ⟨.scal, [.lit .nilFunc], 8⟩ := rfl
theorem tab55 : tab 55 = some ⟨.scal, [.lit .nilFunc], 8⟩ := rfl
theorem tab56 : tab 56 = some ⟨.scal, [.lit .nilFunc], 8⟩ := rfl
theorem tab57 : tab 57 = some ⟨.scal, [.lit .nilFunc], 8⟩ := rfl
theorem tab58 : tab 58 = some ⟨.scal, [.lit .nilFunc], 8⟩ := rfl
theorem tab59 : tab 59 = some ⟨.scal, [.lit .nilFunc], 8⟩ := rfl
theorem tab60 : tab 60 = some ⟨.scal, [.lit .nilFunc], 8⟩ := rfl
theorem tab61 : tab 61 = some ⟨.scal, [.lit .nilFunc], 8⟩ := rfl
theorem tab62 : tab 62 = some ⟨.slc 115 1 true, [.nat []], 24⟩ := rfl
theorem tab63 : tab 63 = some ⟨.slc 115 1 true, [.nat []], 24⟩ := rfl
theorem tab64 : tab 64 = some ⟨.strct [(0, 1, 4), (1, 1, 63)], [.lit (.bool false), .nat []], 32⟩ := rfl
theorem tab65 : tab 65 = some ⟨.strct [(0, 1, 4), (1, 1, 63)], [.lit (.bool false), .nat []], 32⟩ := rfl
theorem tab66 : tab 66 = some ⟨.scal, [.lit .nilFunc], 8⟩ := rfl
theorem tab67 : tab 67 = some ⟨.strct [(0, 2, 65), (2, 1, 3)], [.lit (.bool false), .nat [], .lit (.int .i64 0)], 40⟩ := rfl
theorem tab68 : tab 68 = some ⟨.strct [(0, 2, 65), (2, 1, 3)], [.lit (.bool false), .nat [], .lit (.int .i64 0)], 40⟩ := rfl
theorem tab69 : tab 69 = some ⟨.scal, [.lit .nilFunc], 8⟩ := rfl
theorem tab70 : tab 70 = some ⟨.scal, [.lit .nilFunc], 8⟩ := rfl
theorem tab71 : tab 71 = some ⟨.slc 5 1 false, [.sl 1 []], 24⟩ := rfl
theorem tab72 : tab 72 = some ⟨.scal, [.lit .nilFunc], 8⟩ := rfl
theorem tab73 : tab 73 = some ⟨.scal, [.lit .nilFunc], 8⟩ := rfl
theorem tab74 : tab 74 = some ⟨.scal, [.lit .nilFunc], 8⟩ := rfl
theorem tab75 : tab 75 = some ⟨.scal, [.lit .nilFunc], 8⟩ := rfl
theorem tab76 : tab 76 = some ⟨.scal, [.lit .nilFunc], 8⟩ := rfl
theorem tab77 : tab 77 = some ⟨.scal, [.lit .nilFunc], 8⟩ := rfl
theorem tab78 : tab 78 = some ⟨.scal, [.lit .nilFunc], 8⟩ := rfl
theorem tab79 : tab 79 = some ⟨.scal, [.lit .nilFunc], 8⟩ := rfl
theorem tab80 : tab 80 = some ⟨.scal, [.lit .nilFunc], 8⟩ := rfl
theorem tab81 : tab 81 = some ⟨.scal, [.lit .nilFunc], 8⟩ := rfl
theorem tab82 : tab 82 = some ⟨.scal, [.lit .nilFunc], 8⟩ := rfl
theorem tab83 : tab 83 = some ⟨.scal, [.lit .nilFunc], 8⟩ := rfl
theorem tab84 : tab 84 = some ⟨.scal, [.lit .nilFunc], 8⟩ := rfl
theorem tab85 : tab 85 = some ⟨.scal, [.lit .nilFunc], 8⟩ := rfl
theorem tab86 : tab 86 = some ⟨.scal, [.lit .nilFunc], 8⟩ := rfl
theorem tab87 : tab 87 = some ⟨.scal, [.lit .nilFunc], 8⟩ := rfl
theorem tab88 : tab 88 = some ⟨.int .u64, [.lit (.int .u64 0)], 8⟩ := rfl
theorem tab89 : tab 89 = some ⟨.scal, [.lit (.pointer none)], 8⟩ := rfl
theorem tab90 : tab 90 = some ⟨.strct [(0, 1, 89), (1, 1, 71)], [.lit (.pointer none), .sl 1 []], 32⟩ := rfl
theorem tab91 : tab 91 = some ⟨.strct [(0, 1, 89), (1, 1, 71)], [.lit (.pointer none), .sl 1 []], 32⟩ := rfl
theorem tab92 : tab 92 = some ⟨.scal, [.lit .nilFunc], 8⟩ := rfl
theorem tab93 : tab 93 = some ⟨.scal, [.lit .nilIface], 16⟩ := rfl
theorem tab94 : tab 94 = some ⟨.scal, [.lit .nilIface], 16⟩ := rfl
theorem tab96 : tab 96 = some ⟨.scal, [.lit .nilFunc], 8⟩ := rfl
theorem tab97 : tab 97 = some ⟨.scal, [.lit .nilFunc], 8⟩ := rfl
theorem tab99 : tab 99 = some ⟨.scal, [.lit .nilFunc], 8⟩ := rfl
theorem tab101 : tab 101 = some ⟨.scal, [.lit .nilFunc], 8⟩ := rfl
theorem tab103 : tab 103 = some ⟨.scal, [.lit .nilFunc], 8⟩ := rfl
theorem tab105 : tab 105 = some ⟨.scal, [.lit .nilFunc], 8⟩ := rfl
theorem tab106 : tab 106 = some ⟨.scal, [.lit .nilFunc], 8⟩ := rfl
theorem tab107 : tab 107 = some ⟨.scal, [.lit .nilFunc], 8⟩ := rfl
theorem tab108 : tab 108 = some ⟨.scal, [.lit .nilFunc], 8⟩ := rfl
theorem tab109 : tab 109 = some ⟨.scal, [.lit .nilFunc], 8⟩ := rfl
theorem tab110 : tab 110 = some ⟨.arr 5 9 1, [.lit (.string ⟨#[]⟩), .lit (.string ⟨#[]⟩), .lit (.string ⟨#[]⟩), .lit (.string ⟨#[]⟩), .lit (.string ⟨#[]⟩)], 80⟩ := rfl
theorem tab112 : tab 112 = some ⟨.scal, [.lit .nilFunc], 8⟩ := rfl
theorem tab113 : tab 113 = some ⟨.scal, [.lit .nilFunc], 8⟩ := rfl
theorem tab114 : tab 114 = some ⟨.scal, [.lit .nilFunc], 8⟩ := rfl
theorem tab115 : tab 115 = some ⟨.int .u32, [.lit (.int .u32 0)], 4⟩ := rfl
theorem tab117 : tab 117 = some ⟨.scal, [.lit .nilFunc], 8⟩ := rfl
theorem tab118 : tab 118 = some ⟨.scal, [.lit .nilFunc], 8⟩ := rfl
theorem tab119 : tab 119 = some ⟨.scal, [.lit .nilFunc], 8⟩ := rfl
theorem tab121 : tab 121 = some ⟨.scal, [.lit .nilFunc], 8⟩ := rfl
theorem tab122 : tab 122 = some ⟨.scal, [.lit .nilFunc], 8⟩ := rfl
theorem tab123 : tab 123 = some ⟨.scal, [.lit .nilFunc], 8⟩ := rfl
theorem tab124 : tab 124 = some ⟨.scal, [.lit .nilFunc], 8⟩ := rfl
theorem tab125 : tab 125 = some ⟨.scal, [.lit (.pointer none)], 8⟩ := rfl
theorem tab126 : tab 126 = some ⟨.scal, [.lit .nilFunc], 8⟩ := rfl
theorem tab128 : tab 128 = some ⟨.scal, [.lit .nilFunc], 8⟩ := rfl
theorem tab129 : tab 129 = some ⟨.scal, [.lit .nilFunc], 8⟩ := rfl
theorem tab131 : tab 131 = some ⟨.scal, [.lit .nilFunc], 8⟩ := rfl
theorem tab132 : tab 132 = some ⟨.scal, [.lit .nilFunc], 8⟩ := rfl
theorem tab134 : tab 134 = some ⟨.scal, [.lit .nilFunc], 8⟩ := rfl
theorem tab135 : tab 135 = some ⟨.scal, [.lit .nilFunc], 8⟩ := rfl
theorem tab136 : tab 136 = some ⟨.int .i64, [.lit (.int .i64 0)], 8⟩ := rfl
theorem tab138 : tab 138 = some ⟨.scal, [.lit .nilFunc], 8⟩ := rfl
theorem tab139 : tab 139 = some ⟨.scal, [.lit .nilFunc], 8⟩ := rfl
theorem tab140 : tab 140 = some ⟨.scal, [.lit .nilFunc], 8⟩ := rfl
theorem tab142 : tab 142 = some ⟨.scal, [.lit .nilFunc], 8⟩ := rfl
theorem tab143 : tab 143 = some ⟨.scal, [.lit .nilFunc], 8⟩ := rfl
theorem tab144 : tab 144 = some ⟨.scal, [.lit .nilFunc], 8⟩ := rfl
theorem tab145 : tab 145 = some ⟨.scal, [.lit .nilFunc], 8⟩ := rfl
theorem tab147 : tab 147 = some ⟨.scal, [.lit .nilFunc], 8⟩ := rfl
theorem tab148 : tab 148 = some ⟨.scal, [.lit .nilFunc], 8⟩ := rfl
theorem tab150 : tab 150 = some ⟨.scal, [.lit .nilFunc], 8⟩ := rfl
theorem tab152 : tab 152 = some ⟨.scal, [.lit .nilFunc], 8⟩ := rfl
theorem tab153 : tab 153 = some ⟨.arr 24 5 1, [.lit (.int .u8 0), .lit (.int .u8 0), .lit (.int .u8 0), .lit (.int .u8 0), .lit (.int .u8 0), .lit (.int .u8 0), .lit (.int .u8 0), .lit (.int .u8 0), .lit (.int .u8 0), .lit (.int .u8 0), .lit (.int .u8 0), .lit (.int .u8 0), .lit (.int .u8 0), .lit (.int .u8 0), .lit (.int .u8 0), .lit (.int .u8 0), .lit (.int .u8 0), .lit (.int .u8 0), .lit (.int .u8 0), .lit (.int .u8 0), .lit (.int .u8 0), .lit (.int .u8 0), .lit (.int .u8 0), .lit (.int .u8 0)], 24⟩ := rfl
theorem tab154 : tab 154 = some ⟨.scal, [.lit .nilFunc], 8⟩ := rfl
theorem tab156 : tab 156 = some ⟨.scal, [.lit .nilFunc], 8⟩ := rfl
theorem tab158 : tab 158 = some ⟨.scal, [.lit .nilFunc], 8⟩ := rfl
theorem tab159 : tab 159 = some ⟨.scal, [.lit .nilFunc], 8⟩ := rfl
theorem tab160 : tab 160 = some ⟨.scal, [.lit .nilFunc], 8⟩ := rfl
theorem tab161 : tab 161 = some ⟨.scal, [.lit .nilFunc], 8⟩ := rfl
theorem tab165 : tab 165 = some ⟨.scal, [.lit .nilFunc], 8⟩ := rfl
theorem tab166 : tab 166 = some ⟨.scal, [.lit .nilFunc], 8⟩ := rfl
theorem tab167 : tab 167 = some ⟨.scal, [.lit (.pointer none)], 8⟩ := rfl
theorem tab168 : tab 168 = some ⟨.int .u64, [.lit (.int .u64 0)], 8⟩ := rfl
theorem tab169 : tab 169 = some ⟨.scal, [.lit .nilFunc], 8⟩ := rfl
theorem tab170 : tab 170 = some ⟨.scal, [.lit .nilFunc], 8⟩ := rfl
theorem tab171 : tab 171 = some ⟨.scal, [.lit .nilFunc], 8⟩ := rfl
theorem tab172 : tab 172 = some ⟨.scal, [.lit (.pointer none)], 8⟩ := rfl
theorem tab173 : tab 173 = some ⟨.scal, [.lit .nilFunc], 8⟩ := rfl
theorem tab174 : tab 174 = some ⟨.scal, [.lit .nilFunc], 8⟩ := rfl
theorem tab175 : tab 175 = some ⟨.scal, [.lit .nilFunc], 8⟩ := rfl
theorem tab176 : tab 176 = some ⟨.scal, [.lit .nilFunc], 8⟩ := rfl
theorem tab177 : tab 177 = some ⟨.scal, [.lit .nilFunc], 8⟩ := rfl
theorem tab178 : tab 178 = some ⟨.arr 20 88 1, [.lit (.int .u64 0), .lit (.int .u64 0), .lit (.int .u64 0), .lit (.int .u64 0), .lit (.int .u64 0), .lit (.int .u64 0), .lit (.int .u64 0), .lit (.int .u64 0), .lit (.int .u64 0), .lit (.int .u64 0), .lit (.int .u64 0), .lit (.int .u64 0), .lit (.int .u64 0), .lit (.int .u64 0), .lit (.int .u64 0), .lit (.int .u64 0), .lit (.int .u64 0), .lit (.int .u64 0), .lit (.int .u64 0), .lit (.int .u64 0)], 160⟩ := rfl
theorem tab180 : tab 180 = some ⟨.scal, [.lit .nilFunc], 8⟩ := rfl
theorem tab181 : tab 181 = some ⟨.scal, [.lit .nilFunc], 8⟩ := rfl
theorem tab182 : tab 182 = some ⟨.scal, [.lit .nilFunc], 8⟩ := rfl
theorem tab183 : tab 183 = some ⟨.scal, [.lit (.pointer none)], 8⟩ := rfl
theorem tab185 : tab 185 = some ⟨.scal, [.lit .nilFunc], 8⟩ := rfl
theorem tab187 : tab 187 = some ⟨.strct [(0, 1, 5), (1, 1, 5)], [.lit (.int .u8 0), .lit (.int .u8 0)], 2⟩ := rfl
theorem tab188 : tab 188 = some ⟨.strct [(0, 1, 5), (1, 1, 5)], [.lit (.int .u8 0), .lit (.int .u8 0)], 2⟩ := rfl
theorem tab189 : tab 189 = some ⟨.arr 16 188 2, [.lit (.int .u8 0), .lit (.int .u8 0), .lit (.int .u8 0), .lit (.int .u8 0), .lit (.int .u8 0), .lit (.int .u8 0), .lit (.int .u8 0), .lit (.int .u8 0), .lit (.int .u8 0), .lit (.int .u8 0), .lit (.int .u8 0), .lit (.int .u8 0), .lit (.int .u8 0), .lit (.int .u8 0), .lit (.int .u8 0), .lit (.int .u8 0), .lit (.int .u8 0), .lit (.int .u8 0), .lit (.int .u8 0), .lit (.int .u8 0), .lit (.int .u8 0), .lit (.int .u8 0), .lit (.int .u8 0), .lit (.int .u8 0), .lit (.int .u8 0), .lit (.int .u8 0), .lit (.int .u8 0), .lit (.int .u8 0), .lit (.int .u8 0), .lit (.int .u8 0), .lit (.int .u8 0), .lit (.int .u8 0)], 32⟩ := rfl
theorem tab190 : tab 190 = some ⟨.scal, [.lit .nilFunc], 8⟩ := rfl
theorem tab191 : tab 191 = some ⟨.scal, [.lit .nilFunc], 8⟩ := rfl
theorem tab192 : tab 192 = some ⟨.arr 32 5 1, [.lit (.int .u8 0), .lit (.int .u8 0), .lit (.int .u8 0), .lit (.int .u8 0), .lit (.int .u8 0), .lit (.int .u8 0), .lit (.int .u8 0), .lit (.int .u8 0), .lit (.int .u8 0), .lit (.int .u8 0), .lit (.int .u8 0), .lit (.int .u8 0), .lit (.int .u8 0), .lit (.int .u8 0), .lit (.int .u8 0), .lit (.int .u8 0), .lit (.int .u8 0), .lit (.int .u8 0), .lit (.int .u8 0), .lit (.int .u8 0), .lit (.int .u8 0), .lit (.int .u8 0), .lit (.int .u8 0), .lit (.int .u8 0), .lit (.int .u8 0), .lit (.int .u8 0), .lit (.int .u8 0), .lit (.int .u8 0), .lit (.int .u8 0), .lit (.int .u8 0), .lit (.int .u8 0), .lit (.int .u8 0)], 32⟩ := rfl
theorem tab193 : tab 193 = some ⟨.arr 64 5 1, [.lit (.int .u8 0), .lit (.int .u8 0), .lit (.int .u8 0), .lit (.int .u8 0), .lit (.int .u8 0), .lit (.int .u8 0), .lit (.int .u8 0), .lit (.int .u8 0), .lit (.int .u8 0), .lit (.int .u8 0), .lit (.int .u8 0), .lit (.int .u8 0), .lit (.int .u8 0), .lit (.int .u8 0), .lit (.int .u8 0), .lit (.int .u8 0), .lit (.int .u8 0), .lit (.int .u8 0), .lit (.int .u8 0), .lit (.int .u8 0), .lit (.int .u8 0), .lit (.int .u8 0), .lit (.int .u8 0), .lit (.int .u8 0), .lit (.int .u8 0), .lit (.int .u8 0), .lit (.int .u8 0), .lit (.int .u8 0), .lit (.int .u8 0), .lit (.int .u8 0), .lit (.int .u8 0), .lit (.int .u8 0), .lit (.int .u8 0), .lit (.int .u8 0), .lit (.int .u8 0), .lit (.int .u8 0), .lit (.int .u8 0), .lit (.int .u8 0), .lit (.int .u8 0), .lit (.int .u8 0), .lit (.int .u8 0), .lit (.int .u8 0), .lit (.int .u8 0), .lit (.int .u8 0), .lit (.int .u8 0), .lit (.int .u8 0), .lit (.int .u8 0), .lit (.int .u8 0), .lit (.int .u8 0), .lit (.int .u8 0), .lit (.int .u8 0), .lit (.int .u8 0), .lit (.int .u8 0), .lit (.int .u8 0), .lit (.int .u8 0), .lit (.int .u8 0), .lit (.int .u8 0), .lit (.int .u8 0), .lit (.int .u8 0), .lit (.int .u8 0), .lit (.int .u8 0), .lit (.int .u8 0), .lit (.int .u8 0), .lit (.int .u8 0)], 64⟩ := rfl
theorem tab194 : tab 194 = some ⟨.scal, [.lit .nilFunc], 8⟩ := rfl
theorem tab195 : tab 195 = some ⟨.strct [(0, 1, 17), (1, 1, 17), (2, 1, 17), (3, 1, 9)], [.lit (.pointer none), .lit (.pointer none), .lit (.pointer none), .lit (.string ⟨#[]⟩)], 40⟩ := rfl
theorem tab196 : tab 196 = some ⟨.strct [(0, 1, 17), (1, 1, 17), (2, 1, 17), (3, 1, 9)], [.lit (.pointer none), .lit (.pointer none), .lit (.pointer none), .lit (.string ⟨#[]⟩)], 40⟩ := rfl
theorem tab197 : tab 197 = some ⟨.arr 0 16 1, [], 0⟩ := rfl
theorem tab200 : tab 200 = some ⟨.int .u8, [.lit (.int .u8 0)], 1⟩ := rfl
theorem tab201 : tab 201 = some ⟨.int .u8, [.lit (.int .u8 0)], 1⟩ := rfl
theorem tab202 : tab 202 = some ⟨.scal, [.lit .nilFunc], 8⟩ := rfl
theorem tab203 : tab 203 = some ⟨.int .i32, [.lit (.int .i32 0)], 4⟩ := rfl
theorem tab204 : tab 204 = some ⟨.int .i32, [.lit (.int .i32 0)], 4⟩ := rfl
theorem tab205 : tab 205 = some ⟨.strct [(0, 1, 12), (1, 1, 12), (2, 1, 115), (3, 1, 200), (4, 1, 5), (5, 1, 5), (6, 1, 201), (7, 1, 202), (8, 1, 125), (9, 1, 203), (10, 1, 204)], [.lit (.int .u64 0), .lit (.int .u64 0), .lit (.int .u32 0), .lit (.int .u8 0), .lit (.int .u8 0), .lit (.int .u8 0), .lit (.int .u8 0), .lit .nilFunc, .lit (.pointer none), .lit (.int .i32 0), .lit (.int .i32 0)], 48⟩ := rfl
theorem tab206 : tab 206 = some ⟨.strct [(0, 1, 12), (1, 1, 12), (2, 1, 115), (3, 1, 200), (4, 1, 5), (5, 1, 5), (6, 1, 201), (7, 1, 202), (8, 1, 125), (9, 1, 203), (10, 1, 204)], [.lit (.int .u64 0), .lit (.int .u64 0), .lit (.int .u32 0), .lit (.int .u8 0), .lit (.int .u8 0), .lit (.int .u8 0), .lit (.int .u8 0), .lit .nilFunc, .lit (.pointer none), .lit (.int .i32 0), .lit (.int .i32 0)], 48⟩ := rfl
/- RULES tab1 tab2 tab3 tab4 tab5 tab6 tab7 tab8 tab9 tab10 tab11 tab12 tab13 tab14 tab15 tab16 tab17 tab18 tab19 tab20 tab21 tab22 tab23 tab24 tab25 tab26 tab27 tab28 tab30 tab32 tab33 tab34 tab35 tab36 tab37 tab39 tab40 tab41 tab42 tab43 tab44 tab45 tab46 tab47 tab48 tab49 tab50 tab51 tab52 tab53 tab54 tab55 tab56 tab57 tab58 tab59 tab60 tab61 tab62 tab63 tab64 tab65 tab66 tab67 tab68 tab69 tab70 tab71 tab72 tab73 tab74 tab75 tab76 tab77 tab78 tab79 tab80 tab81 tab82 tab83 tab84 tab85 tab86 tab87 tab88 tab89 tab90 tab91 tab92 tab93 tab94 tab96 tab97 tab99 tab101 tab103 tab105 tab106 tab107 tab108 tab109 tab110 tab112 tab113 tab114 tab115 tab117 tab118 tab119 tab121 tab122 tab123 tab124 tab125 tab126 tab128 tab129 tab131 tab132 tab134 tab135 tab136 tab138 tab139 tab140 tab142 tab143 tab144 tab145 tab147 tab148 tab150 tab152 tab153 tab154 tab156 tab158 tab159 tab160 tab161 tab165 tab166 tab167 tab168 tab169 tab170 tab171 tab172 tab173 tab174 tab175 tab176 tab177 tab178 tab180 tab181 tab182 tab183 tab185 tab187 tab188 tab189 tab190 tab191 tab192 tab193 tab194 tab195 tab196 tab197 tab200 tab201 tab202 tab203 tab204 tab205 tab206 -/
end Go.Proofs.YtkmicjpoekbhfaaGreatDoor
