/- The table of types of this translation (printed by a program), checked by the kernel. -/
import Derived.Test.YtfchbehmeppckaaGreatQVO
namespace Go.Proofs.YtfchbehmeppckaaGreat
open Go.RowKit Lim

def tabL : List (Nat × TI) := [
  (1, ⟨.scal, [.lit .nilFunc], 8⟩),
  (2, ⟨.int .i64, [.lit (.int .i64 0)], 8⟩),
  (3, ⟨.int .i64, [.lit (.int .i64 0)], 8⟩),
  (4, ⟨.bool, [.lit (.bool false)], 1⟩),
  (5, ⟨.int .u8, [.lit (.int .u8 0)], 1⟩),
  (6, ⟨.int .u8, [.lit (.int .u8 0)], 1⟩),
  (7, ⟨.strct [(0, 1, 2), (1, 1, 3), (2, 1, 4), (3, 1, 6)], [.lit (.int .i64 0), .lit (.int .i64 0), .lit (.bool false), .lit (.int .u8 0)], 24⟩),
  (8, ⟨.strct [(0, 1, 2), (1, 1, 3), (2, 1, 4), (3, 1, 6)], [.lit (.int .i64 0), .lit (.int .i64 0), .lit (.bool false), .lit (.int .u8 0)], 24⟩),
  (9, ⟨.str, [.lit (.string ⟨#[]⟩)], 16⟩),
  (10, ⟨.str, [.lit (.string ⟨#[]⟩)], 16⟩),
  (11, ⟨.str, [.lit (.string ⟨#[]⟩)], 16⟩),
  (12, ⟨.int .u64, [.lit (.int .u64 0)], 8⟩),
  (13, ⟨.strct [(0, 1, 9), (1, 1, 12)], [.lit (.string ⟨#[]⟩), .lit (.int .u64 0)], 24⟩),
  (14, ⟨.strct [(0, 1, 9), (1, 1, 12)], [.lit (.string ⟨#[]⟩), .lit (.int .u64 0)], 24⟩),
  (15, ⟨.scal, [.lit (.pointer none)], 8⟩),
  (16, ⟨.scal, [.lit (.pointer none)], 8⟩),
  (17, ⟨.scal, [.lit (.pointer none)], 8⟩),
  (18, ⟨.strct [(0, 1, 17)], [.lit (.pointer none)], 8⟩),
  (19, ⟨.strct [(0, 1, 17)], [.lit (.pointer none)], 8⟩),
  (20, ⟨.scal, [.lit .nilIface], 16⟩),
  (21, ⟨.int .i32, [.lit (.int .i32 0)], 4⟩),
  (22, ⟨.slc 73 5 false, [.sl 5 []], 24⟩),
  (23, ⟨.strct [(0, 1, 3), (1, 1, 22)], [.lit (.int .i64 0), .sl 5 []], 32⟩),
  (24, ⟨.strct [(0, 1, 3), (1, 1, 22)], [.lit (.int .i64 0), .sl 5 []], 32⟩),
  (25, ⟨.slc 3 1 false, [.sl 1 []], 24⟩),
  (26, ⟨.strct [(0, 1, 25), (1, 1, 25)], [.sl 1 [], .sl 1 []], 48⟩),
  (27, ⟨.strct [(0, 1, 25), (1, 1, 25)], [.sl 1 [], .sl 1 []], 48⟩),
  (28, ⟨.slc 174 2 false, [.sl 2 []], 24⟩),
  (29, ⟨.slc 52 1 true, [.nat []], 24⟩),
  (30, ⟨.slc 52 1 true, [.nat []], 24⟩),
  (31, ⟨.strct [(0, 1, 4), (1, 1, 30)], [.lit (.bool false), .nat []], 32⟩),
  (32, ⟨.strct [(0, 1, 4), (1, 1, 30)], [.lit (.bool false), .nat []], 32⟩),
  (33, ⟨.strct [(0, 2, 32), (2, 1, 30)], [.lit (.bool false), .nat [], .nat []], 56⟩),
  (34, ⟨.strct [(0, 2, 32), (2, 1, 30)], [.lit (.bool false), .nat [], .nat []], 56⟩),
  (35, ⟨.strct [(0, 2, 24), (2, 2, 27), (4, 1, 28), (5, 1, 3), (6, 3, 34), (9, 1, 3), (10, 3, 34), (13, 1, 3), (14, 3, 34), (17, 1, 3)], [.lit (.int .i64 0), .sl 5 [], .sl 1 [], .sl 1 [], .sl 2 [], .lit (.int .i64 0), .lit (.bool false), .nat [], .nat [], .lit (.int .i64 0), .lit (.bool false), .nat [], .nat [], .lit (.int .i64 0), .lit (.bool false), .nat [], .nat [], .lit (.int .i64 0)], 304⟩),
  (36, ⟨.strct [(0, 2, 24), (2, 2, 27), (4, 1, 28), (5, 1, 3), (6, 3, 34), (9, 1, 3), (10, 3, 34), (13, 1, 3), (14, 3, 34), (17, 1, 3)], [.lit (.int .i64 0), .sl 5 [], .sl 1 [], .sl 1 [], .sl 2 [], .lit (.int .i64 0), .lit (.bool false), .nat [], .nat [], .lit (.int .i64 0), .lit (.bool false), .nat [], .nat [], .lit (.int .i64 0), .lit (.bool false), .nat [], .nat [], .lit (.int .i64 0)], 304⟩),
  (37, ⟨.int .i64, [.lit (.int .i64 0)], 8⟩),
  (38, ⟨.scal, [.lit .nilFunc], 8⟩),
  (39, ⟨.scal, [.lit .nilFunc], 8⟩),
  (40, ⟨.scal, [.lit .nilFunc], 8⟩),
  (41, ⟨.slc 30 1 false, [.sl 1 []], 24⟩),
  (43, ⟨.scal, [.lit .nilFunc], 8⟩),
  (45, ⟨.scal, [.lit .nilFunc], 8⟩),
  (46, ⟨.scal, [.lit .nilFunc], 8⟩),
  (47, ⟨.slc 41 1 false, [.sl 1 []], 24⟩),
  (49, ⟨.scal, [.lit .nilFunc], 8⟩),
  (50, ⟨.scal, [.lit .nilFunc], 8⟩),
  (51, ⟨.scal, [.lit .nilFunc], 8⟩),
  (52, ⟨.int .u32, [.lit (.int .u32 0)], 4⟩),
  (53, ⟨.scal, [.lit .nilFunc], 8⟩),
  (54, ⟨.scal, [.lit .nilFunc], 8⟩),
  (55, ⟨.scal, [.lit .nilFunc], 8⟩),
  (56, ⟨.scal, [.lit .nilFunc], 8⟩),
  (57, ⟨.scal, [.lit .nilFunc], 8⟩),
  (58, ⟨.scal, [.lit .nilFunc], 8⟩),
  (59, ⟨.scal, [.lit .nilFunc], 8⟩),
  (60, ⟨.scal, [.lit .nilFunc], 8⟩),
  (61, ⟨.scal, [.lit .nilFunc], 8⟩),
  (62, ⟨.scal, [.lit .nilFunc], 8⟩),
  (64, ⟨.scal, [.lit .nilFunc], 8⟩),
  (65, ⟨.scal, [.lit .nilFunc], 8⟩),
  (67, ⟨.scal, [.lit .nilFunc], 8⟩),
  (68, ⟨.scal, [.lit .nilFunc], 8⟩),
  (69, ⟨.scal, [.lit .nilFunc], 8⟩),
  (70, ⟨.scal, [.lit .nilFunc], 8⟩),
  (71, ⟨.scal, [.lit .nilFunc], 8⟩),
  (72, ⟨.strct [(0, 1, 3), (1, 1, 3), (2, 1, 3), (3, 1, 3), (4, 1, 9)], [.lit (.int .i64 0), .lit (.int .i64 0), .lit (.int .i64 0), .lit (.int .i64 0), .lit (.string ⟨#[]⟩)], 48⟩),
  (73, ⟨.strct [(0, 1, 3), (1, 1, 3), (2, 1, 3), (3, 1, 3), (4, 1, 9)], [.lit (.int .i64 0), .lit (.int .i64 0), .lit (.int .i64 0), .lit (.int .i64 0), .lit (.string ⟨#[]⟩)], 48⟩),
  (74, ⟨.scal, [.lit .nilIface], 16⟩),
  (75, ⟨.scal, [.lit .nilIface], 16⟩),
  (77, ⟨.scal, [.lit .nilFunc], 8⟩),
  (78, ⟨.scal, [.lit .nilFunc], 8⟩),
  (80, ⟨.scal, [.lit .nilFunc], 8⟩),
  (81, ⟨.scal, [.lit .nilFunc], 8⟩),
  (82, ⟨.scal, [.lit .nilFunc], 8⟩),
  (83, ⟨.scal, [.lit .nilFunc], 8⟩),
  (84, ⟨.scal, [.lit .nilFunc], 8⟩),
  (85, ⟨.scal, [.lit .nilFunc], 8⟩),
  (86, ⟨.scal, [.lit .nilFunc], 8⟩),
  (87, ⟨.scal, [.lit .nilFunc], 8⟩),
  (88, ⟨.scal, [.lit .nilFunc], 8⟩),
  (89, ⟨.scal, [.lit .nilFunc], 8⟩),
  (90, ⟨.scal, [.lit .nilFunc], 8⟩),
  (91, ⟨.int .u64, [.lit (.int .u64 0)], 8⟩),
  (92, ⟨.scal, [.lit .nilFunc], 8⟩),
  (93, ⟨.strct [(0, 1, 3), (1, 1, 3)], [.lit (.int .i64 0), .lit (.int .i64 0)], 16⟩),
  (94, ⟨.strct [(0, 1, 3), (1, 1, 3)], [.lit (.int .i64 0), .lit (.int .i64 0)], 16⟩),
  (95, ⟨.slc 25 1 false, [.sl 1 []], 24⟩),
  (96, ⟨.strct [(0, 1, 95)], [.sl 1 []], 24⟩),
  (97, ⟨.strct [(0, 1, 95)], [.sl 1 []], 24⟩),
  (98, ⟨.strct [(0, 1, 3), (1, 1, 9), (2, 1, 3), (3, 1, 3), (4, 1, 3), (5, 1, 3), (6, 1, 3), (7, 1, 3), (8, 1, 97)], [.lit (.int .i64 0), .lit (.string ⟨#[]⟩), .lit (.int .i64 0), .lit (.int .i64 0), .lit (.int .i64 0), .lit (.int .i64 0), .lit (.int .i64 0), .lit (.int .i64 0), .sl 1 []], 96⟩),
  (99, ⟨.strct [(0, 1, 3), (1, 1, 9), (2, 1, 3), (3, 1, 3), (4, 1, 3), (5, 1, 3), (6, 1, 3), (7, 1, 3), (8, 1, 97)], [.lit (.int .i64 0), .lit (.string ⟨#[]⟩), .lit (.int .i64 0), .lit (.int .i64 0), .lit (.int .i64 0), .lit (.int .i64 0), .lit (.int .i64 0), .lit (.int .i64 0), .sl 1 []], 96⟩),
  (100, ⟨.scal, [.lit .nilFunc], 8⟩),
  (101, ⟨.scal, [.lit .nilFunc], 8⟩),
  (102, ⟨.scal, [.lit .nilFunc], 8⟩),
  (103, ⟨.strct [(0, 2, 94), (2, 1, 102)], [.lit (.int .i64 0), .lit (.int .i64 0), .lit .nilFunc], 24⟩),
  (104, ⟨.strct [(0, 2, 94), (2, 1, 102)], [.lit (.int .i64 0), .lit (.int .i64 0), .lit .nilFunc], 24⟩),
  (105, ⟨.strct [(0, 3, 104), (3, 1, 9)], [.lit (.int .i64 0), .lit (.int .i64 0), .lit .nilFunc, .lit (.string ⟨#[]⟩)], 40⟩),
  (106, ⟨.strct [(0, 3, 104), (3, 1, 9)], [.lit (.int .i64 0), .lit (.int .i64 0), .lit .nilFunc, .lit (.string ⟨#[]⟩)], 40⟩),
  (107, ⟨.strct [(0, 3, 104)], [.lit (.int .i64 0), .lit (.int .i64 0), .lit .nilFunc], 24⟩),
  (108, ⟨.strct [(0, 3, 104)], [.lit (.int .i64 0), .lit (.int .i64 0), .lit .nilFunc], 24⟩),
  (109, ⟨.strct [(0, 3, 104)], [.lit (.int .i64 0), .lit (.int .i64 0), .lit .nilFunc], 24⟩),
  (110, ⟨.strct [(0, 3, 104)], [.lit (.int .i64 0), .lit (.int .i64 0), .lit .nilFunc], 24⟩),
  (111, ⟨.strct [(0, 3, 104), (3, 1, 3)], [.lit (.int .i64 0), .lit (.int .i64 0), .lit .nilFunc, .lit (.int .i64 0)], 32⟩),
  (112, ⟨.strct [(0, 3, 104), (3, 1, 3)], [.lit (.int .i64 0), .lit (.int .i64 0), .lit .nilFunc, .lit (.int .i64 0)], 32⟩),
  (113, ⟨.strct [(0, 2, 94), (2, 1, 3)], [.lit (.int .i64 0), .lit (.int .i64 0), .lit (.int .i64 0)], 24⟩),
  (114, ⟨.strct [(0, 2, 94), (2, 1, 3)], [.lit (.int .i64 0), .lit (.int .i64 0), .lit (.int .i64 0)], 24⟩),
  (115, ⟨.strct [(0, 1, 3)], [.lit (.int .i64 0)], 8⟩),
  (116, ⟨.strct [(0, 1, 3)], [.lit (.int .i64 0)], 8⟩),
  (117, ⟨.strct [(0, 1, 3)], [.lit (.int .i64 0)], 8⟩),
  (118, ⟨.strct [], [], 0⟩),
  (119, ⟨.strct [], [], 0⟩),
  (120, ⟨.scal, [.lit .nilFunc], 8⟩),
  (121, ⟨.scal, [.lit .nilFunc], 8⟩),
  (123, ⟨.scal, [.lit .nilFunc], 8⟩),
  (124, ⟨.scal, [.lit .nilFunc], 8⟩),
  (125, ⟨.scal, [.lit .nilFunc], 8⟩),
  (126, ⟨.scal, [.lit .nilFunc], 8⟩),
  (128, ⟨.scal, [.lit .nilFunc], 8⟩),
  (129, ⟨.scal, [.lit .nilFunc], 8⟩),
  (130, ⟨.scal, [.lit .nilFunc], 8⟩),
  (131, ⟨.scal, [.lit .nilFunc], 8⟩),
  (132, ⟨.slc 32 2 false, [.sl 2 []], 24⟩),
  (133, ⟨.scal, [.lit .nilFunc], 8⟩),
  (134, ⟨.scal, [.lit .nilFunc], 8⟩),
  (135, ⟨.scal, [.lit .nilFunc], 8⟩),
  (136, ⟨.scal, [.lit .nilFunc], 8⟩),
  (137, ⟨.int .u64, [.lit (.int .u64 0)], 8⟩),
  (138, ⟨.scal, [.lit .nilFunc], 8⟩),
  (139, ⟨.scal, [.lit .nilFunc], 8⟩),
  (140, ⟨.scal, [.lit .nilFunc], 8⟩),
  (141, ⟨.scal, [.lit .nilFunc], 8⟩),
  (142, ⟨.scal, [.lit .nilFunc], 8⟩),
  (144, ⟨.scal, [.lit .nilFunc], 8⟩),
  (146, ⟨.scal, [.lit .nilFunc], 8⟩),
  (147, ⟨.scal, [.lit .nilFunc], 8⟩),
  (149, ⟨.scal, [.lit .nilFunc], 8⟩),
  (151, ⟨.scal, [.lit .nilFunc], 8⟩),
  (153, ⟨.scal, [.lit .nilFunc], 8⟩),
  (154, ⟨.scal, [.lit .nilFunc], 8⟩),
  (155, ⟨.scal, [.lit .nilFunc], 8⟩),
  (156, ⟨.scal, [.lit .nilFunc], 8⟩),
  (157, ⟨.scal, [.lit .nilFunc], 8⟩),
  (158, ⟨.scal, [.lit .nilFunc], 8⟩),
  (159, ⟨.strct [(0, 1, 17), (1, 1, 17), (2, 1, 17), (3, 1, 9)], [.lit (.pointer none), .lit (.pointer none), .lit (.pointer none), .lit (.string ⟨#[]⟩)], 40⟩),
  (160, ⟨.strct [(0, 1, 17), (1, 1, 17), (2, 1, 17), (3, 1, 9)], [.lit (.pointer none), .lit (.pointer none), .lit (.pointer none), .lit (.string ⟨#[]⟩)], 40⟩),
  (161, ⟨.arr 0 16 1, [], 0⟩),
  (164, ⟨.scal, [.lit .nilFunc], 8⟩),
  (165, ⟨.int .u8, [.lit (.int .u8 0)], 1⟩),
  (166, ⟨.int .u8, [.lit (.int .u8 0)], 1⟩),
  (167, ⟨.scal, [.lit .nilFunc], 8⟩),
  (168, ⟨.scal, [.lit (.pointer none)], 8⟩),
  (169, ⟨.int .i32, [.lit (.int .i32 0)], 4⟩),
  (170, ⟨.int .i32, [.lit (.int .i32 0)], 4⟩),
  (171, ⟨.strct [(0, 1, 12), (1, 1, 12), (2, 1, 52), (3, 1, 165), (4, 1, 5), (5, 1, 5), (6, 1, 166), (7, 1, 167), (8, 1, 168), (9, 1, 169), (10, 1, 170)], [.lit (.int .u64 0), .lit (.int .u64 0), .lit (.int .u32 0), .lit (.int .u8 0), .lit (.int .u8 0), .lit (.int .u8 0), .lit (.int .u8 0), .lit .nilFunc, .lit (.pointer none), .lit (.int .i32 0), .lit (.int .i32 0)], 48⟩),
  (172, ⟨.strct [(0, 1, 12), (1, 1, 12), (2, 1, 52), (3, 1, 165), (4, 1, 5), (5, 1, 5), (6, 1, 166), (7, 1, 167), (8, 1, 168), (9, 1, 169), (10, 1, 170)], [.lit (.int .u64 0), .lit (.int .u64 0), .lit (.int .u32 0), .lit (.int .u8 0), .lit (.int .u8 0), .lit (.int .u8 0), .lit (.int .u8 0), .lit .nilFunc, .lit (.pointer none), .lit (.int .i32 0), .lit (.int .i32 0)], 48⟩),
  (173, ⟨.strct [(0, 1, 3), (1, 1, 3)], [.lit (.int .i64 0), .lit (.int .i64 0)], 16⟩),
  (174, ⟨.strct [(0, 1, 3), (1, 1, 3)], [.lit (.int .i64 0), .lit (.int .i64 0)], 16⟩),
  (175, ⟨.scal, [.lit .nilFunc], 8⟩),
  (176, ⟨.scal, [.lit .nilFunc], 8⟩),
  (177, ⟨.scal, [.lit .nilFunc], 8⟩),
  (178, ⟨.arr 5 9 1, [.lit (.string ⟨#[]⟩), .lit (.string ⟨#[]⟩), .lit (.string ⟨#[]⟩), .lit (.string ⟨#[]⟩), .lit (.string ⟨#[]⟩)], 80⟩),
  (180, ⟨.scal, [.lit .nilFunc], 8⟩),
  (181, ⟨.slc 9 1 false, [.sl 1 []], 24⟩),
  (183, ⟨.scal, [.lit .nilFunc], 8⟩),
  (184, ⟨.scal, [.lit .nilFunc], 8⟩),
  (185, ⟨.scal, [.lit .nilFunc], 8⟩),
  (186, ⟨.scal, [.lit .nilFunc], 8⟩),
  (188, ⟨.scal, [.lit .nilFunc], 8⟩),
  (190, ⟨.slc 99 9 false, [.sl 9 []], 24⟩),
  (191, ⟨.strct [(0, 2, 24), (2, 1, 190), (3, 1, 3), (4, 1, 3)], [.lit (.int .i64 0), .sl 5 [], .sl 9 [], .lit (.int .i64 0), .lit (.int .i64 0)], 72⟩),
  (192, ⟨.strct [(0, 2, 24), (2, 1, 190), (3, 1, 3), (4, 1, 3)], [.lit (.int .i64 0), .sl 5 [], .sl 9 [], .lit (.int .i64 0), .lit (.int .i64 0)], 72⟩),
  (193, ⟨.slc 195 3 false, [.sl 3 []], 24⟩),
  (194, ⟨.strct [(0, 1, 25), (1, 1, 3), (2, 1, 3)], [.sl 1 [], .lit (.int .i64 0), .lit (.int .i64 0)], 40⟩),
  (195, ⟨.strct [(0, 1, 25), (1, 1, 3), (2, 1, 3)], [.sl 1 [], .lit (.int .i64 0), .lit (.int .i64 0)], 40⟩)]
def tab : TyTab := ofL tabL
theorem tab_ok : tabL.all (fun p => tiB Tryz.prog p.1 p.2) = true := by kernel_rfl
set_option maxRecDepth 100000
theorem tab1 : tab 1 = some ⟨.scal, [.lit .nilFunc], 8⟩ := rfl
theorem tab2 : tab 2 = some ⟨.int .i64, [.lit (.int .i64 0)], 8⟩ := rfl
theorem tab3 : tab 3 = some ⟨.int .i64, [.lit (.int .i64 0)], 8⟩ := rfl
theorem tab4 : tab 4 = some ⟨.bool, [.lit (.bool false)], 1⟩ := rfl
theorem tab5 : tab 5 = some ⟨.int .u8, [.lit (.int .u8 0)], 1⟩ := rfl
theorem tab6 : tab 6 = some ⟨.int .u8, [.lit (.int .u8 0)], 1⟩ := rfl
theorem tab7 : tab 7 = some ⟨.strct [(0, 1, 2), (1, 1, 3), (2, 1, 4), (3, 1, 6)], [.lit (.int .i64 0), .lit (.int .i64 0), .lit (.bool false), .lit (.int .u8 0)], 24⟩ := rfl
theorem tab8 : tab 8 = some ⟨.strct [(0, 1, 2), (1, 1, 3), (2, 1, 4), (3, 1, 6)], [.lit (.int .i64 0), .lit (.int .i64 0), .lit (.bool false), .lit (.int .u8 0)], 24⟩ := rfl
theorem tab9 : tab 9 = some ⟨.str, [.lit (.string ⟨#[]⟩)], 16⟩ := rfl
theorem tab10 : tab 10 = some ⟨.str, [.lit (.string ⟨#[]⟩)], 16⟩ := rfl
theorem tab11 : tab 11 = some ⟨.str, [.lit (.string ⟨#[]⟩)], 16⟩ := rfl
theorem tab12 : tab 12 = some ⟨.int .u64, [.lit (.int .u64 0)], 8⟩ := rfl
theorem tab13 : tab 13 = some ⟨.strct [(0, 1, 9), (1, 1, 12)], [.lit (.string ⟨#[]⟩), .lit (.int .u64 0)], 24⟩ := rfl
theorem tab14 : tab 14 = some ⟨.strct [(0, 1, 9), (1, 1, 12)], [.lit (.string ⟨#[]⟩), .lit (.int .u64 0)], 24⟩ := rfl
theorem tab15 : tab 15 = some ⟨.scal, [.lit (.pointer none)], 8⟩ := rfl
theorem tab16 : tab 16 = some ⟨.scal, [.lit (.pointer none)], 8⟩ := rfl
theorem tab17 : tab 17 = some ⟨.scal, [.lit (.pointer none)], 8⟩ := rfl
theorem tab18 : tab 18 = some ⟨.strct [(0, 1, 17)], [.lit (.pointer none)], 8⟩ := rfl
theorem tab19 : tab 19 = some ⟨.strct [(0, 1, 17)], [.lit (.pointer none)], 8⟩ := rfl
theorem tab20 : tab 20 = some ⟨.scal, [.lit .nilIface], 16⟩ := rfl
theorem tab21 : tab 21 = some ⟨.int .i32, [.lit (.int .i32 0)], 4⟩ := rfl
theorem tab22 : tab 22 = some ⟨.slc 73 5 false, [.sl 5 []], 24⟩ := rfl
theorem tab23 : tab 23 = some ⟨.strct [(0, 1, 3), (1, 1, 22)], [.lit (.int .i64 0), .sl 5 []], 32⟩ := rfl
theorem tab24 : tab 24 = some ⟨.strct [(0, 1, 3), (1, 1, 22)], [.lit (.int .i64 0), .sl 5 []], 32⟩ := rfl
theorem tab25 : tab 25 = some ⟨.slc 3 1 false, [.sl 1 []], 24⟩ := rfl
theorem tab26 : tab 26 = some ⟨.strct [(0, 1, 25), (1, 1, 25)], [.sl 1 [], .sl 1 []], 48⟩ := rfl
theorem tab27 : tab 27 = some ⟨.strct [(0, 1, 25), (1, 1, 25)], [.sl 1 [], .sl 1 []], 48⟩ := rfl
theorem tab28 : tab 28 = some ⟨.slc 174 2 false, [.sl 2 []], 24⟩ := rfl
theorem tab29 : tab 29 = some ⟨.slc 52 1 true, [.nat []], 24⟩ := rfl
theorem tab30 : tab 30 = some ⟨.slc 52 1 true, [.nat []], 24⟩ := rfl
theorem tab31 : tab 31 = some ⟨.strct [(0, 1, 4), (1, 1, 30)], [.lit (.bool false), .nat []], 32⟩ := rfl
theorem tab32 : tab 32 = some ⟨.strct [(0, 1, 4), (1, 1, 30)], [.lit (.bool false), .nat []], 32⟩ := rfl
theorem tab33 : tab 33 = some ⟨.strct [(0, 2, 32), (2, 1, 30)], [.lit (.bool false), .nat [], .nat []], 56⟩ := rfl
theorem tab34 : tab 34 = some ⟨.strct [(0, 2, 32), (2, 1, 30)], [.lit (.bool false), .nat [], .nat []], 56⟩ := rfl
theorem tab35 : tab 35 = some ⟨.strct [(0, 2, 24), (2, 2, 27), (4, 1, 28), (5, 1, 3), (6, 3, 34), (9, 1, 3), (10, 3, 34), (13, 1, 3), (14, 3, 34), (17, 1, 3)], [.lit (.int .i64 0), .sl 5 [], .sl 1 [], .sl 1 [], .sl 2 [], .lit (.int .i64 0), .lit (.bool false), .nat [], .nat [], .lit (.int .i64 0), .lit (.bool false), .nat [], .nat [], .lit (.int .i64 0), .lit (.bool false), .nat [], .nat [], .lit (.int .i64 0)], 304⟩ := rfl
theorem tab36 : tab 36 = some ⟨.strct [(0, 2, 24), (2, 2, 27), (4, 1, 28), (5, 1, 3), (6, 3, 34), (9, 1, 3), (10, 3, 34), (13, 1, 3), (14, 3, 34), (17, 1, 3)], [.lit (.int .i64 0), .sl 5 [], .sl 1 [], .sl 1 [], .sl 2 [], .lit (.int .i64 0), .lit (.bool false), .nat [], .nat [], .lit (.int .i64 0), .lit (.bool false), .nat [], .nat [], .lit (.int .i64 0), .lit (.bool false), .nat [], .nat [], .lit (.int .i64 0)], 304⟩ := rfl
theorem tab37 : tab 37 = some ⟨.int .i64, [.lit (.int .i64 0)], 8⟩ := rfl
theorem tab38 : tab 38 = some ⟨.scal, [.lit .nilFunc], 8⟩ := rfl
theorem tab39 : tab 39 = some ⟨.scal, [.lit .nilFunc], 8⟩ := rfl
theorem tab40 : tab 40 = some ⟨.scal, [.lit .nilFunc], 8⟩ := rfl
theorem tab41 : tab 41 = some ⟨.slc 30 1 false, [.sl 1 []], 24⟩ := rfl
theorem tab43 : tab 43 = some ⟨.scal, [.lit .nilFunc], 8⟩ := rfl
theorem tab45 : tab 45 = some ⟨.scal, [.lit .nilFunc], 8⟩ := rfl
theorem tab46 : tab 46 = some ⟨.scal, [.lit .nilFunc], 8⟩ := rfl
theorem tab47 : tab 47 = some ⟨.slc 41 1 false, [.sl 1 []], 24⟩ := rfl
theorem tab49 : tab 49 = some ⟨.scal, [.lit .nilFunc], 8⟩ := rfl
theorem tab50 : tab 50 = some ⟨.scal, [.lit .nilFunc], 8⟩ := rfl
theorem tab51 : tab 51 = some ⟨.scal, [.lit .nilFunc], 8⟩ := rfl
theorem tab52 : tab 52 = some ⟨.int .u32, [.lit (.int .u32 0)], 4⟩ := rfl
theorem tab53 : tab 53 = some ⟨.scal, [.lit .nilFunc], 8⟩ := rfl
theorem tab54 : tab 54 = some ⟨.scal, [.lit .nilFunc], 8⟩ := rfl
theorem tab55 : tab 55 = some ⟨.scal, [.lit .nilFunc], 8⟩ := rfl
theorem tab56 : tab 56 = some ⟨.scal, [.lit .nilFunc], 8⟩ := rfl
theorem tab57 : tab 57 = some ⟨.scal, [.lit .nilFunc], 8⟩ := rfl
theorem tab58 : tab 58 = some ⟨.scal, [.lit .nilFunc], 8⟩ := rfl
theorem tab59 : tab 59 = some ⟨.scal, [.lit .nilFunc], 8⟩ := rfl
theorem tab60 : tab 60 = some ⟨.scal, [.lit .nilFunc], 8⟩ := rfl
theorem tab61 : tab 61 = some ⟨.scal, [.lit .nilFunc], 8⟩ := rfl
theorem tab62 : tab 62 = some ⟨.scal, [.lit .nilFunc], 8⟩ := rfl
theorem tab64 : tab 64 = some ⟨.scal, [.lit .nilFunc], 8⟩ := rfl
theorem tab65 : tab 65 = some ⟨.scal, [.lit .nilFunc], 8⟩ := rfl
theorem tab67 : tab 67 = some ⟨.scal, [.lit .nilFunc], 8⟩ := rfl
theorem tab68 : tab 68 = some ⟨.scal, [.lit .nilFunc], 8⟩ := rfl
theorem tab69 : tab 69 = some ⟨.scal, [.lit .nilFunc], 8⟩ := rfl
theorem tab70 : tab 70 = some ⟨.scal, [.lit .nilFunc], 8⟩ := rfl
theorem tab71 : tab 71 = some ⟨.scal, [.lit .nilFunc], 8⟩ := rfl
theorem tab72 : tab 72 = some ⟨.strct [(0, 1, 3), (1, 1, 3), (2, 1, 3), (3, 1, 3), (4, 1, 9)], [.lit (.int .i64 0), .lit (.int .i64 0), .lit (.int .i64 0), .lit (.int .i64 0), .lit (.string ⟨#[]⟩)], 48⟩ := rfl
theorem tab73 : tab 73 = some ⟨.strct [(0, 1, 3), (1, 1, 3), (2, 1, 3), (3, 1, 3), (4, 1, 9)], [.lit (.int .i64 0), .lit (.int .i64 0), .lit (.int .i64 0), .lit (.int .i64 0), .lit (.string ⟨#[]⟩)], 48⟩ := rfl
theorem tab74 : tab 74 = some ⟨.scal, [.lit .nilIface], 16⟩ := rfl
theorem tab75 : tab 75 = some ⟨.scal, [.lit .nilIface], 16⟩ := rfl
theorem tab77 : tab 77 = some ⟨.scal, [.lit .nilFunc], 8⟩ := rfl
theorem tab78 : tab 78 = some ⟨.scal, [.lit .nilFunc], 8⟩ := rfl
theorem tab80 : tab 80 = some ⟨.scal, [.lit .nilFunc], 8⟩ := rfl
theorem tab81 : tab 81 = some ⟨.scal, [.lit .nilFunc], 8⟩ := rfl
theorem tab82 : tab 82 = some ⟨.scal, [.lit .nilFunc], 8⟩ := rfl
theorem tab83 : tab 83 = some ⟨.scal, [.lit .nilFunc], 8⟩ := rfl
theorem tab84 : tab 84 = some ⟨.scal, [.lit .nilFunc], 8⟩ := rfl
theorem tab85 : tab 85 = some ⟨.scal, [.lit .nilFunc], 8⟩ := rfl
theorem tab86 : tab 86 = some ⟨.scal, [.lit .nilFunc], 8⟩ := rfl
theorem tab87 : tab 87 = some ⟨.scal, [.lit .nilFunc], 8⟩ := rfl
theorem tab88 : tab 88 = some ⟨.scal, [.lit .nilFunc], 8⟩ := rfl
theorem tab89 : tab 89 = some ⟨.scal, [.lit .nilFunc], 8⟩ := rfl
theorem tab90 : tab 90 = some ⟨.scal, [.lit .nilFunc], 8⟩ := rfl
theorem tab91 : tab 91 = some ⟨.int .u64, [.lit (.int .u64 0)], 8⟩ := rfl
theorem tab92 : tab 92 = some ⟨.scal, [.lit .nilFunc], 8⟩ := rfl
theorem tab93 : tab 93 = some ⟨.strct [(0, 1, 3), (1, 1, 3)], [.lit (.int .i64 0), .lit (.int .i64 0)], 16⟩ := rfl
theorem tab94 : tab 94 = some ⟨.strct [(0, 1, 3), (1, 1, 3)], [.lit (.int .i64 0), .lit (.int .i64 0)], 16⟩ := rfl
theorem tab95 : tab 95 = some ⟨.slc 25 1 false, [.sl 1 []], 24⟩ := rfl
theorem tab96 : tab 96 = some ⟨.strct [(0, 1, 95)], [.sl 1 []], 24⟩ := rfl
theorem tab97 : tab 97 = some ⟨.strct [(0, 1, 95)], [.sl 1 []], 24⟩ := rfl
theorem tab98 : tab 98 = some ⟨.strct [(0, 1, 3), (1, 1, 9), (2, 1, 3), (3, 1, 3), (4, 1, 3), (5, 1, 3), (6, 1, 3), (7, 1, 3), (8, 1, 97)], [.lit (.int .i64 0), .lit (.string ⟨#[]⟩), .lit (.int .i64 0), .lit (.int .i64 0), .lit (.int .i64 0), .lit (.int .i64 0), .lit (.int .i64 0), .lit (.int .i64 0), .sl 1 []], 96⟩ := rfl
theorem tab99 : tab 99 = some ⟨.strct [(0, 1, 3), (1, 1, 9), (2, 1, 3), (3, 1, 3), (4, 1, 3), (5, 1, 3), (6, 1, 3), (7, 1, 3), (8, 1, 97)], [.lit (.int .i64 0), .lit (.string ⟨#[]⟩), .lit (.int .i64 0), .lit (.int .i64 0), .lit (.int .i64 0), .lit (.int .i64 0), .lit (.int .i64 0), .lit (.int .i64 0), .sl 1 []], 96⟩ := rfl
theorem tab100 : tab 100 = some ⟨.scal, [.lit .nilFunc], 8⟩ := rfl
theorem tab101 : tab 101 = some ⟨.scal, [.lit .nilFunc], 8⟩ := rfl
theorem tab102 : tab 102 = some ⟨.scal, [.lit .nilFunc], 8⟩ := rfl
theorem tab103 : tab 103 = some ⟨.strct [(0, 2, 94), (2, 1, 102)], [.lit (.int .i64 0), .lit (.int .i64 0), .lit .nilFunc], 24⟩ := rfl
theorem tab104 : tab 104 = some ⟨.strct [(0, 2, 94), (2, 1, 102)], [.lit (.int .i64 0), .lit (.int .i64 0), .lit .nilFunc], 24⟩ := rfl
theorem tab105 : tab 105 = some ⟨.strct [(0, 3, 104), (3, 1, 9)], [.lit (.int .i64 0), .lit (.int .i64 0), .lit .nilFunc, .lit (.string ⟨#[]⟩)], 40⟩ := rfl
theorem tab106 : tab 106 = some ⟨.strct [(0, 3, 104), (3, 1, 9)], [.lit (.int .i64 0), .lit (.int .i64 0), .lit .nilFunc, .lit (.string ⟨#[]⟩)], 40⟩ := rfl
theorem tab107 : tab 107 = some ⟨.strct [(0, 3, 104)], [.lit (.int .i64 0), .lit (.int .i64 0), .lit .nilFunc], 24⟩ := rfl
theorem tab108 : tab 108 = some ⟨.strct [(0, 3, 104)], [.lit (.int .i64 0), .lit (.int .i64 0), .lit .nilFunc], 24⟩ := rfl
theorem tab109 : tab 109 = some ⟨.strct [(0, 3, 104)], [.lit (.int .i64 0), .lit (.int .i64 0), .lit .nilFunc], 24⟩ := rfl
theorem tab110 : tab 110 = some ⟨.strct [(0, 3, 104)], [.lit (.int .i64 0), .lit (.int .i64 0), .lit .nilFunc], 24⟩ := rfl
theorem tab111 : tab 111 = some ⟨.strct [(0, 3, 104), (3, 1, 3)], [.lit (.int .i64 0), .lit (.int .i64 0), .lit .nilFunc, .lit (.int .i64 0)], 32⟩ := rfl
theorem tab112 : tab 112 = some ⟨.strct [(0, 3, 104), (3, 1, 3)], [.lit (.int .i64 0), .lit (.int .i64 0), .lit .nilFunc, .lit (.int .i64 0)], 32⟩ := rfl
theorem tab113 : tab 113 = some ⟨.strct [(0, 2, 94), (2, 1, 3)], [.lit (.int .i64 0), .lit (.int .i64 0), .lit (.int .i64 0)], 24⟩ := rfl
theorem tab114 : tab 114 = some ⟨.strct [(0, 2, 94), (2, 1, 3)], [.lit (.int .i64 0), .lit (.int .i64 0), .lit (.int .i64 0)], 24⟩ := rfl
theorem tab115 : tab 115 = some ⟨.strct [(0, 1, 3)], [.lit (.int .i64 0)], 8⟩ := rfl
theorem tab116 : tab 116 = some ⟨.strct [(0, 1, 3)], [.lit (.int .i64 0)], 8⟩ := rfl
theorem tab117 : tab 117 = some ⟨.strct [(0, 1, 3)], [.lit (.int .i64 0)], 8⟩ := rfl
theorem tab118 : tab 118 = some ⟨.strct [], [], 0⟩ := rfl
theorem tab119 : tab 119 = some ⟨.strct [], [], 0⟩ := rfl
theorem tab120 : tab 120 = some ⟨.scal, [.lit .nilFunc], 8⟩ := rfl
theorem tab121 : tab 121 = some ⟨.scal, [.lit .nilFunc], 8⟩ := rfl
theorem tab123 : tab 123 = some ⟨.scal, [.lit .nilFunc], 8⟩ := rfl
theorem tab124 : tab 124 = some ⟨.scal, [.lit .nilFunc], 8⟩ := rfl
theorem tab125 : tab 125 = some ⟨.scal, [.lit .nilFunc], 8⟩ := rfl
theorem tab126 : tab 126 = some ⟨.scal, [.lit .nilFunc], 8⟩ := rfl
theorem tab128 : tab 128 = some ⟨.scal, [.lit .nilFunc], 8⟩ := rfl
theorem tab129 : tab 129 = some ⟨.scal, [.lit .nilFunc], 8⟩ := rfl
theorem tab130 : tab 130 = some ⟨.scal, [.lit .nilFunc], 8⟩ := rfl
theorem tab131 : tab 131 = some ⟨.scal, [.lit .nilFunc], 8⟩ := rfl
theorem tab132 : tab 132 = some ⟨.slc 32 2 false, [.sl 2 []], 24⟩ := rfl
theorem tab133 : tab 133 = some ⟨.scal, [.lit .nilFunc], 8⟩ := rfl
theorem tab134 : tab 134 = some ⟨.scal, [.lit .nilFunc], 8⟩ := rfl
theorem tab135 : tab 135 = some ⟨.scal, [.lit .nilFunc], 8⟩ := rfl
theorem tab136 : tab 136 = some ⟨.scal, [.lit .nilFunc], 8⟩ := rfl
theorem tab137 : tab 137 = some ⟨.int .u64, [.lit (.int .u64 0)], 8⟩ := rfl
theorem tab138 : tab 138 = some ⟨.scal, [.lit .nilFunc], 8⟩ := rfl
theorem tab139 : tab 139 = some ⟨.scal, [.lit .nilFunc], 8⟩ := rfl
theorem tab140 : tab 140 = some ⟨.scal, [.lit .nilFunc], 8⟩ := rfl
theorem tab141 : tab 141 = some ⟨.scal, [.lit .nilFunc], 8⟩ := rfl
theorem tab142 : tab 142 = some ⟨.scal, [.lit .nilFunc], 8⟩ := rfl
theorem tab144 : tab 144 = some ⟨.scal, [.lit .nilFunc], 8⟩ := rfl
theorem tab146 : tab 146 = some ⟨.scal, [.lit .nilFunc], 8⟩ := rfl
theorem tab147 : tab 147 = some ⟨.scal, [.lit .nilFunc], 8⟩ := rfl
theorem tab149 : tab 149 = some ⟨.scal, [.lit .nilFunc], 8⟩ := rfl
theorem tab151 : tab 151 = some ⟨.scal, [.lit .nilFunc], 8⟩ := rfl
theorem tab153 : tab 153 = some ⟨.scal, [.lit .nilFunc], 8⟩ := rfl
theorem tab154 : tab 154 = some ⟨.scal, [.lit .nilFunc], 8⟩ := rfl
theorem tab155 : tab 155 = some ⟨.scal, [.lit .nilFunc], 8⟩ := rfl
theorem tab156 : tab 156 = some ⟨.scal, [.lit .nilFunc], 8⟩ := rfl
theorem tab157 : tab 157 = some ⟨.scal, [.lit .nilFunc], 8⟩ := rfl
theorem tab158 : tab 158 = some ⟨.scal, [.lit .nilFunc], 8⟩ := rfl
theorem tab159 : tab 159 = some ⟨.strct [(0, 1, 17), (1, 1, 17), (2, 1, 17), (3, 1, 9)], [.lit (.pointer none), .lit (.pointer none), .lit (.pointer none), .lit (.string ⟨#[]⟩)], 40⟩ := rfl
theorem tab160 : tab 160 = some ⟨.strct [(0, 1, 17), (1, 1, 17), (2, 1, 17), (3, 1, 9)], [.lit (.pointer none), .lit (.pointer none), .lit (.pointer none), .lit (.string ⟨#[]⟩)], 40⟩ := rfl
theorem tab161 : tab 161 = some ⟨.arr 0 16 1, [], 0⟩ := rfl
theorem tab164 : tab 164 = some ⟨.scal, [.lit .nilFunc], 8⟩ := rfl
theorem tab165 : tab 165 = some ⟨.int .u8, [.lit (.int .u8 0)], 1⟩ := rfl
theorem tab166 : tab 166 = some ⟨.int .u8, [.lit (.int .u8 0)], 1⟩ := rfl
theorem tab167 : tab 167 = some ⟨.scal, [.lit .nilFunc], 8⟩ := rfl
theorem tab168 : tab 168 = some ⟨.scal, [.lit (.pointer none)], 8⟩ := rfl
theorem tab169 : tab 169 = some ⟨.int .i32, [.lit (.int .i32 0)], 4⟩ := rfl
theorem tab170 : tab 170 = some ⟨.int .i32, [.lit (.int .i32 0)], 4⟩ := rfl
theorem tab171 : tab 171 = some ⟨.strct [(0, 1, 12), (1, 1, 12), (2, 1, 52), (3, 1, 165), (4, 1, 5), (5, 1, 5), (6, 1, 166), (7, 1, 167), (8, 1, 168), (9, 1, 169), (10, 1, 170)], [.lit (.int .u64 0), .lit (.int .u64 0), .lit (.int .u32 0), .lit (.int .u8 0), .lit (.int .u8 0), .lit (.int .u8 0), .lit (.int .u8 0), .lit .nilFunc, .lit (.pointer none), .lit (.int .i32 0), .lit (.int .i32 0)], 48⟩ := rfl
theorem tab172 : tab 172 = some ⟨.strct [(0, 1, 12), (1, 1, 12), (2, 1, 52), (3, 1, 165), (4, 1, 5), (5, 1, 5), (6, 1, 166), (7, 1, 167), (8, 1, 168), (9, 1, 169), (10, 1, 170)], [.lit (.int .u64 0), .lit (.int .u64 0), .lit (.int .u32 0), .lit (.int .u8 0), .lit (.int .u8 0), .lit (.int .u8 0), .lit (.int .u8 0), .lit .nilFunc, .lit (.pointer none), .lit (.int .i32 0), .lit (.int .i32 0)], 48⟩ := rfl
theorem tab173 : tab 173 = some ⟨.strct [(0, 1, 3), (1, 1, 3)], [.lit (.int .i64 0), .lit (.int .i64 0)], 16⟩ := rfl
theorem tab174 : tab 174 = some ⟨.strct [(0, 1, 3), (1, 1, 3)], [.lit (.int .i64 0), .lit (.int .i64 0)], 16⟩ := rfl
theorem tab175 : tab 175 = some ⟨.scal, [.lit .nilFunc], 8⟩ := rfl
theorem tab176 : tab 176 = some ⟨.scal, [.lit .nilFunc], 8⟩ := rfl
theorem tab177 : tab 177 = some ⟨.scal, [.lit .nilFunc], 8⟩ := rfl
theorem tab178 : tab 178 = some ⟨.arr 5 9 1, [.lit (.string ⟨#[]⟩), .lit (.string ⟨#[]⟩), .lit (.string ⟨#[]⟩), .lit (.string ⟨#[]⟩), .lit (.string ⟨#[]⟩)], 80⟩ := rfl
theorem tab180 : tab 180 = some ⟨.scal, [.lit .nilFunc], 8⟩ := rfl
theorem tab181 : tab 181 = some ⟨.slc 9 1 false, [.sl 1 []], 24⟩ := rfl
theorem tab183 : tab 183 = some ⟨.scal, [.lit .nilFunc], 8⟩ := rfl
theorem tab184 : tab 184 = some ⟨.scal, [.lit .nilFunc], 8⟩ := rfl
theorem tab185 : tab 185 = some ⟨.scal, [.lit .nilFunc], 8⟩ := rfl
theorem tab186 : tab 186 = some ⟨.scal, [.lit .nilFunc], 8⟩ := rfl
theorem tab188 : tab 188 = some ⟨.scal, [.lit .nilFunc], 8⟩ := rfl
theorem tab190 : tab 190 = some ⟨.slc 99 9 false, [.sl 9 []], 24⟩ := rfl
theorem tab191 : tab 191 = some ⟨.strct [(0, 2, 24), (2, 1, 190), (3, 1, 3), (4, 1, 3)], [.lit (.int .i64 0), .sl 5 [], .sl 9 [], .lit (.int .i64 0), .lit (.int .i64 0)], 72⟩ := rfl
theorem tab192 : tab 192 = some ⟨.strct [(0, 2, 24), (2, 1, 190), (3, 1, 3), (4, 1, 3)], [.lit (.int .i64 0), .sl 5 [], .sl 9 [], .lit (.int .i64 0), .lit (.int .i64 0)], 72⟩ := rfl
theorem tab193 : tab 193 = some ⟨.slc 195 3 false, [.sl 3 []], 24⟩ := rfl
theorem tab194 : tab 194 = some ⟨.strct [(0, 1, 25), (1, 1, 3), (2, 1, 3)], [.sl 1 [], .lit (.int .i64 0), .lit (.int .i64 0)], 40⟩ := rfl
theorem tab195 : tab 195 = some ⟨.strct [(0, 1, 25), (1, 1, 3), (2, 1, 3)], [.sl 1 [], .lit (.int .i64 0), .lit (.int .i64 0)], 40⟩ := rfl
/- RULES tab1 tab2 tab3 tab4 tab5 tab6 tab7 tab8 tab9 tab10 tab11 tab12 tab13 tab14 tab15 tab16 tab17 tab18 tab19 tab20 tab21 tab22 tab23 tab24 tab25 tab26 tab27 tab28 tab29 tab30 tab31 tab32 tab33 tab34 tab35 tab36 tab37 tab38 tab39 tab40 tab41 tab43 tab45 tab46 tab47 tab49 tab50 tab51 tab52 tab53 tab54 tab55 tab56 tab57 tab58 tab59 tab60 tab61 tab62 tab64 tab65 tab67 tab68 tab69 tab70 tab71 tab72 tab73 tab74 tab75 tab77 tab78 tab80 tab81 tab82 tab83 tab84 tab85 tab86 tab87 tab88 tab89 tab90 tab91 tab92 tab93 tab94 tab95 tab96 tab97 tab98 tab99 tab100 tab101 tab102 tab103 tab104 tab105 tab106 tab107 tab108 tab109 tab110 tab111 tab112 tab113 tab114 tab115 tab116 tab117 tab118 tab119 tab120 tab121 tab123 tab124 tab125 tab126 tab128 tab129 tab130 tab131 tab132 tab133 tab134 tab135 tab136 tab137 tab138 tab139 tab140 tab141 tab142 tab144 tab146 tab147 tab149 tab151 tab153 tab154 tab155 tab156 tab157 tab158 tab159 tab160 tab161 tab164 tab165 tab166 tab167 tab168 tab169 tab170 tab171 tab172 tab173 tab174 tab175 tab176 tab177 tab178 tab180 tab181 tab183 tab184 tab185 tab186 tab188 tab190 tab191 tab192 tab193 tab194 tab195 -/
end Go.Proofs.YtfchbehmeppckaaGreat
