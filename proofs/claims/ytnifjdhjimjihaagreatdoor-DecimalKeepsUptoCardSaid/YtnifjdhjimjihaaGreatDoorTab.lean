/- The table of types of this translation (printed by a program), checked by the kernel. -/
import Derived.Test.YtnifjdhjimjihaaGreatDoorEP
namespace Go.Proofs.YtnifjdhjimjihaaGreatDoor
open Go.RowKit Lim

def tabL : List (Nat × TI) := [
  (2, ⟨.int .i64, [.lit (.int .i64 0)]⟩),
  (3, ⟨.int .i64, [.lit (.int .i64 0)]⟩),
  (4, ⟨.bool, [.lit (.bool false)]⟩),
  (5, ⟨.int .u8, [.lit (.int .u8 0)]⟩),
  (6, ⟨.int .u8, [.lit (.int .u8 0)]⟩),
  (7, ⟨.strct [(0, 1, 2), (1, 1, 3), (2, 1, 4), (3, 1, 6)], [.lit (.int .i64 0), .lit (.int .i64 0), .lit (.bool false), .lit (.int .u8 0)]⟩),
  (8, ⟨.strct [(0, 1, 2), (1, 1, 3), (2, 1, 4), (3, 1, 6)], [.lit (.int .i64 0), .lit (.int .i64 0), .lit (.bool false), .lit (.int .u8 0)]⟩),
  (9, ⟨.str, [.lit (.string ⟨#[]⟩)]⟩),
  (10, ⟨.str, [.lit (.string ⟨#[]⟩)]⟩),
  (11, ⟨.str, [.lit (.string ⟨#[]⟩)]⟩),
  (12, ⟨.int .u64, [.lit (.int .u64 0)]⟩),
  (13, ⟨.strct [(0, 1, 9), (1, 1, 12)], [.lit (.string ⟨#[]⟩), .lit (.int .u64 0)]⟩),
  (14, ⟨.strct [(0, 1, 9), (1, 1, 12)], [.lit (.string ⟨#[]⟩), .lit (.int .u64 0)]⟩),
  (18, ⟨.strct [(0, 1, 17)], [.lit (.pointer none)]⟩),
  (19, ⟨.strct [(0, 1, 17)], [.lit (.pointer none)]⟩),
  (21, ⟨.int .i32, [.lit (.int .i32 0)]⟩),
  (22, ⟨.slc 55 1 true, [.nat []]⟩),
  (23, ⟨.slc 55 1 true, [.nat []]⟩),
  (24, ⟨.strct [(0, 1, 4), (1, 1, 23)], [.lit (.bool false), .nat []]⟩),
  (25, ⟨.strct [(0, 1, 4), (1, 1, 23)], [.lit (.bool false), .nat []]⟩),
  (26, ⟨.strct [(0, 2, 25), (2, 1, 23)], [.lit (.bool false), .nat [], .nat []]⟩),
  (27, ⟨.strct [(0, 2, 25), (2, 1, 23)], [.lit (.bool false), .nat [], .nat []]⟩),
  (28, ⟨.strct [(0, 2, 25), (2, 1, 3)], [.lit (.bool false), .nat [], .lit (.int .i64 0)]⟩),
  (29, ⟨.strct [(0, 2, 25), (2, 1, 3)], [.lit (.bool false), .nat [], .lit (.int .i64 0)]⟩),
  (30, ⟨.int .i64, [.lit (.int .i64 0)]⟩),
  (55, ⟨.int .u32, [.lit (.int .u32 0)]⟩),
  (81, ⟨.int .u64, [.lit (.int .u64 0)]⟩),
  (109, ⟨.int .u64, [.lit (.int .u64 0)]⟩),
  (112, ⟨.slc 5 1 false, [.sl 1 []]⟩),
  (119, ⟨.strct [(0, 1, 118), (1, 1, 112)], [.lit (.pointer none), .sl 1 []]⟩),
  (120, ⟨.strct [(0, 1, 118), (1, 1, 112)], [.lit (.pointer none), .sl 1 []]⟩),
  (164, ⟨.strct [(0, 1, 5), (1, 1, 5)], [.lit (.int .u8 0), .lit (.int .u8 0)]⟩),
  (165, ⟨.strct [(0, 1, 5), (1, 1, 5)], [.lit (.int .u8 0), .lit (.int .u8 0)]⟩),
  (174, ⟨.strct [(0, 1, 17), (1, 1, 17), (2, 1, 17), (3, 1, 9)], [.lit (.pointer none), .lit (.pointer none), .lit (.pointer none), .lit (.string ⟨#[]⟩)]⟩),
  (175, ⟨.strct [(0, 1, 17), (1, 1, 17), (2, 1, 17), (3, 1, 9)], [.lit (.pointer none), .lit (.pointer none), .lit (.pointer none), .lit (.string ⟨#[]⟩)]⟩),
  (179, ⟨.int .u8, [.lit (.int .u8 0)]⟩),
  (180, ⟨.int .u8, [.lit (.int .u8 0)]⟩),
  (182, ⟨.int .i32, [.lit (.int .i32 0)]⟩),
  (183, ⟨.int .i32, [.lit (.int .i32 0)]⟩),
  (184, ⟨.strct [(0, 1, 12), (1, 1, 12), (2, 1, 55), (3, 1, 179), (4, 1, 5), (5, 1, 5), (6, 1, 180), (7, 1, 181), (8, 1, 142), (9, 1, 182), (10, 1, 183)], [.lit (.int .u64 0), .lit (.int .u64 0), .lit (.int .u32 0), .lit (.int .u8 0), .lit (.int .u8 0), .lit (.int .u8 0), .lit (.int .u8 0), .lit .nilFunc, .lit (.pointer none), .lit (.int .i32 0), .lit (.int .i32 0)]⟩),
  (185, ⟨.strct [(0, 1, 12), (1, 1, 12), (2, 1, 55), (3, 1, 179), (4, 1, 5), (5, 1, 5), (6, 1, 180), (7, 1, 181), (8, 1, 142), (9, 1, 182), (10, 1, 183)], [.lit (.int .u64 0), .lit (.int .u64 0), .lit (.int .u32 0), .lit (.int .u8 0), .lit (.int .u8 0), .lit (.int .u8 0), .lit (.int .u8 0), .lit .nilFunc, .lit (.pointer none), .lit (.int .i32 0), .lit (.int .i32 0)]⟩)]
def tab : TyTab := ofL tabL
theorem tab_ok : tabL.all (fun p => tiB Tryz.prog p.1 p.2) = true := by kernel_rfl
theorem tab2 : tab 2 = some ⟨.int .i64, [.lit (.int .i64 0)]⟩ := rfl
theorem tab3 : tab 3 = some ⟨.int .i64, [.lit (.int .i64 0)]⟩ := rfl
theorem tab4 : tab 4 = some ⟨.bool, [.lit (.bool false)]⟩ := rfl
theorem tab5 : tab 5 = some ⟨.int .u8, [.lit (.int .u8 0)]⟩ := rfl
theorem tab6 : tab 6 = some ⟨.int .u8, [.lit (.int .u8 0)]⟩ := rfl
theorem tab7 : tab 7 = some ⟨.strct [(0, 1, 2), (1, 1, 3), (2, 1, 4), (3, 1, 6)], [.lit (.int .i64 0), .lit (.int .i64 0), .lit (.bool false), .lit (.int .u8 0)]⟩ := rfl
theorem tab8 : tab 8 = some ⟨.strct [(0, 1, 2), (1, 1, 3), (2, 1, 4), (3, 1, 6)], [.lit (.int .i64 0), .lit (.int .i64 0), .lit (.bool false), .lit (.int .u8 0)]⟩ := rfl
theorem tab9 : tab 9 = some ⟨.str, [.lit (.string ⟨#[]⟩)]⟩ := rfl
theorem tab10 : tab 10 = some ⟨.str, [.lit (.string ⟨#[]⟩)]⟩ := rfl
theorem tab11 : tab 11 = some ⟨.str, [.lit (.string ⟨#[]⟩)]⟩ := rfl
theorem tab12 : tab 12 = some ⟨.int .u64, [.lit (.int .u64 0)]⟩ := rfl
theorem tab13 : tab 13 = some ⟨.strct [(0, 1, 9), (1, 1, 12)], [.lit (.string ⟨#[]⟩), .lit (.int .u64 0)]⟩ := rfl
theorem tab14 : tab 14 = some ⟨.strct [(0, 1, 9), (1, 1, 12)], [.lit (.string ⟨#[]⟩), .lit (.int .u64 0)]⟩ := rfl
theorem tab18 : tab 18 = some ⟨.strct [(0, 1, 17)], [.lit (.pointer none)]⟩ := rfl
theorem tab19 : tab 19 = some ⟨.strct [(0, 1, 17)], [.lit (.pointer none)]⟩ := rfl
theorem tab21 : tab 21 = some ⟨.int .i32, [.lit (.int .i32 0)]⟩ := rfl
theorem tab22 : tab 22 = some ⟨.slc 55 1 true, [.nat []]⟩ := rfl
theorem tab23 : tab 23 = some ⟨.slc 55 1 true, [.nat []]⟩ := rfl
theorem tab24 : tab 24 = some ⟨.strct [(0, 1, 4), (1, 1, 23)], [.lit (.bool false), .nat []]⟩ := rfl
theorem tab25 : tab 25 = some ⟨.strct [(0, 1, 4), (1, 1, 23)], [.lit (.bool false), .nat []]⟩ := rfl
theorem tab26 : tab 26 = some ⟨.strct [(0, 2, 25), (2, 1, 23)], [.lit (.bool false), .nat [], .nat []]⟩ := rfl
theorem tab27 : tab 27 = some ⟨.strct [(0, 2, 25), (2, 1, 23)], [.lit (.bool false), .nat [], .nat []]⟩ := rfl
theorem tab28 : tab 28 = some ⟨.strct [(0, 2, 25), (2, 1, 3)], [.lit (.bool false), .nat [], .lit (.int .i64 0)]⟩ := rfl
theorem tab29 : tab 29 = some ⟨.strct [(0, 2, 25), (2, 1, 3)], [.lit (.bool false), .nat [], .lit (.int .i64 0)]⟩ := rfl
theorem tab30 : tab 30 = some ⟨.int .i64, [.lit (.int .i64 0)]⟩ := rfl
theorem tab55 : tab 55 = some ⟨.int .u32, [.lit (.int .u32 0)]⟩ := rfl
theorem tab81 : tab 81 = some ⟨.int .u64, [.lit (.int .u64 0)]⟩ := rfl
theorem tab109 : tab 109 = some ⟨.int .u64, [.lit (.int .u64 0)]⟩ := rfl
theorem tab112 : tab 112 = some ⟨.slc 5 1 false, [.sl 1 []]⟩ := rfl
theorem tab119 : tab 119 = some ⟨.strct [(0, 1, 118), (1, 1, 112)], [.lit (.pointer none), .sl 1 []]⟩ := rfl
theorem tab120 : tab 120 = some ⟨.strct [(0, 1, 118), (1, 1, 112)], [.lit (.pointer none), .sl 1 []]⟩ := rfl
theorem tab164 : tab 164 = some ⟨.strct [(0, 1, 5), (1, 1, 5)], [.lit (.int .u8 0), .lit (.int .u8 0)]⟩ := rfl
theorem tab165 : tab 165 = some ⟨.strct [(0, 1, 5), (1, 1, 5)], [.lit (.int .u8 0), .lit (.int .u8 0)]⟩ := rfl
theorem tab174 : tab 174 = some ⟨.strct [(0, 1, 17), (1, 1, 17), (2, 1, 17), (3, 1, 9)], [.lit (.pointer none), .lit (.pointer none), .lit (.pointer none), .lit (.string ⟨#[]⟩)]⟩ := rfl
theorem tab175 : tab 175 = some ⟨.strct [(0, 1, 17), (1, 1, 17), (2, 1, 17), (3, 1, 9)], [.lit (.pointer none), .lit (.pointer none), .lit (.pointer none), .lit (.string ⟨#[]⟩)]⟩ := rfl
theorem tab179 : tab 179 = some ⟨.int .u8, [.lit (.int .u8 0)]⟩ := rfl
theorem tab180 : tab 180 = some ⟨.int .u8, [.lit (.int .u8 0)]⟩ := rfl
theorem tab182 : tab 182 = some ⟨.int .i32, [.lit (.int .i32 0)]⟩ := rfl
theorem tab183 : tab 183 = some ⟨.int .i32, [.lit (.int .i32 0)]⟩ := rfl
theorem tab184 : tab 184 = some ⟨.strct [(0, 1, 12), (1, 1, 12), (2, 1, 55), (3, 1, 179), (4, 1, 5), (5, 1, 5), (6, 1, 180), (7, 1, 181), (8, 1, 142), (9, 1, 182), (10, 1, 183)], [.lit (.int .u64 0), .lit (.int .u64 0), .lit (.int .u32 0), .lit (.int .u8 0), .lit (.int .u8 0), .lit (.int .u8 0), .lit (.int .u8 0), .lit .nilFunc, .lit (.pointer none), .lit (.int .i32 0), .lit (.int .i32 0)]⟩ := rfl
theorem tab185 : tab 185 = some ⟨.strct [(0, 1, 12), (1, 1, 12), (2, 1, 55), (3, 1, 179), (4, 1, 5), (5, 1, 5), (6, 1, 180), (7, 1, 181), (8, 1, 142), (9, 1, 182), (10, 1, 183)], [.lit (.int .u64 0), .lit (.int .u64 0), .lit (.int .u32 0), .lit (.int .u8 0), .lit (.int .u8 0), .lit (.int .u8 0), .lit (.int .u8 0), .lit .nilFunc, .lit (.pointer none), .lit (.int .i32 0), .lit (.int .i32 0)]⟩ := rfl
/- RULES tab2 tab3 tab4 tab5 tab6 tab7 tab8 tab9 tab10 tab11 tab12 tab13 tab14 tab18 tab19 tab21 tab22 tab23 tab24 tab25 tab26 tab27 tab28 tab29 tab30 tab55 tab81 tab109 tab112 tab119 tab120 tab164 tab165 tab174 tab175 tab179 tab180 tab182 tab183 tab184 tab185 -/
end Go.Proofs.YtnifjdhjimjihaaGreatDoor
