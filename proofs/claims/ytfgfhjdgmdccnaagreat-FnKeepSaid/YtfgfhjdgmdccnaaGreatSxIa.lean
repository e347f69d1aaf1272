import Derived.Test.YtfgfhjdgmdccnaaGreatPsZa
import Derived.Test.YtfgfhjdgmdccnaaGreatProg
namespace Go.Proofs.YtfgfhjdgmdccnaaGreat.S
open Go.Ps
set_option linter.unusedVariables false
set_option maxRecDepth 100000
set_option maxHeartbeats 0
abbrev Y0 : Ty := (.pair (.int .i64) (.pair (.int .i64) .str))
abbrev Y1 : Ty := (.pair .str (.pair (.int .i64) (.pair (.int .i64) (.pair (.int .i64) (.int .i64)))))
abbrev Y2 : Ty := (.pair (.int .i64) (.pair (.int .i64) (.int .i64)))
abbrev Y3 : Ty := (.pair (.int .i64) (.pair (.int .i64) (.pair (.int .i64) (.pair (.int .i64) (.int .i64)))))
abbrev Y4 : Ty := (.pair (.list (.int .u8)) (.pair (.int .i64) (.int .i64)))
abbrev Y5 : Ty := (.pair (.int .i64) (.pair (.int .i64) (.pair (.int .i64) (.int .i64))))
abbrev Y6 : Ty := (.pair (.arr (.int .i64) 32) (.int .i64))
abbrev D0 : Type := Int × Int × ByteArray
abbrev D1 : Type := List Int × Int × Int
abbrev D2 : Type := Int × List Int × Int × Int
abbrev D3 : Type := Int × Int × Int × Int × Int
abbrev D4 : Type := List D3 × List Int × Int × Int
abbrev D5 : Type := ByteArray × Int × Int × Int × Int
abbrev D6 : Type := Int × Int × Int × Int
abbrev D7 : Type := Bool × Bool × Bool
abbrev D8 : Type := ByteArray × List Int × Int × Int
abbrev D9 : Type := (List Int × Int) × List Int × Int × Int
abbrev D10 : Type := (List Int × Int) × List D0 × Int
noncomputable def tis : List (Nat × TI) := [
  (3, ⟨.scalar, 1, 8, [.int .i64 0], (.int .i64), false⟩),
  (5, ⟨.scalar, 1, 1, [.int .u8 0], (.int .u8), false⟩),
  (9, ⟨.scalar, 1, 16, [.str (⟨#[]⟩ : ByteArray)], .str, false⟩),
  (21, ⟨.scalar, 1, 4, [.int .i32 0], (.int .i32), false⟩),
  (22, ⟨(.slice 5), 1, 24, [.nils], (.list (.int .u8)), false⟩),
  (24, ⟨(.slice 54), 1, 24, [.nils], (.list Y3), false⟩),
  (30, ⟨(.slice 82), 1, 24, [.nils], (.list Y0), false⟩),
  (32, ⟨(.struct [(0, 1)] [false] []), 1, 24, [.nils], (.list Y0), false⟩),
  (35, ⟨(.slice 3), 1, 24, [.nils], (.list (.int .i64)), false⟩),
  (39, ⟨(.array 32 3), 32, 256, [.int .i64 0, .int .i64 0, .int .i64 0, .int .i64 0, .int .i64 0, .int .i64 0, .int .i64 0, .int .i64 0, .int .i64 0, .int .i64 0, .int .i64 0, .int .i64 0, .int .i64 0, .int .i64 0, .int .i64 0, .int .i64 0, .int .i64 0, .int .i64 0, .int .i64 0, .int .i64 0, .int .i64 0, .int .i64 0, .int .i64 0, .int .i64 0, .int .i64 0, .int .i64 0, .int .i64 0, .int .i64 0, .int .i64 0, .int .i64 0, .int .i64 0, .int .i64 0], (.arr (.int .i64) 32), false⟩),
  (41, ⟨(.struct [(0, 32), (32, 1)] [true, false] []), 33, 264, [.int .i64 0, .int .i64 0, .int .i64 0, .int .i64 0, .int .i64 0, .int .i64 0, .int .i64 0, .int .i64 0, .int .i64 0, .int .i64 0, .int .i64 0, .int .i64 0, .int .i64 0, .int .i64 0, .int .i64 0, .int .i64 0, .int .i64 0, .int .i64 0, .int .i64 0, .int .i64 0, .int .i64 0, .int .i64 0, .int .i64 0, .int .i64 0, .int .i64 0, .int .i64 0, .int .i64 0, .int .i64 0, .int .i64 0, .int .i64 0, .int .i64 0, .int .i64 0, .int .i64 0], Y6, false⟩),
  (54, ⟨(.struct [(0, 1), (1, 1), (2, 1), (3, 1), (4, 1)] [false, false, false, false, false] []), 5, 40, [.int .i64 0, .int .i64 0, .int .i64 0, .int .i64 0, .int .i64 0], Y3, false⟩),
  (69, ⟨(.struct [(0, 1), (1, 1), (2, 1)] [false, false, false] []), 3, 40, [.nils, .int .i64 0, .int .i64 0], Y4, false⟩),
  (71, ⟨(.struct [(0, 1), (1, 1), (2, 1), (3, 1)] [false, false, false, false] []), 4, 32, [.int .i64 0, .int .i64 0, .int .i64 0, .int .i64 0], Y5, false⟩),
  (75, ⟨.scalar, 1, 8, [.int .u64 0], (.int .u64), false⟩),
  (76, ⟨(.slice 79), 1, 24, [.nils], (.list Y2), false⟩),
  (79, ⟨(.struct [(0, 1), (1, 1), (2, 1)] [false, false, false] []), 3, 24, [.int .i64 0, .int .i64 0, .int .i64 0], Y2, false⟩),
  (82, ⟨(.struct [(0, 1), (1, 1), (2, 1)] [false, false, false] []), 3, 32, [.int .i64 0, .int .i64 0, .str (⟨#[]⟩ : ByteArray)], Y0, false⟩),
  (95, ⟨(.struct [(0, 1), (1, 4)] [false, true] []), 5, 48, [.str (⟨#[]⟩ : ByteArray), .int .i64 0, .int .i64 0, .int .i64 0, .int .i64 0], Y1, false⟩),
  (96, ⟨(.slice 95), 1, 24, [.nils], (.list Y1), false⟩),
  (120, ⟨.scalar, 1, 8, [.int .u64 0], (.int .u64), false⟩)]
noncomputable def fns : List (Nat × Func) := [(3, Tryz.f3), (4, Tryz.f4), (5, Tryz.f5), (6, Tryz.f6), (7, Tryz.f7), (8, Tryz.f8), (9, Tryz.f9), (10, Tryz.f10), (11, Tryz.f11), (12, Tryz.f12), (13, Tryz.f13), (14, Tryz.f14), (15, Tryz.f15), (16, Tryz.f16), (17, Tryz.f17), (18, Tryz.f18), (19, Tryz.f19), (20, Tryz.f20), (21, Tryz.f21), (22, Tryz.f22), (23, Tryz.f23), (24, Tryz.f24), (25, Tryz.f25), (26, Tryz.f26), (27, Tryz.f27), (28, Tryz.f28), (29, Tryz.f29), (30, Tryz.f30), (31, Tryz.f31), (32, Tryz.f32), (33, Tryz.f33), (34, Tryz.f34), (35, Tryz.f35), (36, Tryz.f36), (37, Tryz.f37), (38, Tryz.f38), (39, Tryz.f39), (40, Tryz.f40), (41, Tryz.f41), (42, Tryz.f42), (43, Tryz.f43), (44, Tryz.f44), (45, Tryz.f45), (46, Tryz.f46), (47, Tryz.f47), (48, Tryz.f48), (49, Tryz.f49), (50, Tryz.f50), (51, Tryz.f51), (52, Tryz.f52), (53, Tryz.f53), (54, Tryz.f54), (55, Tryz.f55), (56, Tryz.f56), (57, Tryz.f57), (58, Tryz.f58), (59, Tryz.f59), (60, Tryz.f60), (61, Tryz.f61), (62, Tryz.f62), (71, Tryz.f71), (72, Tryz.f72), (73, Tryz.f73), (74, Tryz.f74), (75, Tryz.f75), (76, Tryz.f76), (77, Tryz.f77), (78, Tryz.f78), (79, Tryz.f79), (80, Tryz.f80), (81, Tryz.f81), (82, Tryz.f82), (83, Tryz.f83), (84, Tryz.f84), (87, Tryz.f87), (91, Tryz.f91), (92, Tryz.f92), (93, Tryz.f93), (94, Tryz.f94), (98, Tryz.f98), (99, Tryz.f99), (100, Tryz.f100), (101, Tryz.f101), (102, Tryz.f102)]
noncomputable def sigs : List (Nat × Sig) := [
  (3, ⟨[.val (.list (.int .u8)), .val (.list (.int .u8))], [(.bool, false)], [.no]⟩),
  (4, ⟨[.val (.list (.int .u8))], [((.int .i64), false)], [.no]⟩),
  (5, ⟨[.val (.int .i64)], [((.list Y3), false), ((.int .i64), false)], [(.own 54 .no), .no]⟩),
  (6, ⟨[.val (.int .i64)], [((.list Y3), false), ((.int .i64), false)], [(.own 54 .no), .no]⟩),
  (7, ⟨[.val (.list (.int .u8)), .val (.int .i64)], [((.list Y3), false)], [(.own 54 .no)]⟩),
  (8, ⟨[.val (.list Y3)], [(.str, false), ((.int .i64), false)], [.no, .no]⟩),
  (9, ⟨[.val (.list Y0), .val (.int .i64), .val (.int .i64)], [((.list Y0), true), ((.int .i64), false)], [(.own 82 .no), .no]⟩),
  (10, ⟨[.val (.list Y0), .val (.int .i64), .val .str], [((.list Y0), true), ((.int .i64), false)], [(.own 82 .no), .no]⟩),
  (11, ⟨[.val (.list (.int .u8)), .val (.int .i64)], [(.str, false)], [.no]⟩),
  (12, ⟨[.val (.list Y0), .val (.int .i64), .val (.int .i64)], [(.str, false), ((.int .i64), false)], [.no, .no]⟩),
  (13, ⟨[.val (.list (.int .u8))], [(Y6, true)], [.no]⟩),
  (14, ⟨[.val Y6, .val (.list Y0)], [(Y6, true), ((.list Y0), true), ((.int .i64), false)], [.no, (.own 82 .no), .no]⟩),
  (15, ⟨[.val (.list (.int .u8))], [((.opt Y4), false)], [.box]⟩),
  (16, ⟨[.var Y4 .no], [((.int .i64), false)], [.no]⟩),
  (17, ⟨[.val (.int .i64)], [(.bool, false)], [.no]⟩),
  (18, ⟨[.val (.int .i64)], [((.list Y3), false)], [(.own 54 .no)]⟩),
  (19, ⟨[.val (.int .i64)], [((.list Y3), false)], [(.own 54 .no)]⟩),
  (20, ⟨[.var Y4 .no, .val (.int .i64), .val (.int .i64), .val (.int .i64), .val (.list (.int .i64)), .val (.list (.int .i64))], [((.list Y3), false)], [(.own 54 .no)]⟩),
  (21, ⟨[.var Y4 .no, .val (.int .i64)], [((.int .i64), false)], [.no]⟩),
  (22, ⟨[.val Y3], [(.bool, false)], [.no]⟩),
  (23, ⟨[.val (.int .i64), .val (.int .i64)], [(.str, false)], [.no]⟩),
  (24, ⟨[.val Y3], [((.int .i64), false)], [.no]⟩),
  (25, ⟨[.val (.list Y0)], [(.bool, false)], [.no]⟩),
  (26, ⟨[.val (.int .i64)], [(.bool, false)], [.no]⟩),
  (27, ⟨[.val (.int .i64)], [(.bool, false)], [.no]⟩),
  (28, ⟨[.val (.list Y0), .val (.int .i64)], [((.int .i64), false)], [.no]⟩),
  (29, ⟨[.val (.list Y0)], [((.list Y0), true)], [(.own 82 .no)]⟩),
  (30, ⟨[.val (.list Y0), .val (.int .i64), .val (.int .i64)], [((.list Y0), true)], [(.own 82 .no)]⟩),
  (31, ⟨[.val .str], [(.bool, false)], [.no]⟩),
  (32, ⟨[.val (.list Y0), .val (.int .i64), .val (.int .i64)], [(.bool, false)], [.no]⟩),
  (33, ⟨[.val (.list Y0), .val (.int .i64), .val .str], [((.list Y0), true)], [(.own 82 .no)]⟩),
  (34, ⟨[.var Y4 .no, .val (.int .i64)], [(.str, false)], [.no]⟩),
  (35, ⟨[.val (.int .i64), .val (.int .i64), .val (.int .i64)], [(.bool, false)], [.no]⟩),
  (36, ⟨[.val (.list Y0), .val (.int .i64), .val (.int .i64)], [(.str, false)], [.no]⟩),
  (37, ⟨[.var Y4 .no], [(Y6, true)], [.no]⟩),
  (38, ⟨[.val Y6], [(.bool, false)], [.no]⟩),
  (39, ⟨[.val Y6, .val (.list Y0)], [(Y6, true), ((.list Y0), true), ((.int .i64), false)], [.no, (.own 82 .no), .no]⟩),
  (40, ⟨[.val (.int .i64)], [((.list Y3), false)], [(.own 54 .no)]⟩),
  (41, ⟨[.var Y4 .no, .val (.int .i64), .val (.int .i64), .val (.int .i64), .val (.list (.int .i64)), .val (.list (.int .i64))], [((.list Y3), false)], [(.own 54 .no)]⟩),
  (42, ⟨[.val (.int .i64)], [((.list Y3), false)], [(.own 54 .no)]⟩),
  (43, ⟨[.var Y4 .no], [((.int .i64), false)], [.no]⟩),
  (44, ⟨[.val (.int .i64)], [(.bool, false)], [.no]⟩),
  (45, ⟨[.val (.int .i64)], [(Y5, true)], [.no]⟩),
  (46, ⟨[.val (.int .i64)], [(.bool, false), (.bool, false), (.bool, false)], [.no, .no, .no]⟩),
  (47, ⟨[.val (.int .i64)], [(.bool, false)], [.no]⟩),
  (48, ⟨[.val (.int .i64), .val (.int .i64)], [(.bool, false)], [.no]⟩),
  (49, ⟨[.val (.int .i64)], [((.list Y2), false)], [(.own 79 .no)]⟩),
  (50, ⟨[.val (.int .i64), .val (.int .i64), .val (.int .i64)], [((.int .i64), false)], [.no]⟩),
  (51, ⟨[.val (.list Y0), .raw], [((.int .i64), false)], [.no]⟩),
  (52, ⟨[.val Y0, .ro (.int .i64)], [(.bool, false)], [.no]⟩),
  (53, ⟨[.val (.list Y0)], [((.list Y0), false)], [(.own 82 .no)]⟩),
  (54, ⟨[.give (.list Y0) (.own 82 .no), .val (.int .i64), .val (.list Y0)], [((.list Y0), false)], [(.own 82 .no)]⟩),
  (55, ⟨[.val .str, .val (.int .i64)], [(.str, false)], [.no]⟩),
  (56, ⟨[.val (.int .i64), .val (.int .i64)], [(Y6, true)], [.no]⟩),
  (57, ⟨[.var Y4 .no], [((.int .i64), false)], [.no]⟩),
  (58, ⟨[.val (.list Y0), .val (.int .i64), .val (.int .i64), .val (.int .i64), .val .bool], [((.int .i64), false), ((.int .i64), false)], [.no, .no]⟩),
  (59, ⟨[.val (.int .i64)], [(Y3, true), (.bool, false)], [.no, .no]⟩),
  (60, ⟨[.val Y6, .val (.list Y0), .val Y3], [(Y6, true), ((.list Y0), true), ((.int .i64), false)], [.no, (.own 82 .no), .no]⟩),
  (61, ⟨[.var Y4 .no], [((.int .i64), false)], [.no]⟩),
  (62, ⟨[], [((.list Y1), false)], [(.own 95 .no)]⟩),
  (71, ⟨[.var Y4 .no], [((.int .i64), false)], [.no]⟩),
  (72, ⟨[.var Y4 .no], [((.int .i64), false)], [.no]⟩),
  (73, ⟨[.val (.list Y0), .val (.int .i64), .val (.int .i64), .val (.int .i64), .val .bool], [((.int .i64), false), ((.int .i64), false)], [.no, .no]⟩),
  (74, ⟨[.val .str], [((.int .i64), false)], [.no]⟩),
  (75, ⟨[.val (.int .i64)], [((.int .i64), false)], [.no]⟩),
  (76, ⟨[.val (.int .i64), .val (.int .i64)], [((.int .i64), false)], [.no]⟩),
  (77, ⟨[.val Y6, .val (.int .i64), .val (.int .i64)], [(Y6, true)], [.no]⟩),
  (78, ⟨[.val (.int .i64)], [(.bool, false)], [.no]⟩),
  (79, ⟨[.val (.int .i64), .val (.int .i64), .val (.int .i64)], [(.bool, false)], [.no]⟩),
  (80, ⟨[.val (.int .i64)], [(.bool, false)], [.no]⟩),
  (81, ⟨[.val (.int .i64)], [((.int .i64), false), (.bool, false)], [.no, .no]⟩),
  (82, ⟨[.val (.int .i64)], [(.bool, false)], [.no]⟩),
  (83, ⟨[.val (.list Y0), .val (.int .i64), .val (.int .i64), .val (.int .i64), .val .bool], [((.list Y0), true), ((.int .i64), false)], [(.own 82 .no), .no]⟩),
  (84, ⟨[.val (.int .i64), .val (.int .i64), .val (.int .i64)], [((.int .i64), false)], [.no]⟩),
  (87, ⟨[.val (.int .u64), .val (.int .u64)], [((.int .u64), false), ((.int .u64), false)], [.no, .no]⟩),
  (91, ⟨[.val (.int .i64), .val (.int .i64)], [(.bool, false)], [.no]⟩),
  (92, ⟨[.val (.int .i64)], [((.int .i64), false)], [.no]⟩),
  (93, ⟨[.val (.int .i64), .val (.int .i64), .val (.int .i64)], [((.int .i64), false), (.bool, false)], [.no, .no]⟩),
  (94, ⟨[.val (.int .i64), .val (.int .i64), .val (.int .i64)], [((.int .i64), false)], [.no]⟩),
  (98, ⟨[.val (.int .i64)], [((.int .i64), false)], [.no]⟩),
  (99, ⟨[.val (.int .i64), .val (.int .i64)], [((.int .i64), false), ((.int .i64), false)], [.no, .no]⟩),
  (100, ⟨[.val (.int .i64), .val (.int .i64)], [((.int .i64), false), ((.int .i64), false)], [.no, .no]⟩),
  (101, ⟨[.val (.int .i64), .val (.int .i64)], [((.int .i64), false), ((.int .i64), false)], [.no, .no]⟩),
  (102, ⟨[.val .bool], [((.int .i64), false)], [.no]⟩)]
noncomputable def loops : List (Nat × List (Nat × List (Nat × LK))) := [
  (3, [(12, [(1, .val (.list (.int .u8)) .no), (11, .val .str .no), (13, .box (.list Y0) (.own 82 .no)), (14, .val (.int .i64) .no)]), (28, [(13, .box (.list Y0) (.own 82 .no)), (19, .val .str .no), (21, .box Y6 .no), (22, .val (.int .i64) .no)])]),
  (8, [(7, [(4, .val .str .no), (15, .val (.list Y3) .no), (16, .val (.int .i64) .no), (17, .val (.int .i64) .no)])]),
  (20, [(3, [(0, .par Y4 .no), (1, .val (.int .i64) .no), (2, .val (.int .i64) .no), (3, .val (.int .i64) .no), (4, .val (.list (.int .i64)) .no), (5, .val (.list (.int .i64)) .no), (13, .val (.list Y3) (.own 54 .no)), (14, .val (.int .i64) .no)])]),
  (23, [(2, [(0, .val (.int .i64) .no), (1, .val (.int .i64) .no), (5, .val (.list (.int .u8)) (.own 5 .no))])]),
  (24, [(4, [(1, .box Y3 .no), (3, .box Y5 .no), (4, .val (.int .i64) .no), (17, .val (.list Y2) (.own 79 .no)), (18, .val (.int .i64) .no), (19, .val (.int .i64) .no)])]),
  (25, [(4, [(1, .box (.list Y0) .no), (10, .val (.list Y0) .no), (11, .val (.int .i64) .no), (12, .val (.int .i64) .no)])]),
  (30, [(2, [(1, .val (.int .i64) .no), (2, .val (.int .i64) .no), (3, .box (.list Y0) .no), (6, .box (.list Y0) (.own 82 .no)), (7, .val (.int .i64) .no)])]),
  (32, [(2, [(1, .val (.int .i64) .no), (2, .val (.int .i64) .no), (3, .box (.list Y0) .no), (7, .val (.int .i64) .no)])]),
  (33, [(3, [(1, .val (.int .i64) .no), (2, .val .str .no), (6, .box (.list Y0) (.own 82 .no)), (7, .box (.list Y0) (.own 82 .no)), (16, .same 7 (some 0)), (17, .val (.int .i64) .no), (18, .val (.int .i64) .no)]), (7, [(1, .val (.int .i64) .no), (2, .val .str .no), (6, .box (.list Y0) (.own 82 .no)), (7, .box (.list Y0) (.own 82 .no)), (8, .val (.int .i64) .no), (9, .box Y0 .no), (10, .val (.list (.int .u8)) (.own 5 .box)), (16, .same 7 (some 0)), (17, .val (.int .i64) .no), (18, .val (.int .i64) .no), (27, .val (.int .i64) .no), (28, .val (.int .i64) .no)])]),
  (34, [(3, [(0, .par Y4 .no), (1, .val (.int .i64) .no), (5, .val (.list (.int .u8)) (.own 5 .no)), (6, .val (.int .i64) .no)])]),
  (36, [(3, [(1, .val (.int .i64) .no), (2, .val (.int .i64) .no), (3, .box (.list Y0) .no), (7, .val (.list (.int .u8)) (.own 5 .no)), (8, .val (.int .i64) .no)])]),
  (37, [(3, [(0, .par Y4 .no), (2, .box Y6 .no), (3, .box Y6 .no), (4, .val (.int .i64) .no)])]),
  (51, [(2, [(0, .val (.list Y0) .no), (1, .keep), (7, .val (.int .i64) .no), (8, .val (.int .i64) .no)])]),
  (59, [(2, [(0, .val (.int .i64) .no), (2, .box Y3 .no), (14, .val (.list Y1) (.own 95 .no)), (15, .val (.int .i64) .no), (16, .val (.int .i64) .no)]), (8, [(0, .val (.int .i64) .no), (2, .box Y3 .no), (6, .box Y5 .no), (7, .box Y3 .no), (14, .val (.list Y1) (.own 95 .no)), (15, .val (.int .i64) .no), (16, .val (.int .i64) .no), (36, .val (.list Y2) (.own 79 .no)), (37, .val (.int .i64) .no), (38, .val (.int .i64) .no)])]),
  (74, [(3, [(0, .val .str .no), (3, .val (.int .i64) .no), (4, .val (.int .i64) .no)])])]
noncomputable def prims : List (Nat × (List SV → Option (List PV))) := [(53, (primClone Y0 32)), (54, (primInsert Y0 32)), (55, primRepeat)]
noncomputable def cfg : Cfg := ⟨Tryz.prog, asc tis, asc fns, realOf [], altsOf [] [], asc sigs, asc2 loops, fun _ _ => .no, asc prims⟩
theorem fns_ok : FnsOK Tryz.prog [] fns := ⟨Tryz.func3, Tryz.func4, Tryz.func5, Tryz.func6, Tryz.func7, Tryz.func8, Tryz.func9, Tryz.func10, Tryz.func11, Tryz.func12, Tryz.func13, Tryz.func14, Tryz.func15, Tryz.func16, Tryz.func17, Tryz.func18, Tryz.func19, Tryz.func20, Tryz.func21, Tryz.func22, Tryz.func23, Tryz.func24, Tryz.func25, Tryz.func26, Tryz.func27, Tryz.func28, Tryz.func29, Tryz.func30, Tryz.func31, Tryz.func32, Tryz.func33, Tryz.func34, Tryz.func35, Tryz.func36, Tryz.func37, Tryz.func38, Tryz.func39, Tryz.func40, Tryz.func41, Tryz.func42, Tryz.func43, Tryz.func44, Tryz.func45, Tryz.func46, Tryz.func47, Tryz.func48, Tryz.func49, Tryz.func50, Tryz.func51, Tryz.func52, Tryz.func53, Tryz.func54, Tryz.func55, Tryz.func56, Tryz.func57, Tryz.func58, Tryz.func59, Tryz.func60, Tryz.func61, Tryz.func62, Tryz.func71, Tryz.func72, Tryz.func73, Tryz.func74, Tryz.func75, Tryz.func76, Tryz.func77, Tryz.func78, Tryz.func79, Tryz.func80, Tryz.func81, Tryz.func82, Tryz.func83, Tryz.func84, Tryz.func87, Tryz.func91, Tryz.func92, Tryz.func93, Tryz.func94, Tryz.func98, Tryz.func99, Tryz.func100, Tryz.func101, Tryz.func102, trivial⟩
theorem cfg_ok : cfg.OK := Cfg.OK.of (C := cfg) (tis := tis) (fns := fns) (sigs := sigs) (rl := []) (al := []) rfl rfl rfl rfl rfl (by kernel_rfl) fns_ok (by kernel_rfl) (by kernel_rfl) (by kernel_rfl)
/-- The text of a loop; slots. -/
noncomputable abbrev LA (f : Nat) (F : Func) (p : List Nat) (s : St) := LpAt cfg f (F.body.getD .skip) F.results.toList ((asc sigs f).getD ⟨[], [], []⟩) p s
abbrev vI (k : Nat) (n : Int) : Nat × SV := (k, .v (.int .i64 n))
abbrev vL (k : Nat) (e : Ty) (l : List e.den) : Nat × SV := (k, .v (.list e l))
abbrev vP (k p : Nat) : Nat × SV := (k, .v (.ptr p (.at 0)))
end Go.Proofs.YtfgfhjdgmdccnaaGreat.S
