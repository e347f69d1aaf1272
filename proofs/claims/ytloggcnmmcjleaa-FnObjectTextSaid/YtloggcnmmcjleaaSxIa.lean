import Derived.Test.YtloggcnmmcjleaaPsZa
import Derived.Test.YtloggcnmmcjleaaProg
namespace Go.Proofs.Ytloggcnmmcjleaa.S
open Go.Ps
set_option linter.unusedVariables false
set_option maxRecDepth 100000
set_option maxHeartbeats 0
abbrev Y0 : Ty := (.pair .str (.pair .bool (.pair (.int .i64) .str)))
abbrev Y1 : Ty := (.pair (.int .i64) (.pair (.int .i64) (.pair (.int .i64) (.pair .str (.int .i64)))))
abbrev Y2 : Ty := (.pair (.int .i64) (.pair (.int .i64) (.pair (.int .i64) (.pair (.int .i64) (.int .i64)))))
abbrev D0 : Type := Int × Int × Int × Int × Int
abbrev Y3 : Ty := (.pair (.list (.int .u8)) (.pair (.int .i64) (.int .i64)))
abbrev Y4 : Ty := (.pair .str (.pair (.int .i64) (.pair (.list Y0) (.pair (.list (.pair .str .str)) (.pair (.list Y1) (.list (.pair (.int .i64) .bool)))))))
abbrev Y5 : Ty := (.pair (.int .i64) (.pair (.int .i64) (.pair (.int .i64) (.int .i64))))
abbrev D1 : Type := List Int × Int × Int
abbrev D2 : Type := Int × List Int × Int × Int
abbrev D3 : Type := Int × Int × Int × Int
abbrev D4 : Type := ByteArray × List Int × Int × Int
abbrev D5 : Type := Bool × List Int × Int × Int
abbrev D6 : Type := List D0 × List Int × Int × Int
abbrev D7 : Type := Int × Int × Int × ByteArray × Int
abbrev D8 : Type := ByteArray × Bool × Int × ByteArray
abbrev D9 : Type := ByteArray × ByteArray
abbrev D10 : Type := ByteArray × Int × List D8 × List D9 × List D7 × List (Int × Bool)
abbrev D11 : Type := D10 × List Int × Int × Int
abbrev D12 : Type := List ByteArray × Int
abbrev D13 : Type := (Option (ByteArray × Bool)) × Int
abbrev D14 : Type := ByteArray × ByteArray × Bool
abbrev D15 : Type := Int × ByteArray × Bool
abbrev D16 : Type := Bool × (ByteArray × Bool) × Bool
noncomputable def tis : List (Nat × TI) := [
  (3, ⟨.scalar, 1, 8, [.int .i64 0], (.int .i64), false⟩),
  (4, ⟨.scalar, 1, 1, [.bool false], .bool, false⟩),
  (5, ⟨.scalar, 1, 1, [.int .u8 0], (.int .u8), false⟩),
  (9, ⟨.scalar, 1, 16, [.str (⟨#[]⟩ : ByteArray)], .str, false⟩),
  (22, ⟨(.slice 5), 1, 24, [.nils], (.list (.int .u8)), false⟩),
  (23, ⟨(.slice 54), 1, 24, [.nils], (.list Y0), false⟩),
  (24, ⟨(.slice 58), 1, 24, [.nils], (.list (.pair .str .str)), false⟩),
  (25, ⟨(.slice 38), 1, 24, [.nils], (.list Y1), false⟩),
  (26, ⟨(.slice 61), 1, 24, [.nils], (.list (.pair (.int .i64) .bool)), false⟩),
  (28, ⟨(.struct [(0, 1), (1, 1), (2, 1), (3, 1), (4, 1), (5, 1)] [false, false, false, false, false, false] []), 6, 120, [.str (⟨#[]⟩ : ByteArray), .int .i64 0, .nils, .nils, .nils, .nils], Y4, false⟩),
  (32, ⟨(.slice 9), 1, 24, [.nils], (.list .str), false⟩),
  (38, ⟨(.struct [(0, 1), (1, 1), (2, 1), (3, 1), (4, 1)] [false, false, false, false, false] []), 5, 48, [.int .i64 0, .int .i64 0, .int .i64 0, .str (⟨#[]⟩ : ByteArray), .int .i64 0], Y1, true⟩),
  (54, ⟨(.struct [(0, 1), (1, 1), (2, 1), (3, 1)] [false, false, false, false] []), 4, 48, [.str (⟨#[]⟩ : ByteArray), .bool false, .int .i64 0, .str (⟨#[]⟩ : ByteArray)], Y0, true⟩),
  (58, ⟨(.struct [(0, 1), (1, 1)] [false, false] []), 2, 32, [.str (⟨#[]⟩ : ByteArray), .str (⟨#[]⟩ : ByteArray)], (.pair .str .str), true⟩),
  (61, ⟨(.struct [(0, 1), (1, 1)] [false, false] []), 2, 16, [.int .i64 0, .bool false], (.pair (.int .i64) .bool), true⟩),
  (62, ⟨(.slice 3), 1, 24, [.nils], (.list (.int .i64)), false⟩),
  (66, ⟨.other, 1, 8, [.nilp], (.opt (.pair .str .bool)), false⟩),
  (72, ⟨(.struct [(0, 1), (1, 1)] [false, false] []), 2, 24, [.str (⟨#[]⟩ : ByteArray), .bool false], (.pair .str .bool), false⟩),
  (77, ⟨(.struct [(0, 1), (1, 1), (2, 1)] [false, false, false] []), 3, 40, [.nils, .int .i64 0, .int .i64 0], Y3, false⟩),
  (79, ⟨(.slice 82), 1, 24, [.nils], (.list Y2), false⟩),
  (82, ⟨(.struct [(0, 1), (1, 1), (2, 1), (3, 1), (4, 1)] [false, false, false, false, false] []), 5, 40, [.int .i64 0, .int .i64 0, .int .i64 0, .int .i64 0, .int .i64 0], Y2, false⟩),
  (94, ⟨.scalar, 1, 8, [.int .u64 0], (.int .u64), false⟩),
  (99, ⟨.scalar, 1, 8, [.int .u64 0], (.int .u64), false⟩),
  (103, ⟨(.struct [(0, 1), (1, 1), (2, 1), (3, 1)] [false, false, false, false] []), 4, 32, [.int .i64 0, .int .i64 0, .int .i64 0, .int .i64 0], Y5, false⟩)]
noncomputable def fns : List (Nat × Func) := [(3, Try.f3), (4, Try.f4), (5, Try.f5), (6, Try.f6), (7, Try.f7), (8, Try.f8), (9, Try.f9), (10, Try.f10), (11, Try.f11), (12, Try.f12), (13, Try.f13), (14, Try.f14), (15, Try.f15), (16, Try.f16), (17, Try.f17), (18, Try.f18), (19, Try.f19), (20, Try.f20), (21, Try.f21), (22, Try.f22), (23, Try.f23), (24, Try.f24), (25, Try.f25), (26, Try.f26), (27, Try.f27), (28, Try.f28), (29, Try.f29), (30, Try.f30), (31, Try.f31), (32, Try.f32), (33, Try.f33), (34, Try.f34), (35, Try.f35), (36, Try.f36), (37, Try.f37), (38, Try.f38), (39, Try.f39), (40, Try.f40), (41, Try.f41), (42, Try.f42), (43, Try.f43), (44, Try.f44), (45, Try.f45), (46, Try.f46), (47, Try.f47), (48, Try.f48), (49, Try.f49), (50, Try.f50), (51, Try.f51), (52, Try.f52), (53, Try.f53), (54, Try.f54), (55, Try.f55), (56, Try.f56), (57, Try.f57), (58, Try.f58), (59, Try.f59), (60, Try.f60), (61, Try.f61), (62, Try.f62), (63, Try.f63), (64, Try.f64), (65, Try.f65), (66, Try.f66), (67, Try.f67), (68, Try.f68), (69, Try.f69), (70, Try.f70), (71, Try.f71), (72, Try.f72), (73, Try.f73), (74, Try.f74), (75, Try.f75), (76, Try.f76), (77, Try.f77), (78, Try.f78), (79, Try.f79), (80, Try.f80), (81, Try.f81), (82, Try.f82), (83, Try.f83), (84, Try.f84), (85, Try.f85), (86, Try.f86), (87, Try.f87), (88, Try.f88), (89, Try.f89), (90, Try.f90), (91, Try.f91), (92, Try.f92), (93, Try.f93), (94, Try.f94), (95, Try.f95)]
noncomputable def sigs : List (Nat × Sig) := [
  (3, ⟨[.val (.list (.int .u8)), .val (.list (.int .u8))], [(.bool, false)], [.no]⟩),
  (4, ⟨[.val (.list (.int .u8)), .val (.list (.int .u8))], [(.bool, false)], [.no]⟩),
  (5, ⟨[.val (.list (.int .u8))], [(Y4, true)], [(.pair .no (.pair .no (.pair (.own 54 .no) (.pair (.own 58 .no) (.pair (.own 38 .no) (.own 61 .no))))))]⟩),
  (6, ⟨[.val Y4], [((.int .i64), false), ((.int .i64), false)], [.no, .no]⟩),
  (7, ⟨[.val Y4], [((.list .str), false), ((.int .i64), false)], [(.own 9 .no), .no]⟩),
  (8, ⟨[.val Y4], [((.list .str), false), ((.int .i64), false)], [(.own 9 .no), .no]⟩),
  (9, ⟨[.val Y4], [(.bool, false)], [.no]⟩),
  (10, ⟨[.val Y4, .val (.int .i64)], [((.int .i64), false), ((.int .i64), false)], [.no, .no]⟩),
  (11, ⟨[.val Y4, .val (.int .i64)], [((.int .i64), false), ((.int .i64), false)], [.no, .no]⟩),
  (12, ⟨[.val Y4, .val Y4], [(.bool, false)], [.no]⟩),
  (13, ⟨[.val Y4], [(.str, false), ((.int .i64), false)], [.no, .no]⟩),
  (14, ⟨[.val Y4], [(.str, false), ((.int .i64), false)], [.no, .no]⟩),
  (15, ⟨[.val .str], [(Y4, true), ((.int .i64), false)], [(.pair .no (.pair .no (.pair (.own 54 .no) (.pair (.own 58 .no) (.pair (.own 38 .no) (.own 61 .no)))))), .no]⟩),
  (16, ⟨[.val (.list (.int .u8)), .val (.int .i64), .val (.int .i64)], [((.int .i64), false)], [.no]⟩),
  (17, ⟨[.val .str], [((.int .i64), false)], [.no]⟩),
  (18, ⟨[.val (.int .i64), .val (.int .i64)], [(.str, false), ((.int .i64), false)], [.no, .no]⟩),
  (19, ⟨[.val (.list (.int .u8))], [((.opt Y3), false)], [.box]⟩),
  (20, ⟨[.var Y3 .no], [(Y4, true)], [(.pair .no (.pair .no (.pair (.own 54 .no) (.pair (.own 58 .no) (.pair (.own 38 .no) (.own 61 .no))))))]⟩),
  (21, ⟨[.val Y4], [(.bool, false)], [.no]⟩),
  (22, ⟨[], [(Y4, true)], [(.pair .no (.pair .no (.pair (.own 54 .no) (.pair (.own 58 .no) (.pair (.own 38 .no) (.own 61 .no))))))]⟩),
  (23, ⟨[.val .str], [(.bool, false)], [.no]⟩),
  (24, ⟨[.val (.int .i64), .val (.int .i64), .val (.int .i64)], [(.bool, false)], [.no]⟩),
  (25, ⟨[.val Y4, .val .str, .val (.int .i64)], [((.int .i64), false)], [.no]⟩),
  (26, ⟨[.val (.int .i64)], [(.bool, false)], [.no]⟩),
  (27, ⟨[.val .str], [(.bool, false)], [.no]⟩),
  (28, ⟨[.val Y4, .val (.int .i64)], [((.int .i64), false)], [.no]⟩),
  (29, ⟨[.val Y4], [((.list (.int .i64)), false)], [(.own 3 .no)]⟩),
  (30, ⟨[.val Y4, .val (.int .i64)], [((.int .i64), false)], [.no]⟩),
  (31, ⟨[.val Y4, .val Y4], [(.bool, false)], [.no]⟩),
  (32, ⟨[.val Y4], [(.str, false)], [.no]⟩),
  (33, ⟨[.val Y4], [(.str, false)], [.no]⟩),
  (34, ⟨[.val .str], [(.bool, false)], [.no]⟩),
  (35, ⟨[.val .str, .val .str], [((.opt (.pair .str .bool)), false), ((.int .i64), false)], [.box, .no]⟩),
  (36, ⟨[.dvar (.pair .str .bool) .no, .var .bool .no], [(.bool, false)], [.no]⟩),
  (37, ⟨[.var (.pair .str .bool) .no, .val (.int .i64)], [((.int .i64), false)], [.no]⟩),
  (38, ⟨[.var (.pair .str .bool) .no, .val (.int .i64)], [(.str, false)], [.no]⟩),
  (39, ⟨[.var (.pair .str .bool) .no, .val (.int .i64)], [(.str, false)], [.no]⟩),
  (40, ⟨[.val (.int .i64), .val (.int .i64)], [((.int .i64), false)], [.no]⟩),
  (41, ⟨[.ro (.pair .str .bool)], [((.int .i64), false)], [.no]⟩),
  (42, ⟨[.val .str], [((.int .i64), false)], [.no]⟩),
  (43, ⟨[.val (.int .i64)], [(.bool, false)], [.no]⟩),
  (44, ⟨[.val (.int .i64), .val (.int .i64)], [(.str, false)], [.no]⟩),
  (45, ⟨[.var Y3 .no, .val (.int .i64), .val (.list .str), .val (.list .str)], [(Y4, true)], [(.pair .no (.pair .no (.pair (.own 54 .no) (.pair (.own 58 .no) (.pair (.own 38 .no) (.own 61 .no))))))]⟩),
  (46, ⟨[.var Y3 .no, .val (.int .i64)], [((.int .i64), false)], [.no]⟩),
  (47, ⟨[.val Y4], [((.int .i64), false), ((.int .i64), false)], [.no, .no]⟩),
  (48, ⟨[.val (.int .i64)], [((.list Y2), false)], [(.own 82 .no)]⟩),
  (49, ⟨[.val (.list Y2)], [(.str, false)], [.no]⟩),
  (50, ⟨[.val (.int .i64)], [((.list Y2), false)], [(.own 82 .no)]⟩),
  (51, ⟨[.val (.int .i64), .val (.int .i64)], [(.str, false)], [.no]⟩),
  (52, ⟨[.val (.int .u8)], [(.bool, false)], [.no]⟩),
  (53, ⟨[.val (.int .u8)], [(.bool, false)], [.no]⟩),
  (54, ⟨[.val (.list .str), .val .str], [(.bool, false)], [.no]⟩),
  (55, ⟨[.val Y4, .val (.int .i64)], [((.list .str), false)], [.no]⟩),
  (56, ⟨[.val .str], [(.bool, false)], [.no]⟩),
  (57, ⟨[.val (.list Y0), .val (.list Y0)], [(.bool, false)], [.no]⟩),
  (58, ⟨[.val (.list (.pair .str .str)), .val (.list (.pair .str .str))], [(.bool, false)], [.no]⟩),
  (59, ⟨[.val (.list Y1), .val (.list Y1)], [(.bool, false)], [.no]⟩),
  (60, ⟨[.val (.list (.pair (.int .i64) .bool)), .val (.list (.pair (.int .i64) .bool))], [(.bool, false)], [.no]⟩),
  (61, ⟨[.val .str], [(.str, false)], [.no]⟩),
  (62, ⟨[.val .bool], [((.int .i64), false)], [.no]⟩),
  (63, ⟨[.val .str], [(.str, false)], [.no]⟩),
  (64, ⟨[.val .str], [(.str, false)], [.no]⟩),
  (65, ⟨[.val .bool], [((.int .i64), false)], [.no]⟩),
  (66, ⟨[.val .str], [((.int .i64), false)], [.no]⟩),
  (67, ⟨[.val .str, .val .str], [(.bool, false)], [.no]⟩),
  (68, ⟨[.val .str], [((.int .i64), false)], [.no]⟩),
  (69, ⟨[.var Y3 .no, .val (.list .str)], [(.str, false)], [.no]⟩),
  (70, ⟨[.var Y3 .no, .val (.int .i64)], [(.str, false)], [.no]⟩),
  (71, ⟨[.var Y3 .no, .val (.int .i64)], [(.bool, false)], [.no]⟩),
  (72, ⟨[.val (.list .str), .val .str], [(.bool, false)], [.no]⟩),
  (73, ⟨[.var Y3 .no], [((.int .i64), false)], [.no]⟩),
  (74, ⟨[.var Y3 .no, .val (.int .i64), .val (.int .i64), .val (.int .i64), .val (.list (.int .i64)), .val (.list (.int .i64))], [((.list Y2), false)], [(.own 82 .no)]⟩),
  (75, ⟨[.val (.list Y1)], [((.list Y1), false)], [(.own 38 .no)]⟩),
  (76, ⟨[.var Y3 .no], [((.int .i64), false)], [.no]⟩),
  (77, ⟨[.val .str], [(.bool, false)], [.no]⟩),
  (78, ⟨[.val (.int .i64), .val (.int .i64), .val (.int .i64)], [(.bool, false)], [.no]⟩),
  (79, ⟨[.val Y4], [((.int .i64), false), ((.int .i64), false)], [.no, .no]⟩),
  (80, ⟨[.val Y4], [((.int .i64), false), ((.int .i64), false)], [.no, .no]⟩),
  (81, ⟨[.val Y4], [((.int .i64), false), ((.int .i64), false)], [.no, .no]⟩),
  (82, ⟨[.val Y4], [((.int .i64), false), ((.int .i64), false)], [.no, .no]⟩),
  (83, ⟨[.val Y2], [((.int .i64), false)], [.no]⟩),
  (84, ⟨[.val (.list .str), .val .str], [((.int .i64), false)], [.no]⟩),
  (85, ⟨[.val .str, .val .str], [(.bool, false)], [.no]⟩),
  (86, ⟨[.var Y3 .no, .val (.int .i64), .val (.int .i64), .val (.int .i64), .val (.list (.int .i64)), .val (.list (.int .i64))], [((.list Y2), false)], [(.own 82 .no)]⟩),
  (87, ⟨[.val (.list (.int .i64)), .val (.list (.int .i64))], [(.bool, false)], [.no]⟩),
  (88, ⟨[.val (.int .u8)], [(.bool, false)], [.no]⟩),
  (89, ⟨[.val (.int .u8)], [(.bool, false)], [.no]⟩),
  (90, ⟨[.val (.int .i64)], [(.bool, false)], [.no]⟩),
  (91, ⟨[.val .str], [(.bool, false)], [.no]⟩),
  (92, ⟨[.val (.int .i64)], [(Y5, true)], [.no]⟩),
  (93, ⟨[.val (.int .i64), .val (.int .i64), .val (.int .i64), .val (.int .i64)], [((.int .i64), false)], [.no]⟩),
  (94, ⟨[.val (.int .i64), .val (.int .i64)], [((.int .i64), false)], [.no]⟩),
  (95, ⟨[.var Y3 .no], [((.int .i64), false)], [.no]⟩)]
noncomputable def loops : List (Nat × List (Nat × List (Nat × LK))) := [
  (3, [(10, [(5, .box Y4 (.pair .no (.pair .no (.pair (.own 54 .no) (.pair (.own 58 .no) (.pair (.own 38 .no) (.own 61 .no))))))), (12, .val (.int .i64) .no)])]),
  (5, [(3, [(2, .box Y4 (.pair .no (.pair .no (.pair (.own 54 .no) (.pair (.own 58 .no) (.pair (.own 38 .no) (.own 61 .no))))))), (3, .box Y3 .no), (4, .val (.int .i64) .no)])]),
  (6, [(10, [(1, .box Y4 .no), (53, .val (.list Y0) .no), (54, .val (.int .i64) .no), (55, .val (.int .i64) .no)]), (21, [(1, .box Y4 .no), (84, .val (.list (.pair .str .str)) .no), (85, .val (.int .i64) .no), (86, .val (.int .i64) .no)]), (30, [(1, .box Y4 .no), (122, .val (.int .i64) .no), (123, .val (.int .i64) .no)]), (37, [(1, .box Y4 .no), (135, .val (.list (.pair (.int .i64) .bool)) .no), (136, .val (.int .i64) .no), (137, .val (.int .i64) .no)])]),
  (7, [(5, [(1, .box Y4 .no), (4, .val (.list .str) (.own 9 .no)), (13, .val (.list Y0) .no), (14, .val (.int .i64) .no), (15, .val (.int .i64) .no)]), (11, [(4, .val (.list .str) (.own 9 .no)), (29, .val (.list (.pair .str .str)) .no), (30, .val (.int .i64) .no), (31, .val (.int .i64) .no)])]),
  (8, [(5, [(4, .val (.list .str) (.own 9 .no)), (11, .val (.list Y0) .no), (12, .val (.int .i64) .no), (13, .val (.int .i64) .no)])]),
  (15, [(10, [(2, .box Y4 (.pair .no (.pair .no (.pair (.own 54 .no) (.pair (.own 58 .no) (.pair (.own 38 .no) (.own 61 .no))))))), (4, .box (.opt (.pair .str .bool)) .box), (6, .box .bool .no), (7, .clos [4, 6]), (8, .box Y4 (.pair .no (.pair .no (.pair (.own 54 .no) (.pair (.own 58 .no) (.pair (.own 38 .no) (.own 61 .no))))))), (9, .val (.int .i64) .no)]), (16, [(2, .box Y4 (.pair .no (.pair .no (.pair (.own 54 .no) (.pair (.own 58 .no) (.pair (.own 38 .no) (.own 61 .no))))))), (4, .box (.opt (.pair .str .bool)) .box), (6, .box .bool .no), (7, .clos [4, 6]), (8, .box Y4 (.pair .no (.pair .no (.pair (.own 54 .no) (.pair (.own 58 .no) (.pair (.own 38 .no) (.own 61 .no))))))), (11, .val (.int .i64) .no)]), (20, [(2, .box Y4 (.pair .no (.pair .no (.pair (.own 54 .no) (.pair (.own 58 .no) (.pair (.own 38 .no) (.own 61 .no))))))), (4, .box (.opt (.pair .str .bool)) .box), (6, .box .bool .no), (7, .clos [4, 6]), (8, .box Y4 (.pair .no (.pair .no (.pair (.own 54 .no) (.pair (.own 58 .no) (.pair (.own 38 .no) (.own 61 .no))))))), (12, .val (.int .i64) .no)]), (24, [(2, .box Y4 (.pair .no (.pair .no (.pair (.own 54 .no) (.pair (.own 58 .no) (.pair (.own 38 .no) (.own 61 .no))))))), (4, .box (.opt (.pair .str .bool)) .box), (6, .box .bool .no), (7, .clos [4, 6]), (8, .box Y4 (.pair .no (.pair .no (.pair (.own 54 .no) (.pair (.own 58 .no) (.pair (.own 38 .no) (.own 61 .no))))))), (13, .val (.int .i64) .no)])]),
  (23, [(4, [(0, .val .str .no), (3, .val (.int .i64) .no)])]),
  (29, [(3, [(1, .box Y4 .no), (3, .val (.list (.int .i64)) (.own 3 .no)), (9, .val (.list Y0) .no), (10, .val (.int .i64) .no), (11, .val (.int .i64) .no)]), (8, [(3, .val (.list (.int .i64)) (.own 3 .no)), (24, .val (.list (.pair .str .str)) .no), (25, .val (.int .i64) .no), (26, .val (.int .i64) .no)])]),
  (32, [(3, [(1, .box Y4 .no), (3, .val .str .no), (26, .val (.list Y0) .no), (27, .val (.int .i64) .no), (28, .val (.int .i64) .no)]), (9, [(1, .box Y4 .no), (3, .val .str .no), (63, .val (.list (.pair .str .str)) .no), (64, .val (.int .i64) .no), (65, .val (.int .i64) .no)]), (15, [(1, .box Y4 .no), (3, .val .str .no), (86, .val (.list Y1) .no), (87, .val (.int .i64) .no), (88, .val (.int .i64) .no)]), (21, [(3, .val .str .no), (121, .val (.list (.pair (.int .i64) .bool)) .no), (122, .val (.int .i64) .no), (123, .val (.int .i64) .no)])]),
  (33, [(3, [(1, .box Y4 .no), (3, .val .str .no), (4, .val (.int .i64) .no)]), (9, [(1, .box Y4 .no), (3, .val .str .no), (6, .val (.int .i64) .no)]), (14, [(1, .box Y4 .no), (3, .val .str .no), (7, .val (.int .i64) .no)]), (20, [(1, .box Y4 .no), (3, .val .str .no), (9, .val (.int .i64) .no)])]),
  (42, [(3, [(0, .val .str .no), (3, .val (.int .i64) .no), (4, .val (.int .i64) .no)])]),
  (44, [(2, [(0, .val (.int .i64) .no), (1, .val (.int .i64) .no), (5, .val (.list (.int .u8)) (.own 5 .no))])]),
  (45, [(3, [(0, .par Y3 .no), (2, .val (.list .str) .no), (3, .val (.list .str) .no), (8, .box Y4 (.pair .no (.pair .no (.pair (.own 54 .no) (.pair (.own 58 .no) (.pair (.own 38 .no) (.own 61 .no))))))), (9, .box Y4 (.pair .no (.pair .no (.pair (.own 54 .no) (.pair (.own 58 .no) (.pair (.own 38 .no) (.own 61 .no))))))), (10, .val (.int .i64) .no)]), (8, [(0, .par Y3 .no), (2, .val (.list .str) .no), (3, .val (.list .str) .no), (8, .box Y4 (.pair .no (.pair .no (.pair (.own 54 .no) (.pair (.own 58 .no) (.pair (.own 38 .no) (.own 61 .no))))))), (9, .box Y4 (.pair .no (.pair .no (.pair (.own 54 .no) (.pair (.own 58 .no) (.pair (.own 38 .no) (.own 61 .no))))))), (11, .val (.list .str) (.own 9 .no)), (12, .val (.int .i64) .no)]), (19, [(0, .par Y3 .no), (8, .box Y4 (.pair .no (.pair .no (.pair (.own 54 .no) (.pair (.own 58 .no) (.pair (.own 38 .no) (.own 61 .no))))))), (9, .box Y4 (.pair .no (.pair .no (.pair (.own 54 .no) (.pair (.own 58 .no) (.pair (.own 38 .no) (.own 61 .no))))))), (14, .val (.list .str) (.own 9 .no)), (15, .val (.list .str) (.own 9 .no)), (16, .val (.int .i64) .no)]), (23, [(0, .par Y3 .no), (8, .box Y4 (.pair .no (.pair .no (.pair (.own 54 .no) (.pair (.own 58 .no) (.pair (.own 38 .no) (.own 61 .no))))))), (9, .box Y4 (.pair .no (.pair .no (.pair (.own 54 .no) (.pair (.own 58 .no) (.pair (.own 38 .no) (.own 61 .no))))))), (14, .val (.list .str) (.own 9 .no)), (15, .val (.list .str) .no), (17, .val (.int .i64) .no)]), (27, [(0, .par Y3 .no), (8, .box Y4 (.pair .no (.pair .no (.pair (.own 54 .no) (.pair (.own 58 .no) (.pair (.own 38 .no) (.own 61 .no))))))), (9, .box Y4 (.pair .no (.pair .no (.pair (.own 54 .no) (.pair (.own 58 .no) (.pair (.own 38 .no) (.own 61 .no))))))), (14, .val (.list .str) (.own 9 .no)), (15, .val (.list .str) .no), (17, .val (.int .i64) .no), (18, .val (.list (.int .i64)) (.own 3 .no)), (19, .val (.int .i64) .no)]), (45, [(0, .par Y3 .no), (8, .box Y4 (.pair .no (.pair .no (.pair (.own 54 .no) (.pair (.own 58 .no) (.pair (.own 38 .no) (.own 61 .no))))))), (9, .box Y4 (.pair .no (.pair .no (.pair (.own 54 .no) (.pair (.own 58 .no) (.pair (.own 38 .no) (.own 61 .no))))))), (14, .val (.list .str) (.own 9 .no)), (15, .val (.list .str) .no), (17, .val (.int .i64) .no), (20, .val (.int .i64) .no), (21, .val (.list Y2) (.own 82 .no)), (26, .val (.int .i64) .no)])]),
  (49, [(3, [(0, .val (.list Y2) .no), (3, .val .str .no), (4, .val (.int .i64) .no)])]),
  (51, [(3, [(0, .val (.int .i64) .no), (1, .val (.int .i64) .no), (5, .val (.list (.int .u8)) (.own 5 .no)), (6, .val (.int .i64) .no)])]),
  (55, [(3, [(1, .val (.int .i64) .no), (2, .box Y4 .no), (5, .val (.list .str) (.own 9 .no)), (11, .val (.list Y0) .no), (12, .val (.int .i64) .no), (13, .val (.int .i64) .no)]), (8, [(1, .val (.int .i64) .no), (5, .val (.list .str) (.own 9 .no)), (24, .val (.list (.pair .str .str)) .no), (25, .val (.int .i64) .no), (26, .val (.int .i64) .no)])]),
  (57, [(4, [(0, .val (.list Y0) .no), (1, .val (.list Y0) .no), (12, .val (.int .i64) .no), (13, .val (.int .i64) .no)])]),
  (58, [(4, [(0, .val (.list (.pair .str .str)) .no), (1, .val (.list (.pair .str .str)) .no), (12, .val (.int .i64) .no), (13, .val (.int .i64) .no)])]),
  (59, [(4, [(0, .val (.list Y1) .no), (1, .val (.list Y1) .no), (12, .val (.int .i64) .no), (13, .val (.int .i64) .no)])]),
  (60, [(4, [(0, .val (.list (.pair (.int .i64) .bool)) .no), (1, .val (.list (.pair (.int .i64) .bool)) .no), (12, .val (.int .i64) .no), (13, .val (.int .i64) .no)])]),
  (66, [(3, [(0, .val .str .no), (3, .val (.int .i64) .no), (4, .val (.int .i64) .no)])]),
  (68, [(3, [(0, .val .str .no), (3, .val (.int .i64) .no), (4, .val (.int .i64) .no)])]),
  (70, [(3, [(0, .par Y3 .no), (1, .val (.int .i64) .no), (5, .val (.list (.int .u8)) (.own 5 .no)), (6, .val (.int .i64) .no)])]),
  (72, [(2, [(0, .val (.list .str) .no), (1, .val .str .no), (5, .val (.int .i64) .no)])]),
  (74, [(3, [(0, .par Y3 .no), (1, .val (.int .i64) .no), (2, .val (.int .i64) .no), (3, .val (.int .i64) .no), (4, .val (.list (.int .i64)) .no), (5, .val (.list (.int .i64)) .no), (13, .val (.list Y2) (.own 82 .no)), (14, .val (.int .i64) .no)])]),
  (75, [(3, [(0, .val (.list Y1) .no), (3, .val (.list Y1) (.own 38 .no)), (4, .val (.int .i64) .no)]), (6, [(0, .val (.list Y1) .no), (3, .val (.list Y1) (.own 38 .no)), (4, .val (.int .i64) .no), (5, .val (.int .i64) .no)])]),
  (77, [(4, [(0, .val .str .no), (3, .val (.int .i64) .no)])]),
  (79, [(2, [(1, .box Y4 .no), (4, .val (.int .i64) .no)]), (8, [(1, .box Y4 .no), (4, .val (.int .i64) .no), (5, .box Y0 .no), (6, .val (.int .i64) .no)])]),
  (80, [(2, [(1, .box Y4 .no), (4, .val (.int .i64) .no)]), (8, [(1, .box Y4 .no), (4, .val (.int .i64) .no), (5, .box (.pair .str .str) .no), (6, .val (.int .i64) .no)]), (13, [(1, .box Y4 .no), (4, .val (.int .i64) .no), (5, .box (.pair .str .str) .no), (7, .val (.int .i64) .no)])]),
  (81, [(2, [(1, .box Y4 .no), (4, .val (.int .i64) .no)])]),
  (82, [(2, [(1, .box Y4 .no), (4, .val (.int .i64) .no)])]),
  (83, [(10, [(1, .box Y2 .no), (4, .val (.int .i64) .no), (5, .val (.int .i64) .no)]), (30, [(1, .box Y2 .no), (4, .val (.int .i64) .no), (7, .val (.int .i64) .no)]), (46, [(1, .box Y2 .no), (4, .val (.int .i64) .no), (9, .val (.int .i64) .no)])]),
  (84, [(2, [(0, .val (.list .str) .no), (1, .val .str .no), (7, .val (.int .i64) .no), (8, .val (.int .i64) .no)])]),
  (87, [(2, [(0, .val (.list (.int .i64)) .no), (1, .val (.list (.int .i64)) .no), (5, .val (.int .i64) .no)])]),
  (93, [(3, [(0, .val (.int .i64) .no), (1, .val (.int .i64) .no), (2, .val (.int .i64) .no), (3, .val (.int .i64) .no), (9, .val (.int .i64) .no), (10, .val (.int .i64) .no)])])]
noncomputable def prims : List (Nat × (List SV → Option (List PV))) := []
noncomputable def elfs : List (Nat × List (Nat × Fl)) := [(25, [(6656, (.own 0 .no)), (7168, .box)]), (79, [(19712, .box)])]
noncomputable def cfg : Cfg := ⟨Try.prog, asc tis, asc fns, realOf [], altsOf [] [], asc sigs, asc2 loops, fun t i => (asc2 elfs t i).getD .no, asc prims⟩
theorem fns_ok : FnsOK Try.prog [] fns := ⟨Try.func3, Try.func4, Try.func5, Try.func6, Try.func7, Try.func8, Try.func9, Try.func10, Try.func11, Try.func12, Try.func13, Try.func14, Try.func15, Try.func16, Try.func17, Try.func18, Try.func19, Try.func20, Try.func21, Try.func22, Try.func23, Try.func24, Try.func25, Try.func26, Try.func27, Try.func28, Try.func29, Try.func30, Try.func31, Try.func32, Try.func33, Try.func34, Try.func35, Try.func36, Try.func37, Try.func38, Try.func39, Try.func40, Try.func41, Try.func42, Try.func43, Try.func44, Try.func45, Try.func46, Try.func47, Try.func48, Try.func49, Try.func50, Try.func51, Try.func52, Try.func53, Try.func54, Try.func55, Try.func56, Try.func57, Try.func58, Try.func59, Try.func60, Try.func61, Try.func62, Try.func63, Try.func64, Try.func65, Try.func66, Try.func67, Try.func68, Try.func69, Try.func70, Try.func71, Try.func72, Try.func73, Try.func74, Try.func75, Try.func76, Try.func77, Try.func78, Try.func79, Try.func80, Try.func81, Try.func82, Try.func83, Try.func84, Try.func85, Try.func86, Try.func87, Try.func88, Try.func89, Try.func90, Try.func91, Try.func92, Try.func93, Try.func94, Try.func95, trivial⟩
theorem cfg_ok : cfg.OK := Cfg.OK.of (C := cfg) (tis := tis) (fns := fns) (sigs := sigs) (rl := []) (al := []) rfl rfl rfl rfl rfl (by kernel_rfl) fns_ok (by kernel_rfl) (by kernel_rfl) (by kernel_rfl)
/-- The text of a loop; slots. -/
noncomputable abbrev LA (f : Nat) (F : Func) (p : List Nat) (s : St) := LpAt cfg f (F.body.getD .skip) F.results.toList ((asc sigs f).getD ⟨[], [], []⟩) p s
abbrev vI (k : Nat) (n : Int) : Nat × SV := (k, .v (.int .i64 n))
abbrev vL (k : Nat) (e : Ty) (l : List e.den) : Nat × SV := (k, .v (.list e l))
abbrev vP (k p : Nat) : Nat × SV := (k, .v (.ptr p (.at 0)))
end Go.Proofs.Ytloggcnmmcjleaa.S
