import Derived.Test.YthkkaoggieganaaPsZa
import Derived.Test.YthkkaoggieganaaProg
namespace Go.Proofs.Ythkkaoggieganaa.S
open Go.Ps
set_option linter.unusedVariables false
set_option maxRecDepth 100000
set_option maxHeartbeats 0
abbrev Y0 : Ty := (.pair .str (.pair (.int .i64) (.pair (.int .i64) (.pair (.int .i64) (.int .i64)))))
abbrev Y1 : Ty := (.pair (.int .i64) (.pair (.int .i64) (.pair (.int .i64) (.pair (.int .i64) (.int .i64)))))
abbrev Y2 : Ty := (.pair (.int .i64) (.pair (.int .i64) (.int .i64)))
abbrev D0 : Type := Int × Int × Int × Int × Int
abbrev Y3 : Ty := (.pair (.list (.int .u8)) (.pair (.int .i64) (.int .i64)))
abbrev Y4 : Ty := (.pair .str (.pair .str (.list Y0)))
abbrev Y5 : Ty := (.pair (.int .i64) (.int .i64))
abbrev Y6 : Ty := (.pair (.int .i64) (.pair (.int .i64) (.pair (.int .i64) (.int .i64))))
abbrev Y7 : Ty := (.pair (.list Y1) (.pair (.int .i64) (.pair (.int .i64) (.pair (.list (.int .i64)) (.list (.int .i64))))))
abbrev D1 : Type := List Int × Int × Int
abbrev D2 : Type := Int × List Int × Int × Int
abbrev D3 : Type := List D0 × List Int × Int × Int
abbrev D4 : Type := Int × Int × Int × Int
abbrev D5 : Type := ByteArray × Int × Int × Int × Int
abbrev D6 : Type := ByteArray × ByteArray × List D5
abbrev D7 : Type := D6 × List Int × Int × Int
abbrev D8 : Type := Bool × Bool × Bool
abbrev D9 : Type := List D0 × Int × Bool
abbrev D10 : Type := List D0 × Int × Int × List Int × List Int
abbrev D11 : Type := (Option (ByteArray × Bool)) × Int
abbrev D12 : Type := ByteArray × ByteArray × Bool
abbrev D13 : Type := Int × ByteArray × Bool
noncomputable def tis : List (Nat × TI) := [
  (3, ⟨.scalar, 1, 8, [.int .i64 0], (.int .i64), false⟩),
  (4, ⟨.scalar, 1, 1, [.bool false], .bool, false⟩),
  (5, ⟨.scalar, 1, 1, [.int .u8 0], (.int .u8), false⟩),
  (9, ⟨.scalar, 1, 16, [.str (⟨#[]⟩ : ByteArray)], .str, false⟩),
  (22, ⟨(.slice 5), 1, 24, [.nils], (.list (.int .u8)), false⟩),
  (23, ⟨(.slice 33), 1, 24, [.nils], (.list Y0), false⟩),
  (25, ⟨(.struct [(0, 1), (1, 1), (2, 1)] [false, false, false] []), 3, 56, [.str (⟨#[]⟩ : ByteArray), .str (⟨#[]⟩ : ByteArray), .nils], Y4, false⟩),
  (33, ⟨(.struct [(0, 1), (1, 1), (2, 1), (3, 1), (4, 1)] [false, false, false, false, false] []), 5, 48, [.str (⟨#[]⟩ : ByteArray), .int .i64 0, .int .i64 0, .int .i64 0, .int .i64 0], Y0, false⟩),
  (51, ⟨(.struct [(0, 1), (1, 1)] [false, false] []), 2, 24, [.str (⟨#[]⟩ : ByteArray), .bool false], (.pair .str .bool), false⟩),
  (54, ⟨(.struct [(0, 1), (1, 1)] [false, false] []), 2, 16, [.int .i64 0, .int .i64 0], Y5, false⟩),
  (57, ⟨(.slice 3), 1, 24, [.nils], (.list (.int .i64)), false⟩),
  (62, ⟨(.struct [(0, 1), (1, 1), (2, 1)] [false, false, false] []), 3, 40, [.nils, .int .i64 0, .int .i64 0], Y3, false⟩),
  (63, ⟨(.slice 64), 1, 24, [.nils], (.list (.list Y1)), false⟩),
  (64, ⟨(.slice 70), 1, 24, [.nils], (.list Y1), false⟩),
  (66, ⟨(.slice 9), 1, 24, [.nils], (.list .str), false⟩),
  (70, ⟨(.struct [(0, 1), (1, 1), (2, 1), (3, 1), (4, 1)] [false, false, false, false, false] []), 5, 40, [.int .i64 0, .int .i64 0, .int .i64 0, .int .i64 0, .int .i64 0], Y1, true⟩),
  (71, ⟨.scalar, 1, 8, [.int .u64 0], (.int .u64), false⟩),
  (81, ⟨(.struct [(0, 1), (1, 1), (2, 1), (3, 1), (4, 1)] [false, false, false, false, false] []), 5, 88, [.nils, .int .i64 0, .int .i64 0, .nils, .nils], Y7, false⟩),
  (84, ⟨.scalar, 1, 8, [.int .u64 0], (.int .u64), false⟩),
  (95, ⟨(.struct [(0, 1), (1, 1), (2, 1), (3, 1)] [false, false, false, false] []), 4, 32, [.int .i64 0, .int .i64 0, .int .i64 0, .int .i64 0], Y6, false⟩),
  (102, ⟨(.slice 105), 1, 24, [.nils], (.list Y0), false⟩),
  (105, ⟨(.struct [(0, 1), (1, 4)] [false, true] []), 5, 48, [.str (⟨#[]⟩ : ByteArray), .int .i64 0, .int .i64 0, .int .i64 0, .int .i64 0], Y0, false⟩),
  (107, ⟨(.slice 110), 1, 24, [.nils], (.list Y2), false⟩),
  (110, ⟨(.struct [(0, 1), (1, 1), (2, 1)] [false, false, false] []), 3, 24, [.int .i64 0, .int .i64 0, .int .i64 0], Y2, false⟩)]
noncomputable def fns : List (Nat × Func) := [(3, Try.f3), (4, Try.f4), (5, Try.f5), (6, Try.f6), (7, Try.f7), (8, Try.f8), (9, Try.f9), (10, Try.f10), (11, Try.f11), (12, Try.f12), (13, Try.f13), (14, Try.f14), (15, Try.f15), (16, Try.f16), (17, Try.f17), (18, Try.f18), (19, Try.f19), (20, Try.f20), (21, Try.f21), (22, Try.f22), (23, Try.f23), (24, Try.f24), (25, Try.f25), (26, Try.f26), (27, Try.f27), (28, Try.f28), (29, Try.f29), (30, Try.f30), (31, Try.f31), (32, Try.f32), (33, Try.f33), (34, Try.f34), (35, Try.f35), (36, Try.f36), (37, Try.f37), (38, Try.f38), (39, Try.f39), (40, Try.f40), (41, Try.f41), (42, Try.f42), (43, Try.f43), (44, Try.f44), (45, Try.f45), (46, Try.f46), (47, Try.f47), (48, Try.f48), (49, Try.f49), (50, Try.f50), (51, Try.f51), (52, Try.f52), (53, Try.f53), (54, Try.f54), (55, Try.f55), (56, Try.f56), (57, Try.f57), (58, Try.f58), (59, Try.f59), (60, Try.f60), (61, Try.f61), (62, Try.f62), (63, Try.f63), (64, Try.f64), (65, Try.f65), (66, Try.f66), (67, Try.f67), (68, Try.f68), (69, Try.f69), (70, Try.f70), (71, Try.f71), (72, Try.f72), (73, Try.f73), (74, Try.f74), (75, Try.f75), (76, Try.f76), (77, Try.f77), (78, Try.f78), (79, Try.f79), (80, Try.f80), (81, Try.f81), (82, Try.f82), (83, Try.f83), (84, Try.f84), (85, Try.f85), (86, Try.f86), (87, Try.f87), (88, Try.f88), (89, Try.f89), (90, Try.f90), (91, Try.f91), (92, Try.f92), (93, Try.f93), (94, Try.f94), (95, Try.f95), (96, Try.f96), (97, Try.f97), (98, Try.f98), (99, Try.f99), (100, Try.f100), (101, Try.f101)]
noncomputable def sigs : List (Nat × Sig) := [
  (3, ⟨[.val (.list (.int .u8)), .val (.list (.int .u8))], [(.bool, false)], [.no]⟩),
  (4, ⟨[.val (.list (.int .u8))], [(Y4, true)], [(.pair .no (.pair .no (.own 33 .no)))]⟩),
  (5, ⟨[.val Y4], [(.str, false), ((.int .i64), false)], [.no, .no]⟩),
  (6, ⟨[.val Y4], [(.str, false), ((.int .i64), false)], [.no, .no]⟩),
  (7, ⟨[.val .str], [(Y4, true), ((.int .i64), false)], [(.pair .no (.pair .no (.own 33 .no))), .no]⟩),
  (8, ⟨[.val (.list (.int .u8)), .val (.int .i64), .val (.int .i64)], [((.int .i64), false)], [.no]⟩),
  (9, ⟨[.val Y4], [((.int .i64), false), ((.int .i64), false), ((.int .i64), false)], [.no, .no, .no]⟩),
  (10, ⟨[.val (.list (.int .u8))], [((.opt Y3), false)], [.box]⟩),
  (11, ⟨[.var Y3 .no], [(Y4, true)], [(.pair .no (.pair .no (.own 33 .no)))]⟩),
  (12, ⟨[.val Y4], [(.bool, false)], [.no]⟩),
  (13, ⟨[.val (.int .i64), .val (.int .i64)], [(.str, false)], [.no]⟩),
  (14, ⟨[.val .str], [(.str, false)], [.no]⟩),
  (15, ⟨[.val Y4], [(.bool, false)], [.no]⟩),
  (16, ⟨[.val Y4], [(.str, false)], [.no]⟩),
  (17, ⟨[.val .str], [(.bool, false)], [.no]⟩),
  (18, ⟨[.val .str, .val .str], [((.opt (.pair .str .bool)), false), ((.int .i64), false)], [.box, .no]⟩),
  (19, ⟨[.var (.pair .str .bool) .no, .val (.int .i64)], [(.str, false)], [.no]⟩),
  (20, ⟨[.var (.pair .str .bool) .no, .val (.int .i64)], [((.int .i64), false)], [.no]⟩),
  (21, ⟨[.ro (.pair .str .bool)], [((.int .i64), false)], [.no]⟩),
  (22, ⟨[.val Y4, .val (.int .i64), .var Y5 .no], [((.int .i64), false)], [.no]⟩),
  (23, ⟨[.val Y4], [((.list (.int .i64)), false)], [(.own 3 .no)]⟩),
  (24, ⟨[.val .str, .val (.int .i64), .val (.int .i64), .val (.list (.int .i64))], [((.int .i64), false), ((.int .i64), false)], [.no, .no]⟩),
  (25, ⟨[.val Y0], [((.int .i64), false)], [.no]⟩),
  (26, ⟨[.var Y3 .no, .val (.int .i64)], [((.int .i64), false)], [.no]⟩),
  (27, ⟨[.var Y3 .no], [((.int .i64), false)], [.no]⟩),
  (28, ⟨[.var Y3 .no, .val (.int .i64), .val (.int .i64), .val (.int .i64), .val (.list (.int .i64)), .val (.list (.int .i64))], [((.list Y1), false)], [(.own 70 .no)]⟩),
  (29, ⟨[], [((.list .str), false)], [(.own 9 .no)]⟩),
  (30, ⟨[.val (.list Y1)], [(.str, false)], [.no]⟩),
  (31, ⟨[.val (.int .i64), .val (.int .i64)], [(.str, false)], [.no]⟩),
  (32, ⟨[.val .str], [((.int .i64), false)], [.no]⟩),
  (33, ⟨[.val Y4], [((.int .i64), false), ((.int .i64), false), ((.int .i64), false)], [.no, .no, .no]⟩),
  (34, ⟨[.val .str], [(.str, false)], [.no]⟩),
  (35, ⟨[.val .str], [((.int .i64), false)], [.no]⟩),
  (36, ⟨[.val .str, .val .str], [(.bool, false)], [.no]⟩),
  (37, ⟨[.var (.pair .str .bool) .no, .val (.int .i64)], [(.str, false)], [.no]⟩),
  (38, ⟨[.val .str], [((.int .i64), false)], [.no]⟩),
  (39, ⟨[.val .str], [(.bool, false)], [.no]⟩),
  (40, ⟨[.val (.int .i64), .val (.int .i64), .val (.int .i64)], [(.bool, false)], [.no]⟩),
  (41, ⟨[.val (.int .i64)], [(.bool, false)], [.no]⟩),
  (42, ⟨[.val (.int .i64)], [(.bool, false)], [.no]⟩),
  (43, ⟨[.val .str], [(.bool, false)], [.no]⟩),
  (44, ⟨[.val .str], [((.list Y1), false), ((.int .i64), false), (.bool, false)], [(.own 70 .no), .no, .no]⟩),
  (45, ⟨[.val (.int .i64)], [((.list Y1), false)], [(.own 70 .no)]⟩),
  (46, ⟨[.val (.list Y1), .val (.list Y1)], [(.bool, false)], [.no]⟩),
  (47, ⟨[.val (.int .i64)], [((.list Y1), false)], [(.own 70 .no)]⟩),
  (48, ⟨[.ro Y7, .val (.int .i64)], [((.int .i64), false)], [.no]⟩),
  (49, ⟨[.var Y3 .no], [((.int .i64), false)], [.no]⟩),
  (50, ⟨[.val (.int .i64)], [((.list Y1), false)], [(.own 70 .no)]⟩),
  (51, ⟨[.var Y3 .no, .val (.int .i64), .val (.int .i64), .val (.int .i64), .val (.list (.int .i64)), .val (.list (.int .i64))], [((.list Y1), false)], [(.own 70 .no)]⟩),
  (52, ⟨[.val (.int .i64)], [((.list Y1), false)], [(.own 70 .no)]⟩),
  (53, ⟨[.val Y1], [((.int .i64), false)], [.no]⟩),
  (54, ⟨[.val Y4], [((.int .i64), false), ((.int .i64), false)], [.no, .no]⟩),
  (55, ⟨[.val (.list Y0)], [((.list (.int .i64)), false)], [(.own 3 .no)]⟩),
  (56, ⟨[.val .str, .val (.int .i64), .val (.int .i64), .val (.list (.int .i64))], [((.int .i64), false), ((.int .i64), false)], [.no, .no]⟩),
  (57, ⟨[.val Y0], [((.int .i64), false)], [.no]⟩),
  (58, ⟨[.val .str, .val .str], [(.bool, false)], [.no]⟩),
  (59, ⟨[.val (.int .u8)], [(.bool, false)], [.no]⟩),
  (60, ⟨[.val (.int .u8)], [(.bool, false)], [.no]⟩),
  (61, ⟨[.val .str], [(.bool, false)], [.no]⟩),
  (62, ⟨[.val (.int .i64)], [(Y1, true), (.bool, false)], [.no, .no]⟩),
  (63, ⟨[.val (.list (.int .i64)), .val (.int .i64)], [(.bool, false)], [.no]⟩),
  (64, ⟨[.ro Y7, .val (.int .i64)], [(.bool, false)], [.no]⟩),
  (65, ⟨[.val (.int .i64)], [(.bool, false)], [.no]⟩),
  (66, ⟨[.val (.int .i64)], [(.bool, false)], [.no]⟩),
  (67, ⟨[.val (.int .i64)], [(.bool, false)], [.no]⟩),
  (68, ⟨[.val (.int .i64)], [((.int .i64), false), (.bool, false)], [.no, .no]⟩),
  (69, ⟨[.var Y3 .no], [((.int .i64), false)], [.no]⟩),
  (70, ⟨[.val (.int .i64)], [(Y6, true)], [.no]⟩),
  (71, ⟨[.val (.int .i64), .val (.int .i64), .val (.int .i64), .val (.int .i64)], [((.int .i64), false)], [.no]⟩),
  (72, ⟨[.val (.int .i64), .val (.int .i64)], [((.int .i64), false)], [.no]⟩),
  (73, ⟨[.val .str], [(.bool, false)], [.no]⟩),
  (74, ⟨[.val (.int .i64), .val (.int .i64), .val (.int .i64)], [(.bool, false)], [.no]⟩),
  (75, ⟨[.val (.int .i64)], [(.bool, false)], [.no]⟩),
  (76, ⟨[.val .str], [(.bool, false)], [.no]⟩),
  (77, ⟨[.val .str], [((.list Y1), false), ((.int .i64), false)], [(.own 70 .no), .no]⟩),
  (78, ⟨[.val (.list Y1), .val (.int .i64), .val (.int .i64), .val (.int .i64), .val (.list (.int .i64))], [((.int .i64), false)], [.no]⟩),
  (79, ⟨[], [((.list Y0), false)], [(.own 105 .no)]⟩),
  (80, ⟨[.val (.int .i64), .val (.int .i64), .val (.int .i64)], [((.int .i64), false)], [.no]⟩),
  (81, ⟨[.val (.int .i64)], [((.list Y2), false)], [(.own 110 .no)]⟩),
  (82, ⟨[.val (.int .i64)], [((.int .i64), false)], [.no]⟩),
  (83, ⟨[.val (.int .i64), .val (.int .i64)], [((.int .i64), false)], [.no]⟩),
  (84, ⟨[.val (.int .i64)], [(.bool, false), (.bool, false), (.bool, false)], [.no, .no, .no]⟩),
  (85, ⟨[.val Y1], [((.int .i64), false)], [.no]⟩),
  (86, ⟨[.val (.list (.int .i64)), .val (.int .i64)], [((.int .i64), false)], [.no]⟩),
  (87, ⟨[.val (.int .u8)], [(.bool, false)], [.no]⟩),
  (88, ⟨[.val (.int .u8)], [(.bool, false)], [.no]⟩),
  (89, ⟨[.val (.int .i64)], [(Y1, true), (.bool, false)], [.no, .no]⟩),
  (90, ⟨[.val .str, .val (.int .i64), .val (.int .i64)], [((.int .i64), false)], [.no]⟩),
  (91, ⟨[.val (.int .i64)], [((.int .i64), false), (.bool, false)], [.no, .no]⟩),
  (92, ⟨[.val (.list Y1), .val (.int .i64), .val (.int .i64)], [(.bool, false)], [.no]⟩),
  (93, ⟨[.val (.list (.int .i64)), .val (.int .i64)], [(.bool, false)], [.no]⟩),
  (94, ⟨[.val (.list Y1), .val (.int .i64), .val (.int .i64), .val (.int .i64)], [(.bool, false)], [.no]⟩),
  (95, ⟨[.val (.int .i64)], [(Y6, true)], [.no]⟩),
  (96, ⟨[.val (.int .i64), .val (.int .i64)], [(Y1, true)], [.no]⟩),
  (97, ⟨[.val Y1], [(.bool, false)], [.no]⟩),
  (98, ⟨[.val (.int .i64), .val (.int .i64), .val (.int .i64)], [((.int .i64), false)], [.no]⟩),
  (99, ⟨[.val (.int .i64), .val (.int .i64)], [((.int .i64), false)], [.no]⟩),
  (100, ⟨[.val (.int .i64)], [(.bool, false)], [.no]⟩),
  (101, ⟨[.val (.int .i64)], [(.bool, false)], [.no]⟩)]
noncomputable def loops : List (Nat × List (Nat × List (Nat × LK))) := [
  (5, [(5, [(4, .val .str .no), (32, .val (.list Y0) .no), (33, .val (.int .i64) .no), (34, .val (.int .i64) .no)])]),
  (7, [(8, [(2, .box Y4 (.pair .no (.pair .no (.own 33 .no)))), (4, .box (.pair .str .bool) .no), (6, .box Y4 (.pair .no (.pair .no (.own 33 .no)))), (7, .val (.int .i64) .no)])]),
  (9, [(7, [(1, .box Y4 .no), (5, .box Y5 .no), (31, .val (.int .i64) .no), (32, .val (.int .i64) .no)]), (19, [(1, .box Y4 .no), (8, .val (.list (.int .i64)) (.own 3 .no)), (66, .val (.list Y0) .no), (67, .val (.int .i64) .no), (68, .val (.int .i64) .no)])]),
  (11, [(5, [(0, .par Y3 .no), (2, .box Y4 (.pair .no (.pair .no (.own 33 .no)))), (3, .val (.int .i64) .no), (4, .val (.int .i64) .no), (5, .val (.list (.int .i64)) (.own 3 .no)), (6, .val (.int .i64) .no)]), (10, [(0, .par Y3 .no), (2, .box Y4 (.pair .no (.pair .no (.own 33 .no)))), (3, .val (.int .i64) .no), (4, .val (.int .i64) .no), (5, .val (.list (.int .i64)) (.own 3 .no)), (7, .val (.list (.int .i64)) (.own 3 .no)), (8, .val (.int .i64) .no)]), (16, [(0, .par Y3 .no), (2, .box Y4 (.pair .no (.pair .no (.own 33 .no)))), (3, .val (.int .i64) .no), (4, .val (.int .i64) .no), (5, .val (.list (.int .i64)) .no), (7, .val (.list (.int .i64)) .no), (9, .box Y4 (.pair .no (.pair .no (.own 33 .no)))), (10, .val (.list (.list Y1)) (.own 64 (.own 70 .no))), (11, .val (.int .i64) .no)]), (25, [(0, .par Y3 .no), (2, .box Y4 (.pair .no (.pair .no (.own 33 .no)))), (3, .val (.int .i64) .no), (4, .val (.int .i64) .no), (9, .box Y4 (.pair .no (.pair .no (.own 33 .no)))), (10, .val (.list (.list Y1)) (.own 64 (.own 70 .no))), (14, .val (.int .i64) .no)]), (36, [(0, .par Y3 .no), (2, .box Y4 (.pair .no (.pair .no (.own 33 .no)))), (4, .val (.int .i64) .no), (9, .box Y4 (.pair .no (.pair .no (.own 33 .no)))), (18, .val (.int .i64) .no)]), (29, [(0, .par Y3 .no), (2, .box Y4 (.pair .no (.pair .no (.own 33 .no)))), (3, .val (.int .i64) .no), (4, .val (.int .i64) .no), (9, .box Y4 (.pair .no (.pair .no (.own 33 .no)))), (10, .val (.list (.list Y1)) (.own 64 (.own 70 .no))), (14, .val (.int .i64) .no), (15, .sub 10 0), (16, .val (.int .i64) .no)])]),
  (13, [(2, [(0, .val (.int .i64) .no), (1, .val (.int .i64) .no), (5, .val (.list (.int .u8)) (.own 5 .no))])]),
  (16, [(3, [(1, .box Y4 .no), (3, .val .str .no), (4, .val (.int .i64) .no)])]),
  (22, [(5, [(2, .par Y5 .no), (3, .box Y4 .no), (7, .box Y0 .no), (22, .val (.list Y0) .no), (23, .val (.int .i64) .no), (24, .val (.int .i64) .no)])]),
  (23, [(3, [(3, .val (.list (.int .i64)) (.own 3 .no)), (7, .val (.list Y0) .no), (8, .val (.int .i64) .no), (9, .val (.int .i64) .no)])]),
  (24, [(11, [(1, .val (.int .i64) .no), (2, .val (.int .i64) .no), (3, .val (.list (.int .i64)) .no), (10, .val (.list Y1) (.own 70 .no)), (42, .val (.list Y1) (.own 70 .no)), (43, .val (.int .i64) .no), (44, .val (.int .i64) .no)]), (21, [(2, .val (.int .i64) .no), (10, .val (.list Y1) .no), (16, .box Y7 (.pair .no (.pair .no (.pair .no (.pair .no (.own 3 .no)))))), (17, .val (.int .i64) .no)]), (26, [(10, .val (.list Y1) .no), (16, .box Y7 (.pair .no (.pair .no (.pair .no (.pair .no (.own 3 .no)))))), (18, .val (.int .i64) .no)])]),
  (28, [(3, [(0, .par Y3 .no), (1, .val (.int .i64) .no), (2, .val (.int .i64) .no), (3, .val (.int .i64) .no), (4, .val (.list (.int .i64)) .no), (5, .val (.list (.int .i64)) .no), (13, .val (.list Y1) (.own 70 .no)), (14, .val (.int .i64) .no)])]),
  (30, [(3, [(0, .val (.list Y1) .no), (3, .val .str .no), (4, .val (.int .i64) .no)])]),
  (31, [(3, [(0, .val (.int .i64) .no), (1, .val (.int .i64) .no), (5, .val (.list (.int .u8)) (.own 5 .no)), (6, .val (.int .i64) .no)])]),
  (32, [(3, [(0, .val .str .no), (3, .val (.int .i64) .no), (4, .val (.int .i64) .no)])]),
  (33, [(10, [(1, .box Y4 .no), (7, .val (.list (.int .i64)) (.own 3 .no)), (8, .val (.int .i64) .no)])]),
  (35, [(3, [(0, .val .str .no), (3, .val (.int .i64) .no), (4, .val (.int .i64) .no)])]),
  (38, [(3, [(0, .val .str .no), (3, .val (.int .i64) .no), (4, .val (.int .i64) .no)])]),
  (39, [(4, [(0, .val .str .no), (3, .val (.int .i64) .no)])]),
  (44, [(3, [(0, .val .str .no), (5, .val (.list Y1) (.own 70 .no)), (6, .val (.int .i64) .no)])]),
  (46, [(4, [(0, .val (.list Y1) .no), (1, .val (.list Y1) .no), (12, .val (.int .i64) .no), (13, .val (.int .i64) .no)])]),
  (53, [(10, [(1, .box Y1 .no), (4, .val (.int .i64) .no), (5, .val (.int .i64) .no)]), (30, [(1, .box Y1 .no), (4, .val (.int .i64) .no), (7, .val (.int .i64) .no)]), (46, [(1, .box Y1 .no), (4, .val (.int .i64) .no), (9, .val (.int .i64) .no)])]),
  (54, [(4, [(1, .box Y4 .no), (4, .val (.int .i64) .no), (5, .val (.int .i64) .no), (6, .val (.int .i64) .no)]), (10, [(1, .box Y4 .no), (4, .val (.int .i64) .no), (5, .val (.int .i64) .no), (6, .val (.int .i64) .no), (7, .box Y0 .no), (8, .val (.int .i64) .no)])]),
  (55, [(3, [(0, .val (.list Y0) .no), (3, .val (.list (.int .i64)) (.own 3 .no)), (4, .val (.int .i64) .no)])]),
  (56, [(11, [(1, .val (.int .i64) .no), (2, .val (.int .i64) .no), (3, .val (.list (.int .i64)) .no), (10, .val (.list Y1) (.own 70 .no)), (12, .val (.int .i64) .no)]), (19, [(1, .val (.int .i64) .no), (2, .val (.int .i64) .no), (3, .val (.list (.int .i64)) .no), (10, .val (.list Y1) (.own 70 .no)), (13, .val (.int .i64) .no), (14, .val (.int .i64) .no)])]),
  (62, [(2, [(0, .val (.int .i64) .no), (2, .box Y1 .no), (14, .val (.list Y0) (.own 105 .no)), (15, .val (.int .i64) .no), (16, .val (.int .i64) .no)]), (8, [(0, .val (.int .i64) .no), (2, .box Y1 .no), (6, .box Y6 .no), (7, .box Y1 .no), (14, .val (.list Y0) (.own 105 .no)), (15, .val (.int .i64) .no), (16, .val (.int .i64) .no), (36, .val (.list Y2) (.own 110 .no)), (37, .val (.int .i64) .no), (38, .val (.int .i64) .no)])]),
  (71, [(3, [(0, .val (.int .i64) .no), (1, .val (.int .i64) .no), (2, .val (.int .i64) .no), (3, .val (.int .i64) .no), (9, .val (.int .i64) .no), (10, .val (.int .i64) .no)])]),
  (73, [(4, [(0, .val .str .no), (3, .val (.int .i64) .no)])]),
  (77, [(3, [(0, .val .str .no), (4, .val (.list Y1) (.own 70 .no)), (5, .val (.int .i64) .no)])]),
  (85, [(4, [(1, .box Y1 .no), (3, .box Y6 .no), (4, .val (.int .i64) .no), (17, .val (.list Y2) (.own 110 .no)), (18, .val (.int .i64) .no), (19, .val (.int .i64) .no)])]),
  (86, [(2, [(0, .val (.list (.int .i64)) .no), (1, .val (.int .i64) .no), (7, .val (.int .i64) .no), (8, .val (.int .i64) .no)])]),
  (89, [(2, [(0, .val (.int .i64) .no), (2, .box Y1 .no), (4, .val (.int .i64) .no)])]),
  (90, [(3, [(0, .val .str .no), (1, .val (.int .i64) .no), (7, .val (.int .u64) .no), (8, .val (.int .i64) .no)])]),
  (93, [(2, [(0, .val (.list (.int .i64)) .no), (1, .val (.int .i64) .no), (5, .val (.int .i64) .no)])]),
  (98, [(3, [(0, .val (.int .i64) .no), (1, .val (.int .i64) .no), (7, .val (.int .i64) .no), (8, .val (.int .i64) .no)])]),
  (99, [(3, [(0, .val (.int .i64) .no), (1, .val (.int .i64) .no), (5, .val (.int .u64) .no), (6, .val (.int .i64) .no)])])]
noncomputable def prims : List (Nat × (List SV → Option (List PV))) := []
noncomputable def elfs : List (Nat × List (Nat × Fl)) := [(63, [(6400, (.own 70 .no)), (8704, (.own 70 .no))])]
noncomputable def cfg : Cfg := ⟨Try.prog, asc tis, asc fns, realOf [], altsOf [] [], asc sigs, asc2 loops, fun t i => (asc2 elfs t i).getD .no, asc prims⟩
theorem fns_ok : FnsOK Try.prog [] fns := ⟨Try.func3, Try.func4, Try.func5, Try.func6, Try.func7, Try.func8, Try.func9, Try.func10, Try.func11, Try.func12, Try.func13, Try.func14, Try.func15, Try.func16, Try.func17, Try.func18, Try.func19, Try.func20, Try.func21, Try.func22, Try.func23, Try.func24, Try.func25, Try.func26, Try.func27, Try.func28, Try.func29, Try.func30, Try.func31, Try.func32, Try.func33, Try.func34, Try.func35, Try.func36, Try.func37, Try.func38, Try.func39, Try.func40, Try.func41, Try.func42, Try.func43, Try.func44, Try.func45, Try.func46, Try.func47, Try.func48, Try.func49, Try.func50, Try.func51, Try.func52, Try.func53, Try.func54, Try.func55, Try.func56, Try.func57, Try.func58, Try.func59, Try.func60, Try.func61, Try.func62, Try.func63, Try.func64, Try.func65, Try.func66, Try.func67, Try.func68, Try.func69, Try.func70, Try.func71, Try.func72, Try.func73, Try.func74, Try.func75, Try.func76, Try.func77, Try.func78, Try.func79, Try.func80, Try.func81, Try.func82, Try.func83, Try.func84, Try.func85, Try.func86, Try.func87, Try.func88, Try.func89, Try.func90, Try.func91, Try.func92, Try.func93, Try.func94, Try.func95, Try.func96, Try.func97, Try.func98, Try.func99, Try.func100, Try.func101, trivial⟩
theorem cfg_ok : cfg.OK := Cfg.OK.of (C := cfg) (tis := tis) (fns := fns) (sigs := sigs) (rl := []) (al := []) rfl rfl rfl rfl rfl (by kernel_rfl) fns_ok (by kernel_rfl) (by kernel_rfl) (by kernel_rfl)
/-- The text of a loop; slots. -/
noncomputable abbrev LA (f : Nat) (F : Func) (p : List Nat) (s : St) := LpAt cfg f (F.body.getD .skip) F.results.toList ((asc sigs f).getD ⟨[], [], []⟩) p s
abbrev vI (k : Nat) (n : Int) : Nat × SV := (k, .v (.int .i64 n))
abbrev vL (k : Nat) (e : Ty) (l : List e.den) : Nat × SV := (k, .v (.list e l))
abbrev vP (k p : Nat) : Nat × SV := (k, .v (.ptr p (.at 0)))
end Go.Proofs.Ythkkaoggieganaa.S
