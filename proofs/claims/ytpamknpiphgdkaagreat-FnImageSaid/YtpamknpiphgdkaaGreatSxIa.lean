import Derived.Test.YtpamknpiphgdkaaGreatPsZa
import Derived.Test.YtpamknpiphgdkaaGreatProg
namespace Go.Proofs.YtpamknpiphgdkaaGreat.S
open Go.Ps
set_option linter.unusedVariables false
set_option maxRecDepth 100000
set_option maxHeartbeats 0
abbrev Y0 : Ty := (.pair .str (.pair (.int .i64) (.pair (.int .i64) (.pair (.int .i64) (.int .i64)))))
abbrev Y1 : Ty := (.pair (.int .i64) (.pair (.int .i64) (.pair (.int .i64) (.pair (.int .i64) (.int .i64)))))
abbrev Y2 : Ty := (.pair (.int .i64) (.pair (.int .i64) (.int .i64)))
abbrev Y3 : Ty := (.pair (.int .i64) (.pair (.int .i64) .str))
abbrev D0 : Type := Int × Int × Int × Int × Int
abbrev Y4 : Ty := (.pair (.list (.int .u8)) (.pair (.int .i64) (.int .i64)))
abbrev Y5 : Ty := (.pair .str (.pair .str (.list Y0)))
abbrev Y6 : Ty := (.pair (.int .i64) (.int .i64))
abbrev Y7 : Ty := (.pair (.int .i64) (.pair (.int .i64) (.pair (.int .i64) (.int .i64))))
abbrev Y8 : Ty := (.pair (.list Y1) (.pair (.int .i64) (.pair (.int .i64) (.pair (.list (.int .i64)) (.list (.int .i64))))))
abbrev D1 : Type := Int × Int × ByteArray
abbrev D2 : Type := List Int × Int × Int
abbrev D3 : Type := Int × List Int × Int × Int
abbrev D4 : Type := List D0 × List Int × Int × Int
abbrev D5 : Type := Int × Int × Int × Int
abbrev D6 : Type := ByteArray × Int × Int × Int × Int
abbrev D7 : Type := ByteArray × ByteArray × List D6
abbrev D8 : Type := D7 × List Int × Int × Int
abbrev D9 : Type := Bool × Bool × Bool
abbrev D10 : Type := List D0 × Int × Bool
abbrev D11 : Type := List D0 × Int × Int × List Int × List Int
noncomputable def tis : List (Nat × TI) := [
  (3, ⟨.scalar, 1, 8, [.int .i64 0], (.int .i64), false⟩),
  (5, ⟨.scalar, 1, 1, [.int .u8 0], (.int .u8), false⟩),
  (9, ⟨.scalar, 1, 16, [.str (⟨#[]⟩ : ByteArray)], .str, false⟩),
  (22, ⟨(.slice 5), 1, 24, [.nils], (.list (.int .u8)), false⟩),
  (23, ⟨(.slice 33), 1, 24, [.nils], (.list Y0), false⟩),
  (25, ⟨(.struct [(0, 1), (1, 1), (2, 1)] [false, false, false] []), 3, 56, [.str (⟨#[]⟩ : ByteArray), .str (⟨#[]⟩ : ByteArray), .nils], Y5, false⟩),
  (33, ⟨(.struct [(0, 1), (1, 1), (2, 1), (3, 1), (4, 1)] [false, false, false, false, false] []), 5, 48, [.str (⟨#[]⟩ : ByteArray), .int .i64 0, .int .i64 0, .int .i64 0, .int .i64 0], Y0, false⟩),
  (36, ⟨(.slice 72), 1, 24, [.nils], (.list Y3), false⟩),
  (38, ⟨(.struct [(0, 1)] [false] []), 1, 24, [.nils], (.list Y3), false⟩),
  (54, ⟨(.struct [(0, 1), (1, 1)] [false, false] []), 2, 16, [.int .i64 0, .int .i64 0], Y6, false⟩),
  (57, ⟨(.slice 3), 1, 24, [.nils], (.list (.int .i64)), false⟩),
  (72, ⟨(.struct [(0, 1), (1, 1), (2, 1)] [false, false, false] []), 3, 32, [.int .i64 0, .int .i64 0, .str (⟨#[]⟩ : ByteArray)], Y3, false⟩),
  (74, ⟨(.struct [(0, 1), (1, 1), (2, 1)] [false, false, false] []), 3, 40, [.nils, .int .i64 0, .int .i64 0], Y4, false⟩),
  (75, ⟨(.slice 76), 1, 24, [.nils], (.list (.list Y1)), false⟩),
  (76, ⟨(.slice 82), 1, 24, [.nils], (.list Y1), false⟩),
  (78, ⟨(.slice 9), 1, 24, [.nils], (.list .str), false⟩),
  (82, ⟨(.struct [(0, 1), (1, 1), (2, 1), (3, 1), (4, 1)] [false, false, false, false, false] []), 5, 40, [.int .i64 0, .int .i64 0, .int .i64 0, .int .i64 0, .int .i64 0], Y1, true⟩),
  (88, ⟨(.struct [(0, 1), (1, 1), (2, 1), (3, 1), (4, 1)] [false, false, false, false, false] []), 5, 88, [.nils, .int .i64 0, .int .i64 0, .nils, .nils], Y8, false⟩),
  (96, ⟨.scalar, 1, 8, [.int .u64 0], (.int .u64), false⟩),
  (97, ⟨.scalar, 1, 8, [.int .u64 0], (.int .u64), false⟩),
  (110, ⟨(.struct [(0, 1), (1, 1), (2, 1), (3, 1)] [false, false, false, false] []), 4, 32, [.int .i64 0, .int .i64 0, .int .i64 0, .int .i64 0], Y7, false⟩),
  (114, ⟨(.slice 117), 1, 24, [.nils], (.list Y0), false⟩),
  (117, ⟨(.struct [(0, 1), (1, 4)] [false, true] []), 5, 48, [.str (⟨#[]⟩ : ByteArray), .int .i64 0, .int .i64 0, .int .i64 0, .int .i64 0], Y0, false⟩),
  (119, ⟨(.slice 122), 1, 24, [.nils], (.list Y2), false⟩),
  (122, ⟨(.struct [(0, 1), (1, 1), (2, 1)] [false, false, false] []), 3, 24, [.int .i64 0, .int .i64 0, .int .i64 0], Y2, false⟩)]
noncomputable def fns : List (Nat × Func) := [(3, Tryz.f3), (4, Tryz.f4), (5, Tryz.f5), (6, Tryz.f6), (7, Tryz.f7), (8, Tryz.f8), (9, Tryz.f9), (10, Tryz.f10), (11, Tryz.f11), (12, Tryz.f12), (13, Tryz.f13), (14, Tryz.f14), (15, Tryz.f15), (16, Tryz.f16), (17, Tryz.f17), (18, Tryz.f18), (19, Tryz.f19), (20, Tryz.f20), (21, Tryz.f21), (22, Tryz.f22), (23, Tryz.f23), (24, Tryz.f24), (25, Tryz.f25), (26, Tryz.f26), (27, Tryz.f27), (28, Tryz.f28), (29, Tryz.f29), (30, Tryz.f30), (31, Tryz.f31), (32, Tryz.f32), (33, Tryz.f33), (34, Tryz.f34), (35, Tryz.f35), (36, Tryz.f36), (37, Tryz.f37), (38, Tryz.f38), (39, Tryz.f39), (40, Tryz.f40), (41, Tryz.f41), (42, Tryz.f42), (43, Tryz.f43), (44, Tryz.f44), (45, Tryz.f45), (46, Tryz.f46), (47, Tryz.f47), (48, Tryz.f48), (49, Tryz.f49), (50, Tryz.f50), (51, Tryz.f51), (52, Tryz.f52), (53, Tryz.f53), (54, Tryz.f54), (55, Tryz.f55), (56, Tryz.f56), (57, Tryz.f57), (58, Tryz.f58), (59, Tryz.f59), (60, Tryz.f60), (61, Tryz.f61), (62, Tryz.f62), (63, Tryz.f63), (64, Tryz.f64), (65, Tryz.f65), (66, Tryz.f66), (67, Tryz.f67), (68, Tryz.f68), (69, Tryz.f69), (70, Tryz.f70), (71, Tryz.f71), (72, Tryz.f72), (73, Tryz.f73), (74, Tryz.f74), (75, Tryz.f75), (76, Tryz.f76), (77, Tryz.f77), (78, Tryz.f78), (79, Tryz.f79), (80, Tryz.f80), (81, Tryz.f81), (82, Tryz.f82), (83, Tryz.f83), (84, Tryz.f84), (85, Tryz.f85), (86, Tryz.f86), (87, Tryz.f87), (88, Tryz.f88), (89, Tryz.f89), (90, Tryz.f90), (91, Tryz.f91), (92, Tryz.f92), (93, Tryz.f93), (100, Tryz.f100)]
noncomputable def sigs : List (Nat × Sig) := [
  (3, ⟨[.val (.list (.int .u8)), .val (.list (.int .u8))], [(.bool, false)], [.no]⟩),
  (4, ⟨[.val (.list (.int .u8))], [(Y5, true)], [(.pair .no (.pair .no (.own 33 .no)))]⟩),
  (5, ⟨[.val Y5], [((.int .i64), false), ((.int .i64), false), ((.int .i64), false)], [.no, .no, .no]⟩),
  (6, ⟨[.val (.list (.int .u8)), .val (.int .i64), .val (.int .i64)], [((.int .i64), false)], [.no]⟩),
  (7, ⟨[.val Y5, .val .str], [((.int .i64), false), ((.int .i64), false)], [.no, .no]⟩),
  (8, ⟨[.val Y5, .val (.int .i64)], [((.int .i64), false), ((.int .i64), false)], [.no, .no]⟩),
  (9, ⟨[.val Y5, .val (.int .i64)], [((.int .i64), false), ((.int .i64), false), ((.int .i64), false)], [.no, .no, .no]⟩),
  (10, ⟨[.val Y5], [((.list Y3), true), ((.int .i64), false)], [(.own 72 .no), .no]⟩),
  (11, ⟨[.val Y5], [(.bool, false)], [.no]⟩),
  (12, ⟨[.val (.list Y3), .val (.int .i64), .val (.int .i64)], [(.str, false), ((.int .i64), false)], [.no, .no]⟩),
  (13, ⟨[.val (.list Y3), .val (.int .i64)], [((.int .i64), false), ((.int .i64), false)], [.no, .no]⟩),
  (14, ⟨[.val (.list Y3), .val (.int .i64), .val (.int .i64), .val (.int .i64), .val .bool], [((.list Y3), true), ((.int .i64), false)], [(.own 72 .no), .no]⟩),
  (15, ⟨[.val (.int .i64)], [((.int .i64), false), ((.int .i64), false)], [.no, .no]⟩),
  (16, ⟨[.val (.list Y3), .val (.int .i64), .val (.int .i64), .val .bool], [((.int .i64), false), ((.int .i64), false)], [.no, .no]⟩),
  (17, ⟨[.val (.list Y3)], [(.bool, false)], [.no]⟩),
  (18, ⟨[.val (.list (.int .u8))], [((.opt Y4), false)], [.box]⟩),
  (19, ⟨[.var Y4 .no], [(Y5, true)], [(.pair .no (.pair .no (.own 33 .no)))]⟩),
  (20, ⟨[.val Y5, .val (.int .i64), .var Y6 .no], [((.int .i64), false)], [.no]⟩),
  (21, ⟨[.val Y5], [((.list (.int .i64)), false)], [(.own 3 .no)]⟩),
  (22, ⟨[.val .str, .val (.int .i64), .val (.int .i64), .val (.list (.int .i64))], [((.int .i64), false), ((.int .i64), false)], [.no, .no]⟩),
  (23, ⟨[.val Y0], [((.int .i64), false)], [.no]⟩),
  (24, ⟨[.val .str], [(.bool, false)], [.no]⟩),
  (25, ⟨[.val Y5, .val .str], [((.int .i64), false)], [.no]⟩),
  (26, ⟨[.val (.int .i64), .val (.int .i64), .val (.int .i64)], [(.bool, false)], [.no]⟩),
  (27, ⟨[.val Y5], [((.list Y3), true)], [(.own 72 .no)]⟩),
  (28, ⟨[.val (.list Y3), .val (.int .i64), .val (.int .i64)], [(.bool, false)], [.no]⟩),
  (29, ⟨[.val (.list Y3), .val (.int .i64), .val (.int .i64)], [(.str, false)], [.no]⟩),
  (30, ⟨[.val (.list Y3), .val (.int .i64), .val (.int .i64), .val (.int .i64), .val .bool], [((.int .i64), false), ((.int .i64), false)], [.no, .no]⟩),
  (31, ⟨[.val (.int .i64)], [(.bool, false)], [.no]⟩),
  (32, ⟨[.val (.list Y3), .val (.int .i64), .val (.int .i64), .val (.int .i64), .val .bool], [((.list Y3), true), ((.int .i64), false)], [(.own 72 .no), .no]⟩),
  (33, ⟨[.val (.int .i64)], [((.int .i64), false)], [.no]⟩),
  (34, ⟨[.val (.int .i64)], [(.bool, false)], [.no]⟩),
  (35, ⟨[.val (.int .i64)], [(.bool, false)], [.no]⟩),
  (36, ⟨[.var Y4 .no, .val (.int .i64)], [((.int .i64), false)], [.no]⟩),
  (37, ⟨[.var Y4 .no], [((.int .i64), false)], [.no]⟩),
  (38, ⟨[.var Y4 .no, .val (.int .i64), .val (.int .i64), .val (.int .i64), .val (.list (.int .i64)), .val (.list (.int .i64))], [((.list Y1), false)], [(.own 82 .no)]⟩),
  (39, ⟨[], [((.list .str), false)], [(.own 9 .no)]⟩),
  (40, ⟨[.val (.list Y1)], [(.str, false)], [.no]⟩),
  (41, ⟨[.val (.int .i64), .val (.int .i64)], [(.str, false)], [.no]⟩),
  (42, ⟨[.val .str], [(.bool, false)], [.no]⟩),
  (43, ⟨[.val (.int .i64)], [(.bool, false)], [.no]⟩),
  (44, ⟨[.val (.int .i64)], [(.bool, false)], [.no]⟩),
  (45, ⟨[.val .str], [(.bool, false)], [.no]⟩),
  (46, ⟨[.val .str], [((.list Y1), false), ((.int .i64), false), (.bool, false)], [(.own 82 .no), .no, .no]⟩),
  (47, ⟨[.val (.int .i64)], [((.list Y1), false)], [(.own 82 .no)]⟩),
  (48, ⟨[.val (.list Y1), .val (.list Y1)], [(.bool, false)], [.no]⟩),
  (49, ⟨[.val (.int .i64)], [((.list Y1), false)], [(.own 82 .no)]⟩),
  (50, ⟨[.ro Y8, .val (.int .i64)], [((.int .i64), false)], [.no]⟩),
  (51, ⟨[.val (.list Y0), .raw], [((.int .i64), false)], [.no]⟩),
  (52, ⟨[.val Y0, .ro .str], [(.bool, false)], [.no]⟩),
  (53, ⟨[.val (.list Y3), .val (.int .i64), .val (.int .i64), .val .str], [((.list Y3), true)], [(.own 72 .no)]⟩),
  (54, ⟨[.val .str, .val (.int .i64)], [(.str, false)], [.no]⟩),
  (55, ⟨[.val (.list Y3), .val (.int .i64)], [((.int .i64), false)], [.no]⟩),
  (56, ⟨[.val (.list Y3), .val (.int .i64), .val (.int .i64), .val (.int .i64), .val .bool], [((.int .i64), false), ((.int .i64), false)], [.no, .no]⟩),
  (57, ⟨[.val .str], [((.int .i64), false)], [.no]⟩),
  (58, ⟨[.val (.list Y3)], [((.list Y3), true)], [(.own 72 .no)]⟩),
  (59, ⟨[.val (.int .i64), .val (.int .i64)], [(.str, false)], [.no]⟩),
  (60, ⟨[.var Y4 .no], [((.int .i64), false)], [.no]⟩),
  (61, ⟨[.val (.int .i64)], [((.list Y1), false)], [(.own 82 .no)]⟩),
  (62, ⟨[.var Y4 .no, .val (.int .i64), .val (.int .i64), .val (.int .i64), .val (.list (.int .i64)), .val (.list (.int .i64))], [((.list Y1), false)], [(.own 82 .no)]⟩),
  (63, ⟨[.val (.int .i64)], [((.list Y1), false)], [(.own 82 .no)]⟩),
  (64, ⟨[.val Y1], [((.int .i64), false)], [.no]⟩),
  (65, ⟨[.val (.int .u8)], [(.bool, false)], [.no]⟩),
  (66, ⟨[.val (.int .u8)], [(.bool, false)], [.no]⟩),
  (67, ⟨[.val .str], [(.bool, false)], [.no]⟩),
  (68, ⟨[.val (.int .i64)], [(Y1, true), (.bool, false)], [.no, .no]⟩),
  (69, ⟨[.val (.list (.int .i64)), .val (.int .i64)], [(.bool, false)], [.no]⟩),
  (70, ⟨[.ro Y8, .val (.int .i64)], [(.bool, false)], [.no]⟩),
  (71, ⟨[.val (.int .i64)], [(.bool, false)], [.no]⟩),
  (72, ⟨[.val (.int .i64)], [(.bool, false)], [.no]⟩),
  (73, ⟨[.val (.int .i64)], [(.bool, false)], [.no]⟩),
  (74, ⟨[.val (.int .i64)], [((.int .i64), false), (.bool, false)], [.no, .no]⟩),
  (75, ⟨[.val (.list Y3), .val (.int .i64), .val (.int .i64)], [((.list Y3), true)], [(.own 72 .no)]⟩),
  (76, ⟨[.val (.list Y3), .val (.int .i64), .val .str], [((.list Y3), true)], [(.own 72 .no)]⟩),
  (77, ⟨[.val .str, .val (.int .i64)], [(.str, false)], [.no]⟩),
  (78, ⟨[.val (.list Y3), .raw], [((.int .i64), false)], [.no]⟩),
  (79, ⟨[.val Y3, .ro (.int .i64)], [(.bool, false)], [.no]⟩),
  (80, ⟨[.val (.list Y3)], [((.list Y3), false)], [(.own 72 .no)]⟩),
  (81, ⟨[.var Y4 .no], [((.int .i64), false)], [.no]⟩),
  (82, ⟨[.val (.int .i64)], [(Y7, true)], [.no]⟩),
  (83, ⟨[.val (.int .i64), .val (.int .i64), .val (.int .i64), .val (.int .i64)], [((.int .i64), false)], [.no]⟩),
  (84, ⟨[.val (.int .i64), .val (.int .i64)], [((.int .i64), false)], [.no]⟩),
  (85, ⟨[], [((.list Y0), false)], [(.own 117 .no)]⟩),
  (86, ⟨[.val (.int .i64), .val (.int .i64), .val (.int .i64)], [((.int .i64), false)], [.no]⟩),
  (87, ⟨[.val (.int .i64)], [((.list Y2), false)], [(.own 122 .no)]⟩),
  (88, ⟨[.val (.int .i64)], [((.int .i64), false)], [.no]⟩),
  (89, ⟨[.val (.int .i64), .val (.int .i64)], [((.int .i64), false)], [.no]⟩),
  (90, ⟨[.val (.int .i64)], [(.bool, false), (.bool, false), (.bool, false)], [.no, .no, .no]⟩),
  (91, ⟨[.val Y1], [((.int .i64), false)], [.no]⟩),
  (92, ⟨[.val (.list (.int .i64)), .val (.int .i64)], [((.int .i64), false)], [.no]⟩),
  (93, ⟨[.give (.list Y3) (.own 72 .no), .val (.int .i64), .val (.list Y3)], [((.list Y3), false)], [(.own 72 .no)]⟩),
  (100, ⟨[.val (.int .i64)], [(Y7, true)], [.no]⟩)]
noncomputable def loops : List (Nat × List (Nat × List (Nat × LK))) := [
  (5, [(7, [(1, .box Y5 .no), (5, .box Y6 .no), (31, .val (.int .i64) .no), (32, .val (.int .i64) .no)]), (19, [(1, .box Y5 .no), (8, .val (.list (.int .i64)) (.own 3 .no)), (66, .val (.list Y0) .no), (67, .val (.int .i64) .no), (68, .val (.int .i64) .no)])]),
  (9, [(4, [(1, .val (.int .i64) .no), (14, .val (.list Y0) .no), (15, .val (.int .i64) .no), (16, .val (.int .i64) .no)])]),
  (17, [(4, [(1, .box (.list Y3) .no), (10, .val (.list Y3) .no), (11, .val (.int .i64) .no), (12, .val (.int .i64) .no)])]),
  (19, [(5, [(0, .par Y4 .no), (2, .box Y5 (.pair .no (.pair .no (.own 33 .no)))), (3, .val (.int .i64) .no), (4, .val (.int .i64) .no), (5, .val (.list (.int .i64)) (.own 3 .no)), (6, .val (.int .i64) .no)]), (10, [(0, .par Y4 .no), (2, .box Y5 (.pair .no (.pair .no (.own 33 .no)))), (3, .val (.int .i64) .no), (4, .val (.int .i64) .no), (5, .val (.list (.int .i64)) (.own 3 .no)), (7, .val (.list (.int .i64)) (.own 3 .no)), (8, .val (.int .i64) .no)]), (16, [(0, .par Y4 .no), (2, .box Y5 (.pair .no (.pair .no (.own 33 .no)))), (3, .val (.int .i64) .no), (4, .val (.int .i64) .no), (5, .val (.list (.int .i64)) .no), (7, .val (.list (.int .i64)) .no), (9, .box Y5 (.pair .no (.pair .no (.own 33 .no)))), (10, .val (.list (.list Y1)) (.own 76 (.own 82 .no))), (11, .val (.int .i64) .no)]), (25, [(0, .par Y4 .no), (2, .box Y5 (.pair .no (.pair .no (.own 33 .no)))), (3, .val (.int .i64) .no), (4, .val (.int .i64) .no), (9, .box Y5 (.pair .no (.pair .no (.own 33 .no)))), (10, .val (.list (.list Y1)) (.own 76 (.own 82 .no))), (14, .val (.int .i64) .no)]), (36, [(0, .par Y4 .no), (2, .box Y5 (.pair .no (.pair .no (.own 33 .no)))), (4, .val (.int .i64) .no), (9, .box Y5 (.pair .no (.pair .no (.own 33 .no)))), (18, .val (.int .i64) .no)]), (29, [(0, .par Y4 .no), (2, .box Y5 (.pair .no (.pair .no (.own 33 .no)))), (3, .val (.int .i64) .no), (4, .val (.int .i64) .no), (9, .box Y5 (.pair .no (.pair .no (.own 33 .no)))), (10, .val (.list (.list Y1)) (.own 76 (.own 82 .no))), (14, .val (.int .i64) .no), (15, .sub 10 0), (16, .val (.int .i64) .no)])]),
  (20, [(5, [(2, .par Y6 .no), (3, .box Y5 .no), (7, .box Y0 .no), (22, .val (.list Y0) .no), (23, .val (.int .i64) .no), (24, .val (.int .i64) .no)])]),
  (21, [(3, [(3, .val (.list (.int .i64)) (.own 3 .no)), (7, .val (.list Y0) .no), (8, .val (.int .i64) .no), (9, .val (.int .i64) .no)])]),
  (22, [(11, [(1, .val (.int .i64) .no), (2, .val (.int .i64) .no), (3, .val (.list (.int .i64)) .no), (10, .val (.list Y1) (.own 82 .no)), (42, .val (.list Y1) (.own 82 .no)), (43, .val (.int .i64) .no), (44, .val (.int .i64) .no)]), (21, [(2, .val (.int .i64) .no), (10, .val (.list Y1) .no), (16, .box Y8 (.pair .no (.pair .no (.pair .no (.pair .no (.own 3 .no)))))), (17, .val (.int .i64) .no)]), (26, [(10, .val (.list Y1) .no), (16, .box Y8 (.pair .no (.pair .no (.pair .no (.pair .no (.own 3 .no)))))), (18, .val (.int .i64) .no)])]),
  (27, [(7, [(2, .box (.list Y3) (.own 72 .no)), (3, .box (.list Y3) (.own 72 .no)), (21, .val (.int .i64) .no)])]),
  (28, [(2, [(1, .val (.int .i64) .no), (2, .val (.int .i64) .no), (3, .box (.list Y3) .no), (7, .val (.int .i64) .no)])]),
  (29, [(3, [(1, .val (.int .i64) .no), (2, .val (.int .i64) .no), (3, .box (.list Y3) .no), (7, .val (.list (.int .u8)) (.own 5 .no)), (8, .val (.int .i64) .no)])]),
  (38, [(3, [(0, .par Y4 .no), (1, .val (.int .i64) .no), (2, .val (.int .i64) .no), (3, .val (.int .i64) .no), (4, .val (.list (.int .i64)) .no), (5, .val (.list (.int .i64)) .no), (13, .val (.list Y1) (.own 82 .no)), (14, .val (.int .i64) .no)])]),
  (40, [(3, [(0, .val (.list Y1) .no), (3, .val .str .no), (4, .val (.int .i64) .no)])]),
  (41, [(3, [(0, .val (.int .i64) .no), (1, .val (.int .i64) .no), (5, .val (.list (.int .u8)) (.own 5 .no)), (6, .val (.int .i64) .no)])]),
  (42, [(4, [(0, .val .str .no), (3, .val (.int .i64) .no)])]),
  (46, [(3, [(0, .val .str .no), (5, .val (.list Y1) (.own 82 .no)), (6, .val (.int .i64) .no)])]),
  (48, [(4, [(0, .val (.list Y1) .no), (1, .val (.list Y1) .no), (12, .val (.int .i64) .no), (13, .val (.int .i64) .no)])]),
  (51, [(2, [(0, .val (.list Y0) .no), (1, .keep), (7, .val (.int .i64) .no), (8, .val (.int .i64) .no)])]),
  (53, [(2, [(1, .val (.int .i64) .no), (2, .val (.int .i64) .no), (3, .val .str .no), (4, .box (.list Y3) .no), (8, .box (.list Y3) (.own 72 .no)), (9, .val (.int .i64) .no)])]),
  (57, [(3, [(0, .val .str .no), (3, .val (.int .i64) .no), (4, .val (.int .i64) .no)])]),
  (59, [(2, [(0, .val (.int .i64) .no), (1, .val (.int .i64) .no), (5, .val (.list (.int .u8)) (.own 5 .no))])]),
  (64, [(10, [(1, .box Y1 .no), (4, .val (.int .i64) .no), (5, .val (.int .i64) .no)]), (30, [(1, .box Y1 .no), (4, .val (.int .i64) .no), (7, .val (.int .i64) .no)]), (46, [(1, .box Y1 .no), (4, .val (.int .i64) .no), (9, .val (.int .i64) .no)])]),
  (68, [(2, [(0, .val (.int .i64) .no), (2, .box Y1 .no), (14, .val (.list Y0) (.own 117 .no)), (15, .val (.int .i64) .no), (16, .val (.int .i64) .no)]), (8, [(0, .val (.int .i64) .no), (2, .box Y1 .no), (6, .box Y7 .no), (7, .box Y1 .no), (14, .val (.list Y0) (.own 117 .no)), (15, .val (.int .i64) .no), (16, .val (.int .i64) .no), (36, .val (.list Y2) (.own 122 .no)), (37, .val (.int .i64) .no), (38, .val (.int .i64) .no)])]),
  (75, [(2, [(1, .val (.int .i64) .no), (2, .val (.int .i64) .no), (3, .box (.list Y3) .no), (6, .box (.list Y3) (.own 72 .no)), (7, .val (.int .i64) .no)])]),
  (76, [(3, [(1, .val (.int .i64) .no), (2, .val .str .no), (6, .box (.list Y3) (.own 72 .no)), (7, .box (.list Y3) (.own 72 .no)), (16, .same 7 (some 0)), (17, .val (.int .i64) .no), (18, .val (.int .i64) .no)]), (7, [(1, .val (.int .i64) .no), (2, .val .str .no), (6, .box (.list Y3) (.own 72 .no)), (7, .box (.list Y3) (.own 72 .no)), (8, .val (.int .i64) .no), (9, .box Y3 .no), (10, .val (.list (.int .u8)) (.own 5 .box)), (16, .same 7 (some 0)), (17, .val (.int .i64) .no), (18, .val (.int .i64) .no), (27, .val (.int .i64) .no), (28, .val (.int .i64) .no)])]),
  (78, [(2, [(0, .val (.list Y3) .no), (1, .keep), (7, .val (.int .i64) .no), (8, .val (.int .i64) .no)])]),
  (83, [(3, [(0, .val (.int .i64) .no), (1, .val (.int .i64) .no), (2, .val (.int .i64) .no), (3, .val (.int .i64) .no), (9, .val (.int .i64) .no), (10, .val (.int .i64) .no)])]),
  (91, [(4, [(1, .box Y1 .no), (3, .box Y7 .no), (4, .val (.int .i64) .no), (17, .val (.list Y2) (.own 122 .no)), (18, .val (.int .i64) .no), (19, .val (.int .i64) .no)])]),
  (92, [(2, [(0, .val (.list (.int .i64)) .no), (1, .val (.int .i64) .no), (7, .val (.int .i64) .no), (8, .val (.int .i64) .no)])])]
noncomputable def prims : List (Nat × (List SV → Option (List PV))) := [(77, primRepeat), (80, (primClone Y3 32)), (93, (primInsert Y3 32))]
noncomputable def elfs : List (Nat × List (Nat × Fl)) := [(75, [(6400, (.own 82 .no)), (8704, (.own 82 .no))])]
noncomputable def cfg : Cfg := ⟨Tryz.prog, asc tis, asc fns, realOf [], altsOf [] [], asc sigs, asc2 loops, fun t i => (asc2 elfs t i).getD .no, asc prims⟩
theorem fns_ok : FnsOK Tryz.prog [] fns := ⟨Tryz.func3, Tryz.func4, Tryz.func5, Tryz.func6, Tryz.func7, Tryz.func8, Tryz.func9, Tryz.func10, Tryz.func11, Tryz.func12, Tryz.func13, Tryz.func14, Tryz.func15, Tryz.func16, Tryz.func17, Tryz.func18, Tryz.func19, Tryz.func20, Tryz.func21, Tryz.func22, Tryz.func23, Tryz.func24, Tryz.func25, Tryz.func26, Tryz.func27, Tryz.func28, Tryz.func29, Tryz.func30, Tryz.func31, Tryz.func32, Tryz.func33, Tryz.func34, Tryz.func35, Tryz.func36, Tryz.func37, Tryz.func38, Tryz.func39, Tryz.func40, Tryz.func41, Tryz.func42, Tryz.func43, Tryz.func44, Tryz.func45, Tryz.func46, Tryz.func47, Tryz.func48, Tryz.func49, Tryz.func50, Tryz.func51, Tryz.func52, Tryz.func53, Tryz.func54, Tryz.func55, Tryz.func56, Tryz.func57, Tryz.func58, Tryz.func59, Tryz.func60, Tryz.func61, Tryz.func62, Tryz.func63, Tryz.func64, Tryz.func65, Tryz.func66, Tryz.func67, Tryz.func68, Tryz.func69, Tryz.func70, Tryz.func71, Tryz.func72, Tryz.func73, Tryz.func74, Tryz.func75, Tryz.func76, Tryz.func77, Tryz.func78, Tryz.func79, Tryz.func80, Tryz.func81, Tryz.func82, Tryz.func83, Tryz.func84, Tryz.func85, Tryz.func86, Tryz.func87, Tryz.func88, Tryz.func89, Tryz.func90, Tryz.func91, Tryz.func92, Tryz.func93, Tryz.func100, trivial⟩
theorem cfg_ok : cfg.OK := Cfg.OK.of (C := cfg) (tis := tis) (fns := fns) (sigs := sigs) (rl := []) (al := []) rfl rfl rfl rfl rfl (by kernel_rfl) fns_ok (by kernel_rfl) (by kernel_rfl) (by kernel_rfl)
/-- The text of a loop; slots. -/
noncomputable abbrev LA (f : Nat) (F : Func) (p : List Nat) (s : St) := LpAt cfg f (F.body.getD .skip) F.results.toList ((asc sigs f).getD ⟨[], [], []⟩) p s
abbrev vI (k : Nat) (n : Int) : Nat × SV := (k, .v (.int .i64 n))
abbrev vL (k : Nat) (e : Ty) (l : List e.den) : Nat × SV := (k, .v (.list e l))
abbrev vP (k p : Nat) : Nat × SV := (k, .v (.ptr p (.at 0)))
end Go.Proofs.YtpamknpiphgdkaaGreat.S
