import Derived.Test.YtbdaphohbocmhaaGreatPsZa
import Derived.Test.YtbdaphohbocmhaaGreatPsZh
import Derived.Test.YtbdaphohbocmhaaGreatProg
namespace Go.Proofs.YtbdaphohbocmhaaGreat.S
open Go.Ps
set_option linter.unusedVariables false
set_option maxRecDepth 100000
set_option maxHeartbeats 0
abbrev Y0 : Ty := (.pair (.arr (.int .i64) 32) (.int .i64))
abbrev Y1 : Ty := (.pair (.int .i64) (.pair Y0 (.pair (.list (.int .i64)) (.int .i64))))
abbrev Y2 : Ty := (.pair .str (.pair (.int .i64) (.pair (.int .i64) (.pair (.int .i64) (.int .i64)))))
abbrev D0 : Type := Int × (List Int × Int) × List Int × Int
abbrev Y3 : Ty := (.pair (.int .i64) (.pair (.int .i64) .str))
abbrev Y4 : Ty := (.pair (.int .i64) (.pair (.int .i64) (.pair (.int .i64) (.pair (.int .i64) (.int .i64)))))
abbrev Y5 : Ty := (.pair (.int .i64) (.pair (.int .i64) (.int .i64)))
abbrev Y6 : Ty := (.pair .str (.pair (.int .i64) (.pair (.int .i64) (.pair (.int .i64) (.pair (.int .i64) (.int .i64))))))
abbrev D1 : Type := Int × Int × Int × Int × Int
abbrev Y7 : Ty := (.pair (.int .i64) (.int .i64))
abbrev Y8 : Ty := (.pair .str (.pair .str (.list Y2)))
abbrev Y9 : Ty := (.pair (.int .i64) (.pair (.int .i64) (.pair (.int .i64) (.int .i64))))
abbrev Y10 : Ty := (.pair (.list Y4) (.pair (.int .i64) (.pair (.int .i64) (.pair (.list (.int .i64)) (.list (.int .i64))))))
abbrev Y11 : Ty := (.pair (.list (.int .u8)) (.pair (.int .i64) (.int .i64)))
abbrev Y12 : Ty := (.pair (.list Y3) (.pair (.list Y1) (.pair (.list Y6) (.list Y5))))
abbrev D2 : Type := ByteArray × Int × Int × Int × Int × Int
abbrev D3 : Type := Int × Int × ByteArray
abbrev D4 : Type := ByteArray × Int × Int × Int × Int
abbrev D5 : Type := ByteArray × ByteArray × List D4
abbrev D6 : Type := Bool × Bool × Bool
abbrev D7 : Type := Int × Int × Int × Int
abbrev D8 : Type := List D1 × Int × Bool
abbrev D9 : Type := List D1 × Int × Int × List Int × List Int
abbrev D10 : Type := List D3 × List D0 × List D2 × List (Int × Int × Int)
abbrev D11 : Type := List Int × Int × Int
abbrev D12 : Type := Int × List Int × Int × Int
abbrev D13 : Type := List D1 × List Int × Int × Int
abbrev D14 : Type := D5 × List Int × Int × Int
abbrev D15 : Type := Int × List D3 × List D0 × List D2 × List (Int × Int × Int)
abbrev D16 : Type := (List (Int × Int × Int)) × Int
abbrev D17 : Type := (List (Int × Int × Int)) × Int × Int
abbrev D18 : Type := Int × Int × List D3 × List D0 × List D2 × List (Int × Int × Int)
noncomputable def tis : List (Nat × TI) := [
  (3, ⟨.scalar, 1, 8, [.int .i64 0], (.int .i64), false⟩),
  (5, ⟨.scalar, 1, 1, [.int .u8 0], (.int .u8), false⟩),
  (9, ⟨.scalar, 1, 16, [.str (⟨#[]⟩ : ByteArray)], .str, false⟩),
  (22, ⟨(.slice 5), 1, 24, [.nils], (.list (.int .u8)), false⟩),
  (23, ⟨(.slice 97), 1, 24, [.nils], (.list Y3), false⟩),
  (25, ⟨(.struct [(0, 1)] [false] []), 1, 24, [.nils], (.list Y3), false⟩),
  (26, ⟨(.slice 44), 1, 24, [.nils], (.list Y1), false⟩),
  (27, ⟨(.slice 89), 1, 24, [.nils], (.list Y6), false⟩),
  (28, ⟨(.slice 92), 1, 24, [.nils], (.list Y5), false⟩),
  (30, ⟨(.struct [(0, 1), (1, 1), (2, 1), (3, 1)] [true, false, false, false] []), 4, 96, [.nils, .nils, .nils, .nils], Y12, false⟩),
  (33, ⟨(.slice 49), 1, 24, [.nils], (.list Y2), false⟩),
  (35, ⟨(.struct [(0, 1), (1, 1), (2, 1)] [false, false, false] []), 3, 56, [.str (⟨#[]⟩ : ByteArray), .str (⟨#[]⟩ : ByteArray), .nils], Y8, false⟩),
  (39, ⟨(.array 32 3), 32, 256, [.int .i64 0, .int .i64 0, .int .i64 0, .int .i64 0, .int .i64 0, .int .i64 0, .int .i64 0, .int .i64 0, .int .i64 0, .int .i64 0, .int .i64 0, .int .i64 0, .int .i64 0, .int .i64 0, .int .i64 0, .int .i64 0, .int .i64 0, .int .i64 0, .int .i64 0, .int .i64 0, .int .i64 0, .int .i64 0, .int .i64 0, .int .i64 0, .int .i64 0, .int .i64 0, .int .i64 0, .int .i64 0, .int .i64 0, .int .i64 0, .int .i64 0, .int .i64 0], (.arr (.int .i64) 32), false⟩),
  (41, ⟨(.struct [(0, 32), (32, 1)] [true, false] []), 33, 264, [.int .i64 0, .int .i64 0, .int .i64 0, .int .i64 0, .int .i64 0, .int .i64 0, .int .i64 0, .int .i64 0, .int .i64 0, .int .i64 0, .int .i64 0, .int .i64 0, .int .i64 0, .int .i64 0, .int .i64 0, .int .i64 0, .int .i64 0, .int .i64 0, .int .i64 0, .int .i64 0, .int .i64 0, .int .i64 0, .int .i64 0, .int .i64 0, .int .i64 0, .int .i64 0, .int .i64 0, .int .i64 0, .int .i64 0, .int .i64 0, .int .i64 0, .int .i64 0, .int .i64 0], Y0, true⟩),
  (42, ⟨(.slice 3), 1, 24, [.nils], (.list (.int .i64)), false⟩),
  (44, ⟨(.struct [(0, 1), (1, 33), (34, 1), (35, 1)] [false, true, false, false] []), 36, 304, [.int .i64 0, .int .i64 0, .int .i64 0, .int .i64 0, .int .i64 0, .int .i64 0, .int .i64 0, .int .i64 0, .int .i64 0, .int .i64 0, .int .i64 0, .int .i64 0, .int .i64 0, .int .i64 0, .int .i64 0, .int .i64 0, .int .i64 0, .int .i64 0, .int .i64 0, .int .i64 0, .int .i64 0, .int .i64 0, .int .i64 0, .int .i64 0, .int .i64 0, .int .i64 0, .int .i64 0, .int .i64 0, .int .i64 0, .int .i64 0, .int .i64 0, .int .i64 0, .int .i64 0, .int .i64 0, .nils, .int .i64 0], Y1, false⟩),
  (49, ⟨(.struct [(0, 1), (1, 1), (2, 1), (3, 1), (4, 1)] [false, false, false, false, false] []), 5, 48, [.str (⟨#[]⟩ : ByteArray), .int .i64 0, .int .i64 0, .int .i64 0, .int .i64 0], Y2, false⟩),
  (61, ⟨.scalar, 1, 8, [.int .u64 0], (.int .u64), false⟩),
  (75, ⟨(.struct [(0, 1), (1, 1), (2, 1)] [false, false, false] []), 3, 40, [.nils, .int .i64 0, .int .i64 0], Y11, false⟩),
  (76, ⟨(.slice 77), 1, 24, [.nils], (.list (.list Y4)), false⟩),
  (77, ⟨(.slice 83), 1, 24, [.nils], (.list Y4), false⟩),
  (79, ⟨(.slice 9), 1, 24, [.nils], (.list .str), false⟩),
  (83, ⟨(.struct [(0, 1), (1, 1), (2, 1), (3, 1), (4, 1)] [false, false, false, false, false] []), 5, 40, [.int .i64 0, .int .i64 0, .int .i64 0, .int .i64 0, .int .i64 0], Y4, true⟩),
  (85, ⟨.scalar, 1, 8, [.int .u64 0], (.int .u64), false⟩),
  (89, ⟨(.struct [(0, 1), (1, 1), (2, 1), (3, 1), (4, 1), (5, 1)] [false, false, false, false, false, false] []), 6, 56, [.str (⟨#[]⟩ : ByteArray), .int .i64 0, .int .i64 0, .int .i64 0, .int .i64 0, .int .i64 0], Y6, false⟩),
  (92, ⟨(.struct [(0, 1), (1, 1), (2, 1)] [false, false, false] []), 3, 24, [.int .i64 0, .int .i64 0, .int .i64 0], Y5, false⟩),
  (97, ⟨(.struct [(0, 1), (1, 1), (2, 1)] [false, false, false] []), 3, 32, [.int .i64 0, .int .i64 0, .str (⟨#[]⟩ : ByteArray)], Y3, false⟩),
  (105, ⟨(.struct [(0, 1), (1, 1)] [false, false] []), 2, 16, [.int .i64 0, .int .i64 0], Y7, false⟩),
  (132, ⟨(.struct [(0, 1), (1, 1), (2, 1), (3, 1), (4, 1)] [false, false, false, false, false] []), 5, 88, [.nils, .int .i64 0, .int .i64 0, .nils, .nils], Y10, false⟩),
  (137, ⟨(.struct [(0, 1), (1, 1), (2, 1), (3, 1)] [false, false, false, false] []), 4, 32, [.int .i64 0, .int .i64 0, .int .i64 0, .int .i64 0], Y9, false⟩),
  (166, ⟨(.slice 169), 1, 24, [.nils], (.list Y2), false⟩),
  (169, ⟨(.struct [(0, 1), (1, 4)] [false, true] []), 5, 48, [.str (⟨#[]⟩ : ByteArray), .int .i64 0, .int .i64 0, .int .i64 0, .int .i64 0], Y2, false⟩),
  (171, ⟨(.slice 174), 1, 24, [.nils], (.list Y5), false⟩),
  (174, ⟨(.struct [(0, 1), (1, 1), (2, 1)] [false, false, false] []), 3, 24, [.int .i64 0, .int .i64 0, .int .i64 0], Y5, false⟩)]
noncomputable def fns : List (Nat × Func) := [(3, Tryz.f3), (4, Tryz.f4), (5, Tryz.f5), (6, Tryz.f6), (7, Tryz.f7), (8, Tryz.f8), (9, Tryz.f9), (10, Tryz.f10), (11, Tryz.f11), (12, Tryz.f12), (13, Tryz.f13), (14, Tryz.f14), (15, Tryz.f15), (16, Tryz.f16), (17, Tryz.f17), (18, Tryz.f18), (19, Tryz.f19), (20, Tryz.f20), (21, Tryz.f21), (22, Tryz.f22), (23, Tryz.f23), (24, Tryz.f24), (25, Tryz.f25), (26, Tryz.f26), (27, Tryz.f27), (28, Tryz.f28), (29, Tryz.f29), (30, Tryz.f30), (31, Tryz.f31), (32, Tryz.f32), (33, Tryz.f33), (34, Tryz.f34), (35, Tryz.f35), (36, Tryz.f36), (37, Tryz.f37), (38, Tryz.f38), (39, Tryz.f39), (40, Tryz.f40), (41, Tryz.f41), (42, Tryz.f42), (43, Tryz.f43), (44, Tryz.f44), (45, Tryz.f45), (46, Tryz.f46), (47, Tryz.f47), (48, Tryz.f48), (49, Tryz.f49), (50, Tryz.f50), (51, Tryz.f51), (52, Tryz.f52), (53, Tryz.f53), (54, Tryz.f54), (55, Tryz.f55), (56, Tryz.f56), (57, Tryz.f57), (58, Tryz.f58), (59, Tryz.f59), (60, Tryz.f60), (61, Tryz.f61), (62, Tryz.f62), (63, Tryz.f63), (64, Tryz.f64), (65, Tryz.f65), (66, Tryz.f66), (69, Tryz.f69), (70, Tryz.f70), (71, Tryz.f71), (72, Tryz.f72), (73, Tryz.f73), (74, Tryz.f74), (75, Tryz.f75), (76, Tryz.f76), (77, Tryz.f77), (78, Tryz.f78), (79, Tryz.f79), (80, Tryz.f80), (81, Tryz.f81), (82, Tryz.f82), (83, Tryz.f83), (84, Tryz.f84), (85, Tryz.f85), (86, Tryz.f86), (87, Tryz.f87), (88, Tryz.f88), (89, Tryz.f89), (90, Tryz.f90), (91, Tryz.f91), (92, Tryz.f92), (93, Tryz.f93), (94, Tryz.f94), (95, Tryz.f95), (96, Tryz.f96), (97, Tryz.f97), (98, Tryz.f98), (99, Tryz.f99), (100, Tryz.f100), (101, Tryz.f101), (102, Tryz.f102), (103, Tryz.f103), (104, Tryz.f104), (105, Tryz.f105), (106, Tryz.f106), (107, Tryz.f107), (108, Tryz.f108), (109, Tryz.f109), (110, Tryz.f110), (111, Tryz.f111), (112, Tryz.f112), (113, Tryz.f113), (120, Tryz.f120), (123, Tryz.f123), (124, Tryz.f124), (125, Tryz.f125), (126, Tryz.f126), (127, Tryz.f127), (128, Tryz.f128), (129, Tryz.f129), (130, Tryz.f130), (139, Tryz.f139)]
noncomputable def sigs : List (Nat × Sig) := [
  (3, ⟨[.val (.list (.int .u8)), .val (.list (.int .u8))], [(.bool, false)], [.no]⟩),
  (4, ⟨[.val (.list (.int .u8)), .val (.list (.int .u8))], [(.bool, false)], [.no]⟩),
  (5, ⟨[.val Y8], [(Y12, true), ((.int .i64), false)], [(.pair (.own 97 .no) (.pair (.own 44 (.pair .no (.pair .no (.pair (.own 3 .no) .no)))) (.pair (.own 89 .no) (.own 92 .no)))), .no]⟩),
  (6, ⟨[.val (.list (.int .u8))], [(Y8, true)], [(.pair .no (.pair .no (.own 49 .no)))]⟩),
  (7, ⟨[.val (.list (.int .u8))], [((.int .i64), false)], [.no]⟩),
  (8, ⟨[.val (.list (.int .u8)), .val (.int .i64), .val (.int .i64)], [((.int .i64), false)], [.no]⟩),
  (9, ⟨[.val (.int .i64), .val (.int .i64)], [((.int .i64), false)], [.no]⟩),
  (10, ⟨[.val Y12, .val (.int .i64)], [(Y12, true), ((.int .i64), false)], [(.pair (.own 97 .no) (.pair (.own 44 (.pair .no (.pair .no (.pair (.own 3 .no) .no)))) (.pair (.own 89 .no) (.own 92 .no)))), .no]⟩),
  (11, ⟨[.val Y8, .val (.int .i64)], [((.int .i64), false), ((.int .i64), false)], [.no, .no]⟩),
  (12, ⟨[.val (.int .i64)], [((.int .i64), false), ((.int .i64), false)], [.no, .no]⟩),
  (13, ⟨[.val (.int .i64), .val (.int .i64)], [(Y0, true)], [.no]⟩),
  (14, ⟨[.val Y12], [(.bool, false)], [.no]⟩),
  (15, ⟨[.val Y8], [(.bool, false)], [.no]⟩),
  (16, ⟨[.val Y8], [(Y12, true)], [(.pair (.own 97 .no) (.pair (.own 44 (.pair .no (.pair .no (.pair (.own 3 .no) .no)))) (.pair (.own 89 .no) (.own 92 .no))))]⟩),
  (17, ⟨[.val (.list (.int .u8))], [((.opt Y11), false)], [.box]⟩),
  (18, ⟨[.var Y11 .no], [(Y8, true)], [(.pair .no (.pair .no (.own 49 .no)))]⟩),
  (19, ⟨[.var Y11 .no], [((.int .i64), false)], [.no]⟩),
  (20, ⟨[.val Y12], [(Y12, true)], [(.pair (.own 97 .no) (.pair (.own 44 (.pair .no (.pair .no (.pair (.own 3 .no) .no)))) (.pair (.own 89 .no) (.own 92 .no))))]⟩),
  (21, ⟨[.val Y12, .val (.int .i64)], [((.int .i64), false)], [.no]⟩),
  (22, ⟨[.var Y12 (.pair (.own 97 .no) (.pair (.own 44 (.pair .no (.pair .no (.pair (.own 3 .no) .no)))) (.pair (.own 89 .no) (.own 92 .no)))), .val (.int .i64)], [], []⟩),
  (23, ⟨[.val (.int .i64), .val (.int .i64), .val (.int .i64)], [(.bool, false)], [.no]⟩),
  (24, ⟨[.val Y2], [((.int .i64), false)], [.no]⟩),
  (25, ⟨[.val (.int .i64)], [((.int .i64), false)], [.no]⟩),
  (26, ⟨[.val (.list Y3)], [(.bool, false)], [.no]⟩),
  (27, ⟨[.val (.list Y6)], [(.bool, false)], [.no]⟩),
  (28, ⟨[.val (.list Y5)], [(.bool, false)], [.no]⟩),
  (29, ⟨[.val (.list Y1)], [(.bool, false)], [.no]⟩),
  (30, ⟨[.val Y8], [((.int .i64), false), ((.int .i64), false), ((.int .i64), false)], [.no, .no, .no]⟩),
  (31, ⟨[.val Y8], [((.list Y3), true)], [(.own 97 .no)]⟩),
  (32, ⟨[.val Y8], [((.list Y6), false)], [(.own 89 .no)]⟩),
  (33, ⟨[.var Y11 .no, .val (.int .i64)], [((.int .i64), false)], [.no]⟩),
  (34, ⟨[.var Y11 .no], [((.int .i64), false)], [.no]⟩),
  (35, ⟨[.var Y11 .no, .val (.int .i64), .val (.int .i64), .val (.int .i64), .val (.list (.int .i64)), .val (.list (.int .i64))], [((.list Y4), false)], [(.own 83 .no)]⟩),
  (36, ⟨[], [((.list .str), false)], [(.own 9 .no)]⟩),
  (37, ⟨[.val (.list Y4)], [(.str, false)], [.no]⟩),
  (38, ⟨[.val (.int .i64), .val (.int .i64)], [(.str, false)], [.no]⟩),
  (39, ⟨[.var Y11 .no], [((.int .i64), false)], [.no]⟩),
  (40, ⟨[.var Y11 .no], [((.int .i64), false)], [.no]⟩),
  (41, ⟨[.val (.list Y3)], [((.list Y3), true)], [(.own 97 .no)]⟩),
  (42, ⟨[.val (.list Y1)], [((.list Y1), false)], [(.own 44 (.pair .no (.pair .no (.pair (.own 3 .no) .no))))]⟩),
  (43, ⟨[.val (.list Y6)], [((.list Y6), false)], [(.own 89 .no)]⟩),
  (44, ⟨[.val (.list Y5)], [((.list Y5), false)], [(.own 92 .no)]⟩),
  (45, ⟨[.var Y12 (.pair (.own 97 .no) (.pair (.own 44 (.pair .no (.pair .no (.pair (.own 3 .no) .no)))) (.pair (.own 89 .no) (.own 92 .no)))), .val (.int .i64), .val (.int .i64)], [], []⟩),
  (46, ⟨[.var Y12 (.pair (.own 97 .no) (.pair (.own 44 (.pair .no (.pair .no (.pair (.own 3 .no) .no)))) (.pair (.own 89 .no) (.own 92 .no)))), .val (.int .i64), .val (.int .i64)], [((.int .i64), false)], [.no]⟩),
  (47, ⟨[.var Y12 (.pair (.own 97 .no) (.pair (.own 44 (.pair .no (.pair .no (.pair (.own 3 .no) .no)))) (.pair (.own 89 .no) (.own 92 .no)))), .val (.int .i64), .val (.int .i64), .val (.int .i64), .val (.int .i64)], [((.int .i64), false), ((.int .i64), false)], [.no, .no]⟩),
  (48, ⟨[.val (.int .i64)], [(.bool, false)], [.no]⟩),
  (49, ⟨[.val (.int .i64)], [(.bool, false)], [.no]⟩),
  (50, ⟨[.val Y6], [(.bool, false)], [.no]⟩),
  (51, ⟨[.val (.list Y6), .val .str], [((.int .i64), false)], [.no]⟩),
  (52, ⟨[.val Y5, .val Y5], [((.int .i64), false)], [.no]⟩),
  (53, ⟨[.val (.list Y1), .raw], [(.bool, false)], [.no]⟩),
  (54, ⟨[.val Y1], [(.bool, false)], [.no]⟩),
  (55, ⟨[.val Y1], [(.bool, false)], [.no]⟩),
  (56, ⟨[.val Y8, .val (.int .i64), .var Y7 .no], [((.int .i64), false)], [.no]⟩),
  (57, ⟨[.val Y8], [((.list (.int .i64)), false)], [(.own 3 .no)]⟩),
  (58, ⟨[.val .str, .val (.int .i64), .val (.int .i64), .val (.list (.int .i64))], [((.int .i64), false), ((.int .i64), false)], [.no, .no]⟩),
  (59, ⟨[.val (.list Y3), .val (.int .i64), .val (.int .i64), .val .str], [((.list Y3), true)], [(.own 97 .no)]⟩),
  (60, ⟨[.val .str, .val (.int .i64)], [(.str, false)], [.no]⟩),
  (61, ⟨[.var Y11 .no], [((.int .i64), false)], [.no]⟩),
  (62, ⟨[.val (.int .i64)], [((.list Y4), false)], [(.own 83 .no)]⟩),
  (63, ⟨[.var Y11 .no, .val (.int .i64), .val (.int .i64), .val (.int .i64), .val (.list (.int .i64)), .val (.list (.int .i64))], [((.list Y4), false)], [(.own 83 .no)]⟩),
  (64, ⟨[.val (.int .i64)], [((.list Y4), false)], [(.own 83 .no)]⟩),
  (65, ⟨[.val Y4], [((.int .i64), false)], [.no]⟩),
  (66, ⟨[.val (.list Y3)], [((.list Y3), false)], [(.own 97 .no)]⟩),
  (69, ⟨[.val Y0, .val (.int .i64), .val (.int .i64)], [(Y0, true)], [.no]⟩),
  (70, ⟨[.val (.list Y5), .val (.int .i64), .val (.int .i64)], [((.int .i64), false), ((.int .i64), false)], [.no, .no]⟩),
  (71, ⟨[.val (.list Y5), .val (.int .i64), .val (.int .i64), .val (.int .i64)], [((.list Y5), false), ((.int .i64), false)], [(.own 92 .no), .no]⟩),
  (72, ⟨[.val (.list Y5), .val (.int .i64), .val (.int .i64), .val (.int .i64)], [((.list Y5), false), ((.int .i64), false), ((.int .i64), false)], [(.own 92 .no), .no, .no]⟩),
  (73, ⟨[.val (.list Y5), .val (.int .i64), .val (.int .i64), .val (.int .i64)], [((.list Y5), false), ((.int .i64), false)], [(.own 92 .no), .no]⟩),
  (74, ⟨[.val (.list Y5), .val (.int .i64), .val (.int .i64)], [((.list Y5), false), ((.int .i64), false)], [(.own 92 .no), .no]⟩),
  (75, ⟨[.val .str], [(.bool, false)], [.no]⟩),
  (76, ⟨[.val (.int .i64)], [(.bool, false)], [.no]⟩),
  (77, ⟨[.val (.int .i64)], [(.bool, false)], [.no]⟩),
  (78, ⟨[.val (.list Y6), .raw], [((.int .i64), false)], [.no]⟩),
  (79, ⟨[.val Y6, .ro .str], [(.bool, false)], [.no]⟩),
  (80, ⟨[.val (.list (.int .i64))], [((.int .i64), false)], [.no]⟩),
  (81, ⟨[.val (.int .i64), .val (.int .i64)], [((.int .i64), false)], [.no]⟩),
  (82, ⟨[.val (.list Y1), .raw], [((.int .i64), false)], [.no]⟩),
  (83, ⟨[.val Y0], [(.bool, false)], [.no]⟩),
  (84, ⟨[.val .str], [(.bool, false)], [.no]⟩),
  (85, ⟨[.val .str], [((.list Y4), false), ((.int .i64), false), (.bool, false)], [(.own 83 .no), .no, .no]⟩),
  (86, ⟨[.val (.int .i64)], [((.list Y4), false)], [(.own 83 .no)]⟩),
  (87, ⟨[.val (.list Y4), .val (.list Y4)], [(.bool, false)], [.no]⟩),
  (88, ⟨[.val (.int .i64)], [((.list Y4), false)], [(.own 83 .no)]⟩),
  (89, ⟨[.ro Y10, .val (.int .i64)], [((.int .i64), false)], [.no]⟩),
  (90, ⟨[.val (.list Y3), .val (.int .i64), .val (.int .i64)], [((.list Y3), true)], [(.own 97 .no)]⟩),
  (91, ⟨[.val (.list Y3), .val (.int .i64), .val .str], [((.list Y3), true)], [(.own 97 .no)]⟩),
  (92, ⟨[.val .str, .val (.int .i64)], [(.str, false)], [.no]⟩),
  (93, ⟨[.var Y11 .no], [((.int .i64), false)], [.no]⟩),
  (94, ⟨[.val (.int .i64)], [(Y9, true)], [.no]⟩),
  (95, ⟨[.val (.int .i64), .val (.int .i64), .val (.int .i64), .val (.int .i64)], [((.int .i64), false)], [.no]⟩),
  (96, ⟨[.val (.int .i64), .val (.int .i64)], [((.int .i64), false)], [.no]⟩),
  (97, ⟨[.val (.list Y5), .val (.int .i64)], [((.int .i64), false)], [.no]⟩),
  (98, ⟨[.val (.list Y5), .val (.int .i64), .val (.int .i64)], [((.int .i64), false), (.bool, false)], [.no, .no]⟩),
  (99, ⟨[.give (.list Y5) (.own 92 .no), .val (.int .i64), .val (.list Y5)], [((.list Y5), false)], [(.own 92 .no)]⟩),
  (100, ⟨[.give (.list Y5) (.own 92 .no), .val (.int .i64), .val (.int .i64)], [((.list Y5), false)], [(.own 92 .no)]⟩),
  (101, ⟨[.val (.int .u8)], [(.bool, false)], [.no]⟩),
  (102, ⟨[.val (.int .u8)], [(.bool, false)], [.no]⟩),
  (103, ⟨[.val (.int .i64)], [(.bool, false)], [.no]⟩),
  (104, ⟨[.val .str], [(.bool, false)], [.no]⟩),
  (105, ⟨[.val (.int .i64)], [(Y4, true), (.bool, false)], [.no, .no]⟩),
  (106, ⟨[.val .str], [((.int .i64), false)], [.no]⟩),
  (107, ⟨[.val (.list (.int .i64)), .val (.int .i64)], [(.bool, false)], [.no]⟩),
  (108, ⟨[.ro Y10, .val (.int .i64)], [(.bool, false)], [.no]⟩),
  (109, ⟨[.val (.int .i64)], [(.bool, false)], [.no]⟩),
  (110, ⟨[.val (.int .i64)], [(.bool, false)], [.no]⟩),
  (111, ⟨[.val (.int .i64)], [(.bool, false)], [.no]⟩),
  (112, ⟨[.val (.int .i64)], [((.int .i64), false), (.bool, false)], [.no, .no]⟩),
  (113, ⟨[.give (.list Y3) (.own 97 .no), .val (.int .i64), .val (.list Y3)], [((.list Y3), false)], [(.own 97 .no)]⟩),
  (120, ⟨[.val (.list Y5), .val Y5, .raw], [((.int .i64), false), (.bool, false)], [.no, .no]⟩),
  (123, ⟨[], [((.list Y2), false)], [(.own 169 .no)]⟩),
  (124, ⟨[.val (.int .i64), .val (.int .i64), .val (.int .i64)], [((.int .i64), false)], [.no]⟩),
  (125, ⟨[.val (.int .i64)], [((.list Y5), false)], [(.own 174 .no)]⟩),
  (126, ⟨[.val (.int .i64)], [((.int .i64), false)], [.no]⟩),
  (127, ⟨[.val (.int .i64), .val (.int .i64)], [((.int .i64), false)], [.no]⟩),
  (128, ⟨[.val (.int .i64)], [(.bool, false), (.bool, false), (.bool, false)], [.no, .no, .no]⟩),
  (129, ⟨[.val Y4], [((.int .i64), false)], [.no]⟩),
  (130, ⟨[.val (.list (.int .i64)), .val (.int .i64)], [((.int .i64), false)], [.no]⟩),
  (139, ⟨[.val (.int .i64)], [(Y9, true)], [.no]⟩)]
noncomputable def loops : List (Nat × List (Nat × List (Nat × LK))) := [
  (3, [(9, [(1, .val (.list (.int .u8)) .no), (5, .box Y12 (.pair (.own 97 .no) (.pair (.own 44 (.pair .no (.pair .no (.pair (.own 3 .no) .no)))) (.pair (.own 89 .no) (.own 92 .no))))), (7, .val (.int .i64) .no), (8, .val (.int .i64) .no), (9, .val (.int .i64) .no)])]),
  (4, [(10, [(5, .box Y8 (.pair .no (.pair .no (.own 49 .no)))), (6, .box Y12 (.pair (.own 97 .no) (.pair (.own 44 (.pair .no (.pair .no (.pair (.own 3 .no) .no)))) (.pair (.own 89 .no) (.own 92 .no))))), (8, .val (.int .i64) .no), (9, .val (.int .i64) .no), (10, .val (.int .i64) .no)])]),
  (18, [(5, [(0, .par Y11 .no), (2, .box Y8 (.pair .no (.pair .no (.own 49 .no)))), (3, .val (.int .i64) .no), (4, .val (.int .i64) .no), (5, .val (.list (.int .i64)) (.own 3 .no)), (6, .val (.int .i64) .no)]), (10, [(0, .par Y11 .no), (2, .box Y8 (.pair .no (.pair .no (.own 49 .no)))), (3, .val (.int .i64) .no), (4, .val (.int .i64) .no), (5, .val (.list (.int .i64)) (.own 3 .no)), (7, .val (.list (.int .i64)) (.own 3 .no)), (8, .val (.int .i64) .no)]), (16, [(0, .par Y11 .no), (2, .box Y8 (.pair .no (.pair .no (.own 49 .no)))), (3, .val (.int .i64) .no), (4, .val (.int .i64) .no), (5, .val (.list (.int .i64)) .no), (7, .val (.list (.int .i64)) .no), (9, .box Y8 (.pair .no (.pair .no (.own 49 .no)))), (10, .val (.list (.list Y4)) (.own 77 (.own 83 .no))), (11, .val (.int .i64) .no)]), (25, [(0, .par Y11 .no), (2, .box Y8 (.pair .no (.pair .no (.own 49 .no)))), (3, .val (.int .i64) .no), (4, .val (.int .i64) .no), (9, .box Y8 (.pair .no (.pair .no (.own 49 .no)))), (10, .val (.list (.list Y4)) (.own 77 (.own 83 .no))), (14, .val (.int .i64) .no)]), (36, [(0, .par Y11 .no), (2, .box Y8 (.pair .no (.pair .no (.own 49 .no)))), (4, .val (.int .i64) .no), (9, .box Y8 (.pair .no (.pair .no (.own 49 .no)))), (18, .val (.int .i64) .no)]), (29, [(0, .par Y11 .no), (2, .box Y8 (.pair .no (.pair .no (.own 49 .no)))), (3, .val (.int .i64) .no), (4, .val (.int .i64) .no), (9, .box Y8 (.pair .no (.pair .no (.own 49 .no)))), (10, .val (.list (.list Y4)) (.own 77 (.own 83 .no))), (14, .val (.int .i64) .no), (15, .sub 10 0), (16, .val (.int .i64) .no)])]),
  (26, [(4, [(1, .box (.list Y3) .no), (10, .val (.list Y3) .no), (11, .val (.int .i64) .no), (12, .val (.int .i64) .no)])]),
  (27, [(4, [(0, .val (.list Y6) .no), (8, .val (.list Y6) .no), (9, .val (.int .i64) .no), (10, .val (.int .i64) .no)])]),
  (28, [(4, [(0, .val (.list Y5) .no), (8, .val (.list Y5) .no), (9, .val (.int .i64) .no), (10, .val (.int .i64) .no)])]),
  (30, [(7, [(1, .box Y8 .no), (5, .box Y7 .no), (31, .val (.int .i64) .no), (32, .val (.int .i64) .no)]), (19, [(1, .box Y8 .no), (8, .val (.list (.int .i64)) (.own 3 .no)), (66, .val (.list Y2) .no), (67, .val (.int .i64) .no), (68, .val (.int .i64) .no)])]),
  (31, [(7, [(2, .box (.list Y3) (.own 97 .no)), (3, .box (.list Y3) (.own 97 .no)), (21, .val (.int .i64) .no)])]),
  (32, [(3, [(3, .val (.list Y6) (.own 89 .no)), (7, .val (.list Y2) .no), (8, .val (.int .i64) .no), (9, .val (.int .i64) .no)])]),
  (35, [(3, [(0, .par Y11 .no), (1, .val (.int .i64) .no), (2, .val (.int .i64) .no), (3, .val (.int .i64) .no), (4, .val (.list (.int .i64)) .no), (5, .val (.list (.int .i64)) .no), (13, .val (.list Y4) (.own 83 .no)), (14, .val (.int .i64) .no)])]),
  (37, [(3, [(0, .val (.list Y4) .no), (3, .val .str .no), (4, .val (.int .i64) .no)])]),
  (38, [(3, [(0, .val (.int .i64) .no), (1, .val (.int .i64) .no), (5, .val (.list (.int .u8)) (.own 5 .no)), (6, .val (.int .i64) .no)])]),
  (56, [(5, [(2, .par Y7 .no), (3, .box Y8 .no), (7, .box Y2 .no), (22, .val (.list Y2) .no), (23, .val (.int .i64) .no), (24, .val (.int .i64) .no)])]),
  (57, [(3, [(3, .val (.list (.int .i64)) (.own 3 .no)), (7, .val (.list Y2) .no), (8, .val (.int .i64) .no), (9, .val (.int .i64) .no)])]),
  (58, [(11, [(1, .val (.int .i64) .no), (2, .val (.int .i64) .no), (3, .val (.list (.int .i64)) .no), (10, .val (.list Y4) (.own 83 .no)), (42, .val (.list Y4) (.own 83 .no)), (43, .val (.int .i64) .no), (44, .val (.int .i64) .no)]), (21, [(2, .val (.int .i64) .no), (10, .val (.list Y4) .no), (16, .box Y10 (.pair .no (.pair .no (.pair .no (.pair .no (.own 3 .no)))))), (17, .val (.int .i64) .no)]), (26, [(10, .val (.list Y4) .no), (16, .box Y10 (.pair .no (.pair .no (.pair .no (.pair .no (.own 3 .no)))))), (18, .val (.int .i64) .no)])]),
  (59, [(2, [(1, .val (.int .i64) .no), (2, .val (.int .i64) .no), (3, .val .str .no), (4, .box (.list Y3) .no), (8, .box (.list Y3) (.own 97 .no)), (9, .val (.int .i64) .no)])]),
  (65, [(10, [(1, .box Y4 .no), (4, .val (.int .i64) .no), (5, .val (.int .i64) .no)]), (30, [(1, .box Y4 .no), (4, .val (.int .i64) .no), (7, .val (.int .i64) .no)]), (46, [(1, .box Y4 .no), (4, .val (.int .i64) .no), (9, .val (.int .i64) .no)])]),
  (75, [(4, [(0, .val .str .no), (3, .val (.int .i64) .no)])]),
  (78, [(2, [(0, .val (.list Y6) .no), (1, .keep), (7, .val (.int .i64) .no), (8, .val (.int .i64) .no)])]),
  (80, [(3, [(3, .val (.int .i64) .no), (6, .val (.list (.int .i64)) .no), (7, .val (.int .i64) .no), (8, .val (.int .i64) .no)])]),
  (82, [(2, [(0, .val (.list Y1) .no), (1, .keep), (7, .val (.int .i64) .no), (8, .val (.int .i64) .no)])]),
  (85, [(3, [(0, .val .str .no), (5, .val (.list Y4) (.own 83 .no)), (6, .val (.int .i64) .no)])]),
  (87, [(4, [(0, .val (.list Y4) .no), (1, .val (.list Y4) .no), (12, .val (.int .i64) .no), (13, .val (.int .i64) .no)])]),
  (90, [(2, [(1, .val (.int .i64) .no), (2, .val (.int .i64) .no), (3, .box (.list Y3) .no), (6, .box (.list Y3) (.own 97 .no)), (7, .val (.int .i64) .no)])]),
  (91, [(3, [(1, .val (.int .i64) .no), (2, .val .str .no), (6, .box (.list Y3) (.own 97 .no)), (7, .box (.list Y3) (.own 97 .no)), (16, .same 7 (some 0)), (17, .val (.int .i64) .no), (18, .val (.int .i64) .no)]), (7, [(1, .val (.int .i64) .no), (2, .val .str .no), (6, .box (.list Y3) (.own 97 .no)), (7, .box (.list Y3) (.own 97 .no)), (8, .val (.int .i64) .no), (9, .box Y3 .no), (10, .val (.list (.int .u8)) (.own 5 .box)), (16, .same 7 (some 0)), (17, .val (.int .i64) .no), (18, .val (.int .i64) .no), (27, .val (.int .i64) .no), (28, .val (.int .i64) .no)])]),
  (95, [(3, [(0, .val (.int .i64) .no), (1, .val (.int .i64) .no), (2, .val (.int .i64) .no), (3, .val (.int .i64) .no), (9, .val (.int .i64) .no), (10, .val (.int .i64) .no)])]),
  (105, [(2, [(0, .val (.int .i64) .no), (2, .box Y4 .no), (14, .val (.list Y2) (.own 169 .no)), (15, .val (.int .i64) .no), (16, .val (.int .i64) .no)]), (8, [(0, .val (.int .i64) .no), (2, .box Y4 .no), (6, .box Y9 .no), (7, .box Y4 .no), (14, .val (.list Y2) (.own 169 .no)), (15, .val (.int .i64) .no), (16, .val (.int .i64) .no), (36, .val (.list Y5) (.own 174 .no)), (37, .val (.int .i64) .no), (38, .val (.int .i64) .no)])]),
  (106, [(3, [(0, .val .str .no), (3, .val (.int .i64) .no), (4, .val (.int .i64) .no)])]),
  (120, [(3, [(0, .val (.list Y5) .no), (2, .keep), (4, .box Y5 .no), (8, .val (.int .i64) .no), (9, .val (.int .i64) .no), (10, .val (.int .i64) .no)])]),
  (129, [(4, [(1, .box Y4 .no), (3, .box Y9 .no), (4, .val (.int .i64) .no), (17, .val (.list Y5) (.own 174 .no)), (18, .val (.int .i64) .no), (19, .val (.int .i64) .no)])]),
  (130, [(2, [(0, .val (.list (.int .i64)) .no), (1, .val (.int .i64) .no), (7, .val (.int .i64) .no), (8, .val (.int .i64) .no)])])]
noncomputable def prims : List (Nat × (List SV → Option (List PV))) := [(42, primOwn), (43, (primClone Y6 56)), (44, (primClone Y5 24)), (66, (primClone Y3 32)), (92, primRepeat), (99, (primInsert Y5 24)), (113, (primInsert Y3 32))]
noncomputable def elfs : List (Nat × List (Nat × Fl)) := [(26, [(1920, (.pair .no (.pair .no (.pair (.own 3 .no) .no)))), (7168, (.pair .no (.pair .no (.pair (.own 3 .no) .no))))]), (76, [(6400, (.own 83 .no)), (8704, (.own 83 .no))])]
noncomputable def cfg : Cfg := ⟨Tryz.prog, asc tis, asc fns, realOf [], altsOf [] [], asc sigs, asc2 loops, fun t i => (asc2 elfs t i).getD .no, asc prims⟩
theorem fns_ok : FnsOK Tryz.prog [] fns := ⟨Tryz.func3, Tryz.func4, Tryz.func5, Tryz.func6, Tryz.func7, Tryz.func8, Tryz.func9, Tryz.func10, Tryz.func11, Tryz.func12, Tryz.func13, Tryz.func14, Tryz.func15, Tryz.func16, Tryz.func17, Tryz.func18, Tryz.func19, Tryz.func20, Tryz.func21, Tryz.func22, Tryz.func23, Tryz.func24, Tryz.func25, Tryz.func26, Tryz.func27, Tryz.func28, Tryz.func29, Tryz.func30, Tryz.func31, Tryz.func32, Tryz.func33, Tryz.func34, Tryz.func35, Tryz.func36, Tryz.func37, Tryz.func38, Tryz.func39, Tryz.func40, Tryz.func41, Tryz.func42, Tryz.func43, Tryz.func44, Tryz.func45, Tryz.func46, Tryz.func47, Tryz.func48, Tryz.func49, Tryz.func50, Tryz.func51, Tryz.func52, Tryz.func53, Tryz.func54, Tryz.func55, Tryz.func56, Tryz.func57, Tryz.func58, Tryz.func59, Tryz.func60, Tryz.func61, Tryz.func62, Tryz.func63, Tryz.func64, Tryz.func65, Tryz.func66, Tryz.func69, Tryz.func70, Tryz.func71, Tryz.func72, Tryz.func73, Tryz.func74, Tryz.func75, Tryz.func76, Tryz.func77, Tryz.func78, Tryz.func79, Tryz.func80, Tryz.func81, Tryz.func82, Tryz.func83, Tryz.func84, Tryz.func85, Tryz.func86, Tryz.func87, Tryz.func88, Tryz.func89, Tryz.func90, Tryz.func91, Tryz.func92, Tryz.func93, Tryz.func94, Tryz.func95, Tryz.func96, Tryz.func97, Tryz.func98, Tryz.func99, Tryz.func100, Tryz.func101, Tryz.func102, Tryz.func103, Tryz.func104, Tryz.func105, Tryz.func106, Tryz.func107, Tryz.func108, Tryz.func109, Tryz.func110, Tryz.func111, Tryz.func112, Tryz.func113, Tryz.func120, Tryz.func123, Tryz.func124, Tryz.func125, Tryz.func126, Tryz.func127, Tryz.func128, Tryz.func129, Tryz.func130, Tryz.func139, trivial⟩
theorem cfg_ok : cfg.OK := Cfg.OK.of (C := cfg) (tis := tis) (fns := fns) (sigs := sigs) (rl := []) (al := []) rfl rfl rfl rfl rfl (by kernel_rfl) fns_ok (by kernel_rfl) (by kernel_rfl) (by kernel_rfl)
/-- The text of a loop; slots. -/
noncomputable abbrev LA (f : Nat) (F : Func) (p : List Nat) (s : St) := LpAt cfg f (F.body.getD .skip) F.results.toList ((asc sigs f).getD ⟨[], [], []⟩) p s
abbrev vI (k : Nat) (n : Int) : Nat × SV := (k, .v (.int .i64 n))
abbrev vL (k : Nat) (e : Ty) (l : List e.den) : Nat × SV := (k, .v (.list e l))
abbrev vP (k p : Nat) : Nat × SV := (k, .v (.ptr p (.at 0)))
end Go.Proofs.YtbdaphohbocmhaaGreat.S
