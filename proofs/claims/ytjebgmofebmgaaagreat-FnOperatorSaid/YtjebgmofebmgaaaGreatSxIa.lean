import Derived.Test.YtjebgmofebmgaaaGreatPsZa
import Derived.Test.YtjebgmofebmgaaaGreatPsZh
import Derived.Test.YtjebgmofebmgaaaGreatProg
namespace Go.Proofs.YtjebgmofebmgaaaGreat.S
open Go.Ps
set_option linter.unusedVariables false
set_option maxRecDepth 100000
set_option maxHeartbeats 0
abbrev Y0 : Ty := (.pair (.arr (.int .i64) 32) (.int .i64))
abbrev Y1 : Ty := (.pair (.int .i64) (.pair Y0 (.pair (.list (.int .i64)) (.int .i64))))
abbrev Y2 : Ty := (.pair .str (.pair (.int .i64) (.pair (.int .i64) (.pair (.int .i64) (.pair (.int .i64) (.int .i64))))))
abbrev Y3 : Ty := (.pair (.int .i64) (.pair (.int .i64) (.int .i64)))
abbrev Y4 : Ty := (.pair (.int .i64) (.pair (.int .i64) .str))
abbrev D0 : Type := Int × (List Int × Int) × List Int × Int
abbrev Y5 : Ty := (.pair .str (.pair .bool (.pair (.int .i64) .str)))
abbrev Y6 : Ty := (.pair (.int .i64) (.pair (.int .i64) (.pair (.int .i64) (.pair .str (.int .i64)))))
abbrev Y7 : Ty := (.pair .str (.pair (.int .i64) (.pair (.list Y5) (.pair (.list (.pair .str .str)) (.pair (.list Y6) (.list (.pair (.int .i64) .bool)))))))
abbrev Y8 : Ty := (.pair (.list (.int .i64)) (.pair (.list .str) (.pair (.list (.int .i64)) (.list .str))))
abbrev Y9 : Ty := (.pair (.int .i64) (.int .i64))
abbrev Y10 : Ty := (.pair Y7 (.pair Y8 (.list Y9)))
abbrev Y11 : Ty := (.pair .str (.pair (.int .i64) (.pair (.int .i64) (.pair (.int .i64) (.int .i64)))))
abbrev Y12 : Ty := (.pair (.int .i64) (.pair (.int .i64) (.pair (.int .i64) (.pair (.int .i64) (.int .i64)))))
abbrev D1 : Type := ByteArray × Bool × Int × ByteArray
abbrev D2 : Type := ByteArray × ByteArray
abbrev D3 : Type := Int × Int × Int × ByteArray × Int
abbrev D4 : Type := ByteArray × Int × List D1 × List D2 × List D3 × List (Int × Bool)
abbrev D5 : Type := List Int × List ByteArray × List Int × List ByteArray
abbrev D6 : Type := D4 × D5 × List (Int × Int)
abbrev D7 : Type := Int × Int × Int × Int × Int
abbrev Y13 : Ty := (.pair .str (.pair .str (.list Y11)))
abbrev Y14 : Ty := (.pair (.int .i64) (.pair (.int .i64) (.pair (.int .i64) (.int .i64))))
abbrev Y15 : Ty := (.pair (.list Y12) (.pair (.int .i64) (.pair (.int .i64) (.pair (.list (.int .i64)) (.list (.int .i64))))))
abbrev Y16 : Ty := (.pair (.list (.int .u8)) (.pair (.int .i64) (.int .i64)))
abbrev Y17 : Ty := (.pair (.list Y2) (.pair (.list Y12) (.pair (.list Y4) (.pair Y3 (.pair (.int .i64) (.pair (.int .i64) (.int .i64)))))))
abbrev Y18 : Ty := (.pair (.list Y4) (.pair (.list Y1) (.pair (.list Y2) (.list Y3))))
abbrev Y19 : Ty := (.pair Y13 (.pair Y18 (.list Y10)))
abbrev Y20 : Ty := (.pair (.int .i64) (.pair (.int .i64) (.pair (.int .i64) (.pair (.int .i64) .str))))
abbrev D8 : Type := ByteArray × Int × Int × Int × Int
abbrev D9 : Type := Int × Int × ByteArray
abbrev D10 : Type := ByteArray × Int × Int × Int × Int × Int
abbrev D11 : Type := List D9 × List D0 × List D10 × List (Int × Int × Int)
abbrev D12 : Type := Int × List D9 × List D0 × List D10 × List (Int × Int × Int)
abbrev D13 : Type := ByteArray × ByteArray × List D8
abbrev D14 : Type := D13 × D11 × List D6
abbrev D15 : Type := List D10 × List D7 × List D9 × (Int × Int × Int) × Int × Int × Int
abbrev D16 : Type := Int × D13 × D11 × List D6
abbrev D17 : Type := D5 × (List (Int × Int)) × Int × List D10 × List D7 × List D9 × (Int × Int × Int) × Int × Int × Int
abbrev D18 : Type := Bool × Bool × Bool
abbrev D19 : Type := Int × Int × Int × Int
abbrev D20 : Type := List D7 × Int × Bool
abbrev D21 : Type := List D7 × Int × Int × List Int × List Int
abbrev D22 : Type := List Int × Int × Int
abbrev D23 : Type := Int × List Int × Int × Int
abbrev D24 : Type := List D7 × List Int × Int × Int
abbrev D25 : Type := D13 × List Int × Int × Int
abbrev D26 : Type := Int × Int × Int × Int × ByteArray
abbrev D27 : Type := (List (Int × Int × Int)) × Int
abbrev D28 : Type := (List (Int × Int × Int)) × Int × Int
abbrev D29 : Type := Int × Int × D13 × D11 × List D6
abbrev D30 : Type := Int × Int × List D9 × List D0 × List D10 × List (Int × Int × Int)
noncomputable def tis : List (Nat × TI) := [
  (3, ⟨.scalar, 1, 8, [.int .i64 0], (.int .i64), false⟩),
  (4, ⟨.scalar, 1, 1, [.bool false], .bool, false⟩),
  (5, ⟨.scalar, 1, 1, [.int .u8 0], (.int .u8), false⟩),
  (9, ⟨.scalar, 1, 16, [.str (⟨#[]⟩ : ByteArray)], .str, false⟩),
  (22, ⟨(.slice 5), 1, 24, [.nils], (.list (.int .u8)), false⟩),
  (23, ⟨(.slice 81), 1, 24, [.nils], (.list Y11), false⟩),
  (25, ⟨(.struct [(0, 1), (1, 1), (2, 1)] [false, false, false] []), 3, 56, [.str (⟨#[]⟩ : ByteArray), .str (⟨#[]⟩ : ByteArray), .nils], Y13, false⟩),
  (26, ⟨(.slice 175), 1, 24, [.nils], (.list Y4), false⟩),
  (28, ⟨(.struct [(0, 1)] [false] []), 1, 24, [.nils], (.list Y4), false⟩),
  (29, ⟨(.slice 50), 1, 24, [.nils], (.list Y1), false⟩),
  (30, ⟨(.slice 111), 1, 24, [.nils], (.list Y2), false⟩),
  (31, ⟨(.slice 114), 1, 24, [.nils], (.list Y3), false⟩),
  (33, ⟨(.struct [(0, 1), (1, 1), (2, 1), (3, 1)] [true, false, false, false] []), 4, 96, [.nils, .nils, .nils, .nils], Y18, false⟩),
  (34, ⟨(.slice 146), 1, 24, [.nils], (.list Y10), false⟩),
  (36, ⟨(.struct [(0, 3), (3, 4), (7, 1)] [true, true, false] []), 8, 176, [.str (⟨#[]⟩ : ByteArray), .str (⟨#[]⟩ : ByteArray), .nils, .nils, .nils, .nils, .nils, .nils], Y19, false⟩),
  (44, ⟨(.struct [(0, 1), (1, 1), (2, 1), (3, 1), (4, 1)] [false, false, false, false, false] []), 5, 48, [.int .i64 0, .int .i64 0, .int .i64 0, .int .i64 0, .str (⟨#[]⟩ : ByteArray)], Y20, false⟩),
  (45, ⟨(.array 32 3), 32, 256, [.int .i64 0, .int .i64 0, .int .i64 0, .int .i64 0, .int .i64 0, .int .i64 0, .int .i64 0, .int .i64 0, .int .i64 0, .int .i64 0, .int .i64 0, .int .i64 0, .int .i64 0, .int .i64 0, .int .i64 0, .int .i64 0, .int .i64 0, .int .i64 0, .int .i64 0, .int .i64 0, .int .i64 0, .int .i64 0, .int .i64 0, .int .i64 0, .int .i64 0, .int .i64 0, .int .i64 0, .int .i64 0, .int .i64 0, .int .i64 0, .int .i64 0, .int .i64 0], (.arr (.int .i64) 32), false⟩),
  (47, ⟨(.struct [(0, 32), (32, 1)] [true, false] []), 33, 264, [.int .i64 0, .int .i64 0, .int .i64 0, .int .i64 0, .int .i64 0, .int .i64 0, .int .i64 0, .int .i64 0, .int .i64 0, .int .i64 0, .int .i64 0, .int .i64 0, .int .i64 0, .int .i64 0, .int .i64 0, .int .i64 0, .int .i64 0, .int .i64 0, .int .i64 0, .int .i64 0, .int .i64 0, .int .i64 0, .int .i64 0, .int .i64 0, .int .i64 0, .int .i64 0, .int .i64 0, .int .i64 0, .int .i64 0, .int .i64 0, .int .i64 0, .int .i64 0, .int .i64 0], Y0, false⟩),
  (48, ⟨(.slice 3), 1, 24, [.nils], (.list (.int .i64)), false⟩),
  (50, ⟨(.struct [(0, 1), (1, 33), (34, 1), (35, 1)] [false, true, false, false] []), 36, 304, [.int .i64 0, .int .i64 0, .int .i64 0, .int .i64 0, .int .i64 0, .int .i64 0, .int .i64 0, .int .i64 0, .int .i64 0, .int .i64 0, .int .i64 0, .int .i64 0, .int .i64 0, .int .i64 0, .int .i64 0, .int .i64 0, .int .i64 0, .int .i64 0, .int .i64 0, .int .i64 0, .int .i64 0, .int .i64 0, .int .i64 0, .int .i64 0, .int .i64 0, .int .i64 0, .int .i64 0, .int .i64 0, .int .i64 0, .int .i64 0, .int .i64 0, .int .i64 0, .int .i64 0, .int .i64 0, .nils, .int .i64 0], Y1, false⟩),
  (60, ⟨(.slice 9), 1, 24, [.nils], (.list .str), false⟩),
  (70, ⟨(.slice 157), 1, 24, [.nils], (.list Y12), false⟩),
  (72, ⟨(.struct [(0, 1), (1, 1), (2, 1)] [false, false, false] []), 3, 24, [.int .i64 0, .int .i64 0, .int .i64 0], Y3, false⟩),
  (74, ⟨(.struct [(0, 1), (1, 1), (2, 1), (3, 3), (6, 3)] [false, false, true, true, true] []), 9, 120, [.nils, .nils, .nils, .int .i64 0, .int .i64 0, .int .i64 0, .int .i64 0, .int .i64 0, .int .i64 0], Y17, false⟩),
  (81, ⟨(.struct [(0, 1), (1, 1), (2, 1), (3, 1), (4, 1)] [false, false, false, false, false] []), 5, 48, [.str (⟨#[]⟩ : ByteArray), .int .i64 0, .int .i64 0, .int .i64 0, .int .i64 0], Y11, false⟩),
  (87, ⟨(.struct [(0, 1), (1, 1), (2, 1)] [false, false, false] []), 3, 40, [.nils, .int .i64 0, .int .i64 0], Y16, false⟩),
  (88, ⟨(.slice 89), 1, 24, [.nils], (.list (.list Y12)), false⟩),
  (89, ⟨(.slice 94), 1, 24, [.nils], (.list Y12), false⟩),
  (94, ⟨(.struct [(0, 1), (1, 1), (2, 1), (3, 1), (4, 1)] [false, false, false, false, false] []), 5, 40, [.int .i64 0, .int .i64 0, .int .i64 0, .int .i64 0, .int .i64 0], Y12, true⟩),
  (111, ⟨(.struct [(0, 1), (1, 1), (2, 1), (3, 1), (4, 1), (5, 1)] [false, false, false, false, false, false] []), 6, 56, [.str (⟨#[]⟩ : ByteArray), .int .i64 0, .int .i64 0, .int .i64 0, .int .i64 0, .int .i64 0], Y2, true⟩),
  (114, ⟨(.struct [(0, 1), (1, 1), (2, 1)] [false, false, false] []), 3, 24, [.int .i64 0, .int .i64 0, .int .i64 0], Y3, false⟩),
  (123, ⟨(.struct [(0, 1), (1, 1)] [false, false] []), 2, 16, [.int .i64 0, .int .i64 0], Y9, false⟩),
  (132, ⟨.scalar, 1, 8, [.int .u64 0], (.int .u64), false⟩),
  (133, ⟨.scalar, 1, 8, [.int .u64 0], (.int .u64), false⟩),
  (136, ⟨(.slice 205), 1, 24, [.nils], (.list Y5), false⟩),
  (137, ⟨(.slice 208), 1, 24, [.nils], (.list (.pair .str .str)), false⟩),
  (138, ⟨(.slice 211), 1, 24, [.nils], (.list Y6), false⟩),
  (139, ⟨(.slice 214), 1, 24, [.nils], (.list (.pair (.int .i64) .bool)), false⟩),
  (141, ⟨(.struct [(0, 1), (1, 1), (2, 1), (3, 1), (4, 1), (5, 1)] [false, false, false, false, false, false] []), 6, 120, [.str (⟨#[]⟩ : ByteArray), .int .i64 0, .nils, .nils, .nils, .nils], Y7, false⟩),
  (143, ⟨(.struct [(0, 1), (1, 1), (2, 1), (3, 1)] [false, false, false, false] []), 4, 96, [.nils, .nils, .nils, .nils], Y8, false⟩),
  (144, ⟨(.slice 150), 1, 24, [.nils], (.list Y9), false⟩),
  (146, ⟨(.struct [(0, 6), (6, 4), (10, 1)] [true, true, false] []), 11, 240, [.str (⟨#[]⟩ : ByteArray), .int .i64 0, .nils, .nils, .nils, .nils, .nils, .nils, .nils, .nils, .nils], Y10, false⟩),
  (150, ⟨(.struct [(0, 1), (1, 1)] [false, false] []), 2, 16, [.int .i64 0, .int .i64 0], Y9, true⟩),
  (157, ⟨(.struct [(0, 1), (1, 1), (2, 1), (3, 1), (4, 1)] [false, false, false, false, false] []), 5, 40, [.int .i64 0, .int .i64 0, .int .i64 0, .int .i64 0, .int .i64 0], Y12, false⟩),
  (175, ⟨(.struct [(0, 1), (1, 1), (2, 1)] [false, false, false] []), 3, 32, [.int .i64 0, .int .i64 0, .str (⟨#[]⟩ : ByteArray)], Y4, false⟩),
  (196, ⟨(.struct [(0, 1), (1, 1), (2, 1), (3, 1), (4, 1)] [false, false, false, false, false] []), 5, 88, [.nils, .int .i64 0, .int .i64 0, .nils, .nils], Y15, false⟩),
  (200, ⟨(.struct [(0, 1), (1, 1), (2, 1), (3, 1)] [false, false, false, false] []), 4, 32, [.int .i64 0, .int .i64 0, .int .i64 0, .int .i64 0], Y14, false⟩),
  (205, ⟨(.struct [(0, 1), (1, 1), (2, 1), (3, 1)] [false, false, false, false] []), 4, 48, [.str (⟨#[]⟩ : ByteArray), .bool false, .int .i64 0, .str (⟨#[]⟩ : ByteArray)], Y5, false⟩),
  (208, ⟨(.struct [(0, 1), (1, 1)] [false, false] []), 2, 32, [.str (⟨#[]⟩ : ByteArray), .str (⟨#[]⟩ : ByteArray)], (.pair .str .str), false⟩),
  (211, ⟨(.struct [(0, 1), (1, 1), (2, 1), (3, 1), (4, 1)] [false, false, false, false, false] []), 5, 48, [.int .i64 0, .int .i64 0, .int .i64 0, .str (⟨#[]⟩ : ByteArray), .int .i64 0], Y6, false⟩),
  (214, ⟨(.struct [(0, 1), (1, 1)] [false, false] []), 2, 16, [.int .i64 0, .bool false], (.pair (.int .i64) .bool), false⟩),
  (260, ⟨(.slice 263), 1, 24, [.nils], (.list Y11), false⟩),
  (263, ⟨(.struct [(0, 1), (1, 4)] [false, true] []), 5, 48, [.str (⟨#[]⟩ : ByteArray), .int .i64 0, .int .i64 0, .int .i64 0, .int .i64 0], Y11, false⟩),
  (265, ⟨(.slice 268), 1, 24, [.nils], (.list Y3), false⟩),
  (268, ⟨(.struct [(0, 1), (1, 1), (2, 1)] [false, false, false] []), 3, 24, [.int .i64 0, .int .i64 0, .int .i64 0], Y3, false⟩)]
noncomputable def fns : List (Nat × Func) := [(3, Tryz.f3), (4, Tryz.f4), (5, Tryz.f5), (6, Tryz.f6), (7, Tryz.f7), (8, Tryz.f8), (9, Tryz.f9), (10, Tryz.f10), (11, Tryz.f11), (12, Tryz.f12), (13, Tryz.f13), (14, Tryz.f14), (15, Tryz.f15), (16, Tryz.f16), (17, Tryz.f17), (18, Tryz.f18), (19, Tryz.f19), (20, Tryz.f20), (21, Tryz.f21), (22, Tryz.f22), (23, Tryz.f23), (24, Tryz.f24), (25, Tryz.f25), (26, Tryz.f26), (27, Tryz.f27), (28, Tryz.f28), (29, Tryz.f29), (30, Tryz.f30), (31, Tryz.f31), (32, Tryz.f32), (33, Tryz.f33), (34, Tryz.f34), (35, Tryz.f35), (36, Tryz.f36), (37, Tryz.f37), (38, Tryz.f38), (39, Tryz.f39), (40, Tryz.f40), (41, Tryz.f41), (42, Tryz.f42), (43, Tryz.f43), (44, Tryz.f44), (45, Tryz.f45), (46, Tryz.f46), (47, Tryz.f47), (48, Tryz.f48), (49, Tryz.f49), (50, Tryz.f50), (51, Tryz.f51), (52, Tryz.f52), (53, Tryz.f53), (54, Tryz.f54), (55, Tryz.f55), (56, Tryz.f56), (57, Tryz.f57), (58, Tryz.f58), (59, Tryz.f59), (60, Tryz.f60), (61, Tryz.f61), (62, Tryz.f62), (63, Tryz.f63), (64, Tryz.f64), (65, Tryz.f65), (66, Tryz.f66), (67, Tryz.f67), (68, Tryz.f68), (69, Tryz.f69), (70, Tryz.f70), (71, Tryz.f71), (72, Tryz.f72), (73, Tryz.f73), (74, Tryz.f74), (75, Tryz.f75), (76, Tryz.f76), (77, Tryz.f77), (86, Tryz.f86), (91, Tryz.f91), (92, Tryz.f92), (93, Tryz.f93), (94, Tryz.f94), (95, Tryz.f95), (96, Tryz.f96), (97, Tryz.f97), (98, Tryz.f98), (99, Tryz.f99), (100, Tryz.f100), (101, Tryz.f101), (102, Tryz.f102), (103, Tryz.f103), (105, Tryz.f105), (106, Tryz.f106), (107, Tryz.f107), (108, Tryz.f108), (109, Tryz.f109), (110, Tryz.f110), (111, Tryz.f111), (112, Tryz.f112), (113, Tryz.f113), (114, Tryz.f114), (115, Tryz.f115), (116, Tryz.f116), (117, Tryz.f117), (118, Tryz.f118), (119, Tryz.f119), (120, Tryz.f120), (121, Tryz.f121), (122, Tryz.f122), (123, Tryz.f123), (124, Tryz.f124), (125, Tryz.f125), (126, Tryz.f126), (127, Tryz.f127), (128, Tryz.f128), (129, Tryz.f129), (130, Tryz.f130), (131, Tryz.f131), (132, Tryz.f132), (134, Tryz.f134), (139, Tryz.f139), (141, Tryz.f141), (144, Tryz.f144), (146, Tryz.f146), (147, Tryz.f147), (148, Tryz.f148), (149, Tryz.f149), (150, Tryz.f150), (151, Tryz.f151), (152, Tryz.f152), (153, Tryz.f153), (154, Tryz.f154), (155, Tryz.f155), (156, Tryz.f156), (157, Tryz.f157), (158, Tryz.f158), (159, Tryz.f159), (162, Tryz.f162), (163, Tryz.f163), (164, Tryz.f164), (165, Tryz.f165), (166, Tryz.f166), (167, Tryz.f167), (168, Tryz.f168), (169, Tryz.f169), (170, Tryz.f170), (171, Tryz.f171), (179, Tryz.f179), (180, Tryz.f180), (181, Tryz.f181), (182, Tryz.f182), (183, Tryz.f183), (184, Tryz.f184), (187, Tryz.f187), (204, Tryz.f204), (207, Tryz.f207), (208, Tryz.f208), (209, Tryz.f209), (210, Tryz.f210), (211, Tryz.f211), (219, Tryz.f219), (242, Tryz.f242), (243, Tryz.f243), (244, Tryz.f244), (271, Tryz.f271)]
noncomputable def sigs : List (Nat × Sig) := [
  (3, ⟨[.val (.list (.int .u8)), .val (.list (.int .u8))], [(.bool, false)], [.no]⟩),
  (4, ⟨[.val Y13], [(Y19, true), ((.int .i64), false)], [(.pair (.pair .no (.pair .no (.own 81 .no))) (.pair (.pair (.own 175 .no) (.pair (.own 50 (.pair .no (.pair .no (.pair (.own 3 .no) .no)))) (.pair (.own 111 .no) (.own 114 .no)))) (.own 146 (.pair (.pair .no (.pair .no (.pair (.own 205 .no) (.pair (.own 208 .no) (.pair (.own 211 .no) (.own 214 .no)))))) (.pair (.pair (.own 3 .no) (.pair (.own 9 .no) (.pair (.own 3 .no) (.own 9 .no)))) (.own 150 .no)))))), .no]⟩),
  (5, ⟨[.val (.list (.int .u8))], [(Y13, true)], [(.pair .no (.pair .no (.own 81 .no)))]⟩),
  (6, ⟨[.val (.list (.int .u8)), .val (.int .i64), .val (.int .i64)], [((.int .i64), false)], [.no]⟩),
  (7, ⟨[.val Y19, .val (.list .str), .val Y20], [(Y19, true), ((.int .i64), false), ((.int .i64), false)], [(.pair (.pair .no (.pair .no (.own 81 .no))) (.pair (.pair (.own 175 .no) (.pair (.own 50 (.pair .no (.pair .no (.pair (.own 3 .no) .no)))) (.pair (.own 111 .no) (.own 114 .no)))) (.own 146 (.pair (.pair .no (.pair .no (.pair (.own 205 .no) (.pair (.own 208 .no) (.pair (.own 211 .no) (.own 214 .no)))))) (.pair (.pair (.own 3 .no) (.pair (.own 9 .no) (.pair (.own 3 .no) (.own 9 .no)))) (.own 150 .no)))))), .no, .no]⟩),
  (8, ⟨[.val Y18, .val (.int .i64)], [(Y18, true), ((.int .i64), false)], [(.pair (.own 175 .no) (.pair (.own 50 (.pair .no (.pair .no (.pair (.own 3 .no) .no)))) (.pair (.own 111 .no) (.own 114 .no)))), .no]⟩),
  (9, ⟨[.val Y19], [(.bool, false)], [.no]⟩),
  (10, ⟨[.val Y13], [(.bool, false)], [.no]⟩),
  (11, ⟨[.val Y13], [(Y13, true)], [(.pair .no (.pair .no (.own 81 .no)))]⟩),
  (12, ⟨[.val Y13], [(Y18, true)], [(.pair (.own 175 .no) (.pair (.own 50 (.pair .no (.pair .no (.pair (.own 3 .no) .no)))) (.pair (.own 111 .no) (.own 114 .no))))]⟩),
  (13, ⟨[.val (.list (.int .u8))], [((.opt Y16), false)], [.box]⟩),
  (14, ⟨[.var Y16 .no], [(Y13, true)], [(.pair .no (.pair .no (.own 81 .no)))]⟩),
  (15, ⟨[.val (.list .str)], [(.bool, false)], [.no]⟩),
  (16, ⟨[.val Y20], [(.bool, false)], [.no]⟩),
  (17, ⟨[.val Y19], [(Y19, true)], [(.pair (.pair .no (.pair .no (.own 81 .no))) (.pair (.pair (.own 175 .no) (.pair (.own 50 (.pair .no (.pair .no (.pair (.own 3 .no) .no)))) (.pair (.own 111 .no) (.own 114 .no)))) (.own 146 (.pair (.pair .no (.pair .no (.pair (.own 205 .no) (.pair (.own 208 .no) (.pair (.own 211 .no) (.own 214 .no)))))) (.pair (.pair (.own 3 .no) (.pair (.own 9 .no) (.pair (.own 3 .no) (.own 9 .no)))) (.own 150 .no))))))]⟩),
  (18, ⟨[.var Y19 (.pair (.pair .no (.pair .no (.own 81 .no))) (.pair (.pair (.own 175 .no) (.pair (.own 50 (.pair .no (.pair .no (.pair (.own 3 .no) .no)))) (.pair (.own 111 .no) (.own 114 .no)))) (.own 146 (.pair (.pair .no (.pair .no (.pair (.own 205 .no) (.pair (.own 208 .no) (.pair (.own 211 .no) (.own 214 .no)))))) (.pair (.pair (.own 3 .no) (.pair (.own 9 .no) (.pair (.own 3 .no) (.own 9 .no)))) (.own 150 .no)))))), .val (.list .str), .val Y20], [((.int .i64), false), ((.int .i64), false)], [.no, .no]⟩),
  (19, ⟨[.val Y18], [(.bool, false)], [.no]⟩),
  (20, ⟨[.val Y18], [(Y18, true)], [(.pair (.own 175 .no) (.pair (.own 50 (.pair .no (.pair .no (.pair (.own 3 .no) .no)))) (.pair (.own 111 .no) (.own 114 .no))))]⟩),
  (21, ⟨[.val Y18, .val (.int .i64)], [((.int .i64), false)], [.no]⟩),
  (22, ⟨[.var Y18 (.pair (.own 175 .no) (.pair (.own 50 (.pair .no (.pair .no (.pair (.own 3 .no) .no)))) (.pair (.own 111 .no) (.own 114 .no)))), .val (.int .i64)], [], []⟩),
  (23, ⟨[.val Y19], [(Y17, true), (.bool, false)], [(.pair (.own 111 .no) (.pair (.own 157 .no) (.pair (.own 175 .no) (.pair .no .no)))), .no]⟩),
  (24, ⟨[.val Y13], [((.int .i64), false), ((.int .i64), false), ((.int .i64), false)], [.no, .no, .no]⟩),
  (25, ⟨[.val (.list Y11)], [((.list Y11), false)], [(.own 81 .no)]⟩),
  (26, ⟨[.val Y13], [((.list Y4), true)], [(.own 175 .no)]⟩),
  (27, ⟨[.val Y13], [((.list Y2), false)], [(.own 111 .no)]⟩),
  (28, ⟨[.val (.int .i64), .val (.int .i64)], [(Y0, true)], [.no]⟩),
  (29, ⟨[.val Y11], [((.int .i64), false)], [.no]⟩),
  (30, ⟨[.val (.int .i64)], [((.int .i64), false)], [.no]⟩),
  (31, ⟨[.var Y16 .no, .val (.int .i64)], [((.int .i64), false)], [.no]⟩),
  (32, ⟨[.var Y16 .no], [((.int .i64), false)], [.no]⟩),
  (33, ⟨[.var Y16 .no, .val (.int .i64), .val (.int .i64), .val (.int .i64), .val (.list (.int .i64)), .val (.list (.int .i64))], [((.list Y12), false)], [(.own 94 .no)]⟩),
  (34, ⟨[], [((.list .str), false)], [(.own 9 .no)]⟩),
  (35, ⟨[.val (.list Y12)], [(.str, false)], [.no]⟩),
  (36, ⟨[.val (.int .i64), .val (.int .i64)], [(.str, false)], [.no]⟩),
  (37, ⟨[.val (.list .str), .raw], [(.bool, false)], [.no]⟩),
  (38, ⟨[.val .str], [(.bool, false)], [.no]⟩),
  (39, ⟨[.val (.int .i64), .val (.int .i64), .val (.int .i64)], [(.bool, false)], [.no]⟩),
  (40, ⟨[.val .str], [(.bool, false)], [.no]⟩),
  (41, ⟨[.val (.list Y10)], [((.list Y10), false)], [(.own 146 (.pair (.pair .no (.pair .no (.pair (.own 205 .no) (.pair (.own 208 .no) (.pair (.own 211 .no) (.own 214 .no)))))) (.pair (.pair (.own 3 .no) (.pair (.own 9 .no) (.pair (.own 3 .no) (.own 9 .no)))) (.own 150 .no))))]⟩),
  (42, ⟨[.var Y18 (.pair (.own 175 .no) (.pair (.own 50 (.pair .no (.pair .no (.pair (.own 3 .no) .no)))) (.pair (.own 111 .no) (.own 114 .no)))), .val (.int .i64)], [], []⟩),
  (43, ⟨[.var Y18 (.pair (.own 175 .no) (.pair (.own 50 (.pair .no (.pair .no (.pair (.own 3 .no) .no)))) (.pair (.own 111 .no) (.own 114 .no)))), .val (.int .i64)], [((.int .i64), false)], [.no]⟩),
  (44, ⟨[.var Y19 (.pair (.pair .no (.pair .no (.own 81 .no))) (.pair (.pair (.own 175 .no) (.pair (.own 50 (.pair .no (.pair .no (.pair (.own 3 .no) .no)))) (.pair (.own 111 .no) (.own 114 .no)))) (.own 146 (.pair (.pair .no (.pair .no (.pair (.own 205 .no) (.pair (.own 208 .no) (.pair (.own 211 .no) (.own 214 .no)))))) (.pair (.pair (.own 3 .no) (.pair (.own 9 .no) (.pair (.own 3 .no) (.own 9 .no)))) (.own 150 .no)))))), .val Y17, .val .str], [((.int .i64), false)], [.no]⟩),
  (45, ⟨[.var Y19 (.pair (.pair .no (.pair .no (.own 81 .no))) (.pair (.pair (.own 175 .no) (.pair (.own 50 (.pair .no (.pair .no (.pair (.own 3 .no) .no)))) (.pair (.own 111 .no) (.own 114 .no)))) (.own 146 (.pair (.pair .no (.pair .no (.pair (.own 205 .no) (.pair (.own 208 .no) (.pair (.own 211 .no) (.own 214 .no)))))) (.pair (.pair (.own 3 .no) (.pair (.own 9 .no) (.pair (.own 3 .no) (.own 9 .no)))) (.own 150 .no)))))), .val Y17, .val .str], [((.int .i64), false)], [.no]⟩),
  (46, ⟨[.val (.list Y3), .val Y20], [((.list Y3), false), ((.int .i64), false), ((.int .i64), false)], [(.own 114 .no), .no, .no]⟩),
  (47, ⟨[.val (.list Y4)], [(.bool, false)], [.no]⟩),
  (48, ⟨[.val (.list Y2)], [(.bool, false)], [.no]⟩),
  (49, ⟨[.val (.list Y3)], [(.bool, false)], [.no]⟩),
  (50, ⟨[.val (.list Y1)], [(.bool, false)], [.no]⟩),
  (51, ⟨[.val (.list Y4)], [((.list Y4), true)], [(.own 175 .no)]⟩),
  (52, ⟨[.val (.list Y1)], [((.list Y1), false)], [(.own 50 (.pair .no (.pair .no (.pair (.own 3 .no) .no))))]⟩),
  (53, ⟨[.val (.list Y2)], [((.list Y2), false)], [(.own 111 .no)]⟩),
  (54, ⟨[.val (.list Y3)], [((.list Y3), false)], [(.own 114 .no)]⟩),
  (55, ⟨[.var Y18 (.pair (.own 175 .no) (.pair (.own 50 (.pair .no (.pair .no (.pair (.own 3 .no) .no)))) (.pair (.own 111 .no) (.own 114 .no)))), .val (.int .i64), .val (.int .i64)], [], []⟩),
  (56, ⟨[.var Y18 (.pair (.own 175 .no) (.pair (.own 50 (.pair .no (.pair .no (.pair (.own 3 .no) .no)))) (.pair (.own 111 .no) (.own 114 .no)))), .val (.int .i64), .val (.int .i64)], [((.int .i64), false)], [.no]⟩),
  (57, ⟨[.var Y18 (.pair (.own 175 .no) (.pair (.own 50 (.pair .no (.pair .no (.pair (.own 3 .no) .no)))) (.pair (.own 111 .no) (.own 114 .no)))), .val (.int .i64), .val (.int .i64), .val (.int .i64), .val (.int .i64)], [((.int .i64), false), ((.int .i64), false)], [.no, .no]⟩),
  (58, ⟨[.val Y13, .val (.list Y10), .val .bool], [(Y17, true), (.bool, false)], [(.pair (.own 111 .no) (.pair (.own 157 .no) (.pair (.own 175 .no) (.pair .no .no)))), .no]⟩),
  (59, ⟨[.val (.list Y2), .val (.list Y2)], [(.bool, false)], [.no]⟩),
  (60, ⟨[.val (.list Y4), .val (.list Y4)], [(.bool, false)], [.no]⟩),
  (61, ⟨[.val Y13, .val (.int .i64), .var Y9 .no], [((.int .i64), false)], [.no]⟩),
  (62, ⟨[.val Y13], [((.list (.int .i64)), false)], [(.own 3 .no)]⟩),
  (63, ⟨[.val .str, .val (.int .i64), .val (.int .i64), .val (.list (.int .i64))], [((.int .i64), false), ((.int .i64), false)], [.no, .no]⟩),
  (64, ⟨[.val (.list Y4), .val (.int .i64), .val (.int .i64), .val .str], [((.list Y4), true)], [(.own 175 .no)]⟩),
  (65, ⟨[.val .str, .val (.int .i64)], [(.str, false)], [.no]⟩),
  (66, ⟨[.var Y16 .no], [((.int .i64), false)], [.no]⟩),
  (67, ⟨[.val (.int .i64)], [((.list Y12), false)], [(.own 94 .no)]⟩),
  (68, ⟨[.var Y16 .no, .val (.int .i64), .val (.int .i64), .val (.int .i64), .val (.list (.int .i64)), .val (.list (.int .i64))], [((.list Y12), false)], [(.own 94 .no)]⟩),
  (69, ⟨[.val (.int .i64)], [((.list Y12), false)], [(.own 94 .no)]⟩),
  (70, ⟨[.val Y12], [((.int .i64), false)], [.no]⟩),
  (71, ⟨[.val (.list .str), .raw], [((.int .i64), false)], [.no]⟩),
  (72, ⟨[.val (.int .u8)], [(.bool, false)], [.no]⟩),
  (73, ⟨[.val (.int .u8)], [(.bool, false)], [.no]⟩),
  (74, ⟨[.val Y7], [(Y7, true)], [(.pair .no (.pair .no (.pair (.own 205 .no) (.pair (.own 208 .no) (.pair (.own 211 .no) (.own 214 .no))))))]⟩),
  (75, ⟨[.val (.list Y9)], [((.list Y9), false)], [(.own 150 .no)]⟩),
  (76, ⟨[.val (.list (.int .i64))], [((.list (.int .i64)), false)], [(.own 3 .no)]⟩),
  (77, ⟨[.val (.list .str)], [((.list .str), false)], [(.own 9 .no)]⟩),
  (86, ⟨[.val (.list Y4), .val (.int .i64), .val .str], [((.list Y4), true)], [(.own 175 .no)]⟩),
  (91, ⟨[.val (.list Y3), .val (.int .i64), .val (.int .i64), .val (.int .i64)], [((.list Y3), false), ((.int .i64), false)], [(.own 114 .no), .no]⟩),
  (92, ⟨[.val (.list Y3), .val (.int .i64), .val (.int .i64), .val (.int .i64)], [((.list Y3), false), ((.int .i64), false)], [(.own 114 .no), .no]⟩),
  (93, ⟨[.val (.list Y3), .val (.int .i64), .val (.int .i64)], [((.list Y3), false), ((.int .i64), false)], [(.own 114 .no), .no]⟩),
  (94, ⟨[.val (.list Y3), .val (.int .i64), .val (.int .i64)], [((.int .i64), false), ((.int .i64), false)], [.no, .no]⟩),
  (95, ⟨[.val (.int .i64)], [(.bool, false)], [.no]⟩),
  (96, ⟨[.val (.int .i64)], [(.bool, false)], [.no]⟩),
  (97, ⟨[.val Y2], [(.bool, false)], [.no]⟩),
  (98, ⟨[.val (.list Y2), .val .str], [((.int .i64), false)], [.no]⟩),
  (99, ⟨[.val Y3, .val Y3], [((.int .i64), false)], [.no]⟩),
  (100, ⟨[.val (.list Y1), .raw], [(.bool, false)], [.no]⟩),
  (101, ⟨[.val Y1], [(.bool, false)], [.no]⟩),
  (102, ⟨[.val Y1], [(.bool, false)], [.no]⟩),
  (103, ⟨[.val (.list Y4)], [((.list Y4), false)], [(.own 175 .no)]⟩),
  (105, ⟨[.val Y0, .val (.int .i64), .val (.int .i64)], [(Y0, true)], [.no]⟩),
  (106, ⟨[.val (.list Y3), .val (.int .i64), .val (.int .i64), .val (.int .i64)], [((.list Y3), false), ((.int .i64), false), ((.int .i64), false)], [(.own 114 .no), .no, .no]⟩),
  (107, ⟨[.val Y13], [(Y17, true)], [(.pair (.own 111 .no) (.pair (.own 157 .no) (.pair (.own 175 .no) (.pair .no .no))))]⟩),
  (108, ⟨[.val Y7], [(.bool, false)], [.no]⟩),
  (109, ⟨[.val Y7, .val Y7], [(.bool, false)], [.no]⟩),
  (110, ⟨[.var Y17 (.pair (.own 111 .no) (.pair (.own 157 .no) (.pair (.own 175 .no) (.pair .no .no)))), .val Y7, .val (.int .i64)], [(Y8, true), ((.list Y9), false), ((.int .i64), false)], [(.pair (.own 3 .no) (.pair (.own 9 .no) (.pair (.own 3 .no) (.own 9 .no)))), (.own 150 .no), .no]⟩),
  (111, ⟨[.val Y8, .val Y8], [(.bool, false)], [.no]⟩),
  (112, ⟨[.val (.list Y9), .val (.list Y9)], [(.bool, false)], [.no]⟩),
  (113, ⟨[.val (.list Y4), .val (.list Y4), .raw], [(.bool, false)], [.no]⟩),
  (114, ⟨[.val Y4, .val Y4], [(.bool, false)], [.no]⟩),
  (115, ⟨[.val (.int .i64)], [(.bool, false)], [.no]⟩),
  (116, ⟨[.val (.int .i64)], [(.bool, false)], [.no]⟩),
  (117, ⟨[.val .str], [(.bool, false)], [.no]⟩),
  (118, ⟨[.val .str], [((.list Y12), false), ((.int .i64), false), (.bool, false)], [(.own 94 .no), .no, .no]⟩),
  (119, ⟨[.val (.int .i64)], [((.list Y12), false)], [(.own 94 .no)]⟩),
  (120, ⟨[.val (.list Y12), .val (.list Y12)], [(.bool, false)], [.no]⟩),
  (121, ⟨[.val (.int .i64)], [((.list Y12), false)], [(.own 94 .no)]⟩),
  (122, ⟨[.ro Y15, .val (.int .i64)], [((.int .i64), false)], [.no]⟩),
  (123, ⟨[.val (.list Y4), .val (.int .i64), .val (.int .i64)], [((.list Y4), true)], [(.own 175 .no)]⟩),
  (124, ⟨[.val .str, .val (.int .i64)], [(.str, false)], [.no]⟩),
  (125, ⟨[.var Y16 .no], [((.int .i64), false)], [.no]⟩),
  (126, ⟨[.val (.int .i64)], [(Y14, true)], [.no]⟩),
  (127, ⟨[.val (.int .i64), .val (.int .i64), .val (.int .i64), .val (.int .i64)], [((.int .i64), false)], [.no]⟩),
  (128, ⟨[.val (.int .i64), .val (.int .i64)], [((.int .i64), false)], [.no]⟩),
  (129, ⟨[.val (.list Y5)], [((.list Y5), false)], [(.own 205 .no)]⟩),
  (130, ⟨[.val (.list (.pair .str .str))], [((.list (.pair .str .str)), false)], [(.own 208 .no)]⟩),
  (131, ⟨[.val (.list Y6)], [((.list Y6), false)], [(.own 211 .no)]⟩),
  (132, ⟨[.val (.list (.pair (.int .i64) .bool))], [((.list (.pair (.int .i64) .bool)), false)], [(.own 214 .no)]⟩),
  (134, ⟨[.val (.int .i64)], [(Y12, true), (.bool, false)], [.no, .no]⟩),
  (139, ⟨[.val .str], [((.int .i64), false)], [.no]⟩),
  (141, ⟨[.val Y12], [((.int .i64), false)], [.no]⟩),
  (144, ⟨[.val (.list Y2), .raw], [((.int .i64), false)], [.no]⟩),
  (146, ⟨[.val (.list Y3), .val (.int .i64)], [((.int .i64), false)], [.no]⟩),
  (147, ⟨[.val (.list Y3), .val (.int .i64), .val (.int .i64)], [((.int .i64), false), (.bool, false)], [.no, .no]⟩),
  (148, ⟨[.give (.list Y3) (.own 114 .no), .val (.int .i64), .val (.list Y3)], [((.list Y3), false)], [(.own 114 .no)]⟩),
  (149, ⟨[.give (.list Y3) (.own 114 .no), .val (.int .i64), .val (.int .i64)], [((.list Y3), false)], [(.own 114 .no)]⟩),
  (150, ⟨[.val Y2, .ro .str], [(.bool, false)], [.no]⟩),
  (151, ⟨[.val (.list (.int .i64))], [((.int .i64), false)], [.no]⟩),
  (152, ⟨[.val (.int .i64), .val (.int .i64)], [((.int .i64), false)], [.no]⟩),
  (153, ⟨[.val (.list Y1), .raw], [((.int .i64), false)], [.no]⟩),
  (154, ⟨[.val Y0], [(.bool, false)], [.no]⟩),
  (155, ⟨[.val Y13], [((.list Y12), false)], [(.own 157 .no)]⟩),
  (156, ⟨[.val Y7], [((.int .i64), false), ((.int .i64), false)], [.no, .no]⟩),
  (157, ⟨[.val (.list (.pair (.int .i64) .bool)), .raw], [(.bool, false)], [.no]⟩),
  (158, ⟨[.val (.pair (.int .i64) .bool), .ro Y7], [(.bool, false)], [.no]⟩),
  (159, ⟨[.val Y7, .val (.int .i64)], [(.bool, false)], [.no]⟩),
  (162, ⟨[.val (.list (.int .i64)), .val (.list (.int .i64))], [(.bool, false)], [.no]⟩),
  (163, ⟨[.val (.list .str), .val (.list .str)], [(.bool, false)], [.no]⟩),
  (164, ⟨[.val .str], [(.bool, false)], [.no]⟩),
  (165, ⟨[.val (.list (.int .i64)), .val (.int .i64)], [(.bool, false)], [.no]⟩),
  (166, ⟨[.ro Y15, .val (.int .i64)], [(.bool, false)], [.no]⟩),
  (167, ⟨[.val (.int .i64)], [(.bool, false)], [.no]⟩),
  (168, ⟨[.val (.int .i64)], [(.bool, false)], [.no]⟩),
  (169, ⟨[.val (.int .i64)], [(.bool, false)], [.no]⟩),
  (170, ⟨[.val (.int .i64)], [((.int .i64), false), (.bool, false)], [.no, .no]⟩),
  (171, ⟨[.give (.list Y4) (.own 175 .no), .val (.int .i64), .val (.list Y4)], [((.list Y4), false)], [(.own 175 .no)]⟩),
  (179, ⟨[], [((.list Y11), false)], [(.own 263 .no)]⟩),
  (180, ⟨[.val (.int .i64), .val (.int .i64), .val (.int .i64)], [((.int .i64), false)], [.no]⟩),
  (181, ⟨[.val (.int .i64)], [((.list Y3), false)], [(.own 268 .no)]⟩),
  (182, ⟨[.val (.int .i64)], [((.int .i64), false)], [.no]⟩),
  (183, ⟨[.val (.int .i64), .val (.int .i64)], [((.int .i64), false)], [.no]⟩),
  (184, ⟨[.val (.int .i64)], [(.bool, false), (.bool, false), (.bool, false)], [.no, .no, .no]⟩),
  (187, ⟨[.val (.int .i64)], [(Y14, true)], [.no]⟩),
  (204, ⟨[.val (.list Y3), .val Y3, .raw], [((.int .i64), false), (.bool, false)], [.no, .no]⟩),
  (207, ⟨[.val (.int .i64)], [(.bool, false)], [.no]⟩),
  (208, ⟨[.val Y7, .val .str, .val (.int .i64)], [((.int .i64), false)], [.no]⟩),
  (209, ⟨[.val Y7, .val (.int .i64)], [((.int .i64), false)], [.no]⟩),
  (210, ⟨[.val (.list (.pair (.int .i64) .bool)), .raw], [((.int .i64), false)], [.no]⟩),
  (211, ⟨[.val (.pair (.int .i64) .bool), .ro (.int .i64)], [(.bool, false)], [.no]⟩),
  (219, ⟨[.val (.list (.int .i64)), .val (.int .i64)], [((.int .i64), false)], [.no]⟩),
  (242, ⟨[.val (.list .str), .val .str], [(.bool, false)], [.no]⟩),
  (243, ⟨[.val Y7, .val (.int .i64)], [((.list .str), false)], [.no]⟩),
  (244, ⟨[.val Y7], [((.list (.int .i64)), false)], [(.own 3 .no)]⟩),
  (271, ⟨[.val (.list .str), .val .str], [((.int .i64), false)], [.no]⟩)]
noncomputable def loops : List (Nat × List (Nat × List (Nat × LK))) := [
  (14, [(5, [(0, .par Y16 .no), (2, .box Y13 (.pair .no (.pair .no (.own 81 .no)))), (3, .val (.int .i64) .no), (4, .val (.int .i64) .no), (5, .val (.list (.int .i64)) (.own 3 .no)), (6, .val (.int .i64) .no)]), (10, [(0, .par Y16 .no), (2, .box Y13 (.pair .no (.pair .no (.own 81 .no)))), (3, .val (.int .i64) .no), (4, .val (.int .i64) .no), (5, .val (.list (.int .i64)) (.own 3 .no)), (7, .val (.list (.int .i64)) (.own 3 .no)), (8, .val (.int .i64) .no)]), (16, [(0, .par Y16 .no), (2, .box Y13 (.pair .no (.pair .no (.own 81 .no)))), (3, .val (.int .i64) .no), (4, .val (.int .i64) .no), (5, .val (.list (.int .i64)) .no), (7, .val (.list (.int .i64)) .no), (9, .box Y13 (.pair .no (.pair .no (.own 81 .no)))), (10, .val (.list (.list Y12)) (.own 89 (.own 94 .no))), (11, .val (.int .i64) .no)]), (25, [(0, .par Y16 .no), (2, .box Y13 (.pair .no (.pair .no (.own 81 .no)))), (3, .val (.int .i64) .no), (4, .val (.int .i64) .no), (9, .box Y13 (.pair .no (.pair .no (.own 81 .no)))), (10, .val (.list (.list Y12)) (.own 89 (.own 94 .no))), (14, .val (.int .i64) .no)]), (36, [(0, .par Y16 .no), (2, .box Y13 (.pair .no (.pair .no (.own 81 .no)))), (4, .val (.int .i64) .no), (9, .box Y13 (.pair .no (.pair .no (.own 81 .no)))), (18, .val (.int .i64) .no)]), (29, [(0, .par Y16 .no), (2, .box Y13 (.pair .no (.pair .no (.own 81 .no)))), (3, .val (.int .i64) .no), (4, .val (.int .i64) .no), (9, .box Y13 (.pair .no (.pair .no (.own 81 .no)))), (10, .val (.list (.list Y12)) (.own 89 (.own 94 .no))), (14, .val (.int .i64) .no), (15, .sub 10 0), (16, .val (.int .i64) .no)])]),
  (24, [(7, [(1, .box Y13 .no), (5, .box Y9 .no), (31, .val (.int .i64) .no), (32, .val (.int .i64) .no)]), (19, [(1, .box Y13 .no), (8, .val (.list (.int .i64)) (.own 3 .no)), (66, .val (.list Y11) .no), (67, .val (.int .i64) .no), (68, .val (.int .i64) .no)])]),
  (26, [(7, [(2, .box (.list Y4) (.own 175 .no)), (3, .box (.list Y4) (.own 175 .no)), (21, .val (.int .i64) .no)])]),
  (27, [(3, [(3, .val (.list Y2) (.own 111 .no)), (7, .val (.list Y11) .no), (8, .val (.int .i64) .no), (9, .val (.int .i64) .no)])]),
  (33, [(3, [(0, .par Y16 .no), (1, .val (.int .i64) .no), (2, .val (.int .i64) .no), (3, .val (.int .i64) .no), (4, .val (.list (.int .i64)) .no), (5, .val (.list (.int .i64)) .no), (13, .val (.list Y12) (.own 94 .no)), (14, .val (.int .i64) .no)])]),
  (35, [(3, [(0, .val (.list Y12) .no), (3, .val .str .no), (4, .val (.int .i64) .no)])]),
  (36, [(3, [(0, .val (.int .i64) .no), (1, .val (.int .i64) .no), (5, .val (.list (.int .u8)) (.own 5 .no)), (6, .val (.int .i64) .no)])]),
  (40, [(4, [(0, .val .str .no), (3, .val (.int .i64) .no)])]),
  (41, [(3, [(3, .val (.list Y10) (.own 146 (.pair (.pair .no (.pair .no (.pair (.own 205 .no) (.pair (.own 208 .no) (.pair (.own 211 .no) (.own 214 .no)))))) (.pair (.pair (.own 3 .no) (.pair (.own 9 .no) (.pair (.own 3 .no) (.own 9 .no)))) (.own 150 .no))))), (7, .val (.list Y10) .no), (8, .val (.int .i64) .no), (9, .val (.int .i64) .no)])]),
  (47, [(4, [(1, .box (.list Y4) .no), (10, .val (.list Y4) .no), (11, .val (.int .i64) .no), (12, .val (.int .i64) .no)])]),
  (48, [(4, [(0, .val (.list Y2) .no), (8, .val (.list Y2) .no), (9, .val (.int .i64) .no), (10, .val (.int .i64) .no)])]),
  (49, [(4, [(0, .val (.list Y3) .no), (8, .val (.list Y3) .no), (9, .val (.int .i64) .no), (10, .val (.int .i64) .no)])]),
  (58, [(5, [(1, .val (.list Y10) .no), (2, .val .bool .no), (6, .box Y17 (.pair (.own 111 .no) (.pair (.own 157 .no) (.pair (.own 175 .no) (.pair (.pair .no (.pair .no .no)) (.pair .no (.pair .no .no))))))), (8, .box Y17 (.pair (.own 111 .no) (.pair (.own 157 .no) (.pair (.own 175 .no) (.pair (.pair .no (.pair .no .no)) (.pair .no (.pair .no .no))))))), (27, .val (.list Y10) .no), (28, .val (.int .i64) .no), (29, .val (.int .i64) .no)]), (10, [(1, .val (.list Y10) .no), (2, .val .bool .no), (6, .box Y17 (.pair (.own 111 .no) (.pair (.own 157 .no) (.pair (.own 175 .no) (.pair (.pair .no (.pair .no .no)) (.pair .no (.pair .no .no))))))), (8, .box Y17 (.pair (.own 111 .no) (.pair (.own 157 .no) (.pair (.own 175 .no) (.pair (.pair .no (.pair .no .no)) (.pair .no (.pair .no .no))))))), (9, .val (.int .i64) .no), (10, .box Y10 .no), (27, .val (.list Y10) .no), (28, .val (.int .i64) .no), (29, .val (.int .i64) .no), (48, .val (.list Y10) .no), (49, .val (.int .i64) .no), (50, .val (.int .i64) .no)])]),
  (59, [(4, [(0, .val (.list Y2) .no), (1, .val (.list Y2) .no), (12, .val (.int .i64) .no), (13, .val (.int .i64) .no)])]),
  (61, [(5, [(2, .par Y9 .no), (3, .box Y13 .no), (7, .box Y11 .no), (22, .val (.list Y11) .no), (23, .val (.int .i64) .no), (24, .val (.int .i64) .no)])]),
  (62, [(3, [(3, .val (.list (.int .i64)) (.own 3 .no)), (7, .val (.list Y11) .no), (8, .val (.int .i64) .no), (9, .val (.int .i64) .no)])]),
  (63, [(11, [(1, .val (.int .i64) .no), (2, .val (.int .i64) .no), (3, .val (.list (.int .i64)) .no), (10, .val (.list Y12) (.own 94 .no)), (42, .val (.list Y12) (.own 94 .no)), (43, .val (.int .i64) .no), (44, .val (.int .i64) .no)]), (21, [(2, .val (.int .i64) .no), (10, .val (.list Y12) .no), (16, .box Y15 (.pair .no (.pair .no (.pair .no (.pair .no (.own 3 .no)))))), (17, .val (.int .i64) .no)]), (26, [(10, .val (.list Y12) .no), (16, .box Y15 (.pair .no (.pair .no (.pair .no (.pair .no (.own 3 .no)))))), (18, .val (.int .i64) .no)])]),
  (64, [(2, [(1, .val (.int .i64) .no), (2, .val (.int .i64) .no), (3, .val .str .no), (4, .box (.list Y4) .no), (8, .box (.list Y4) (.own 175 .no)), (9, .val (.int .i64) .no)])]),
  (70, [(10, [(1, .box Y12 .no), (4, .val (.int .i64) .no), (5, .val (.int .i64) .no)]), (30, [(1, .box Y12 .no), (4, .val (.int .i64) .no), (7, .val (.int .i64) .no)]), (46, [(1, .box Y12 .no), (4, .val (.int .i64) .no), (9, .val (.int .i64) .no)])]),
  (71, [(2, [(0, .val (.list .str) .no), (1, .keep), (7, .val (.int .i64) .no), (8, .val (.int .i64) .no)])]),
  (86, [(3, [(1, .val (.int .i64) .no), (2, .val .str .no), (6, .box (.list Y4) (.own 175 .no)), (7, .box (.list Y4) (.own 175 .no)), (16, .same 7 (some 0)), (17, .val (.int .i64) .no), (18, .val (.int .i64) .no)]), (7, [(1, .val (.int .i64) .no), (2, .val .str .no), (6, .box (.list Y4) (.own 175 .no)), (7, .box (.list Y4) (.own 175 .no)), (8, .val (.int .i64) .no), (9, .box Y4 .no), (10, .val (.list (.int .u8)) (.own 5 .box)), (16, .same 7 (some 0)), (17, .val (.int .i64) .no), (18, .val (.int .i64) .no), (27, .val (.int .i64) .no), (28, .val (.int .i64) .no)])]),
  (112, [(4, [(0, .val (.list Y9) .no), (1, .val (.list Y9) .no), (12, .val (.int .i64) .no), (13, .val (.int .i64) .no)])]),
  (113, [(4, [(1, .val (.list Y4) .no), (2, .keep), (15, .val (.list Y4) .no), (16, .val (.int .i64) .no), (17, .val (.int .i64) .no)])]),
  (118, [(3, [(0, .val .str .no), (5, .val (.list Y12) (.own 94 .no)), (6, .val (.int .i64) .no)])]),
  (120, [(4, [(0, .val (.list Y12) .no), (1, .val (.list Y12) .no), (12, .val (.int .i64) .no), (13, .val (.int .i64) .no)])]),
  (123, [(2, [(1, .val (.int .i64) .no), (2, .val (.int .i64) .no), (3, .box (.list Y4) .no), (6, .box (.list Y4) (.own 175 .no)), (7, .val (.int .i64) .no)])]),
  (127, [(3, [(0, .val (.int .i64) .no), (1, .val (.int .i64) .no), (2, .val (.int .i64) .no), (3, .val (.int .i64) .no), (9, .val (.int .i64) .no), (10, .val (.int .i64) .no)])]),
  (134, [(2, [(0, .val (.int .i64) .no), (2, .box Y12 .no), (14, .val (.list Y11) (.own 263 .no)), (15, .val (.int .i64) .no), (16, .val (.int .i64) .no)]), (8, [(0, .val (.int .i64) .no), (2, .box Y12 .no), (6, .box Y14 .no), (7, .box Y12 .no), (14, .val (.list Y11) (.own 263 .no)), (15, .val (.int .i64) .no), (16, .val (.int .i64) .no), (36, .val (.list Y3) (.own 268 .no)), (37, .val (.int .i64) .no), (38, .val (.int .i64) .no)])]),
  (139, [(3, [(0, .val .str .no), (3, .val (.int .i64) .no), (4, .val (.int .i64) .no)])]),
  (141, [(4, [(1, .box Y12 .no), (3, .box Y14 .no), (4, .val (.int .i64) .no), (17, .val (.list Y3) (.own 268 .no)), (18, .val (.int .i64) .no), (19, .val (.int .i64) .no)])]),
  (144, [(2, [(0, .val (.list Y2) .no), (1, .keep), (7, .val (.int .i64) .no), (8, .val (.int .i64) .no)])]),
  (151, [(3, [(3, .val (.int .i64) .no), (6, .val (.list (.int .i64)) .no), (7, .val (.int .i64) .no), (8, .val (.int .i64) .no)])]),
  (153, [(2, [(0, .val (.list Y1) .no), (1, .keep), (7, .val (.int .i64) .no), (8, .val (.int .i64) .no)])]),
  (155, [(3, [(3, .val (.list Y12) (.own 157 .no)), (7, .val (.list Y11) .no), (8, .val (.int .i64) .no), (9, .val (.int .i64) .no)])]),
  (156, [(10, [(1, .box Y7 .no), (53, .val (.list Y5) .no), (54, .val (.int .i64) .no), (55, .val (.int .i64) .no)]), (21, [(1, .box Y7 .no), (84, .val (.list (.pair .str .str)) .no), (85, .val (.int .i64) .no), (86, .val (.int .i64) .no)]), (30, [(1, .box Y7 .no), (122, .val (.int .i64) .no), (123, .val (.int .i64) .no)]), (37, [(1, .box Y7 .no), (135, .val (.list (.pair (.int .i64) .bool)) .no), (136, .val (.int .i64) .no), (137, .val (.int .i64) .no)])]),
  (162, [(4, [(0, .val (.list (.int .i64)) .no), (1, .val (.list (.int .i64)) .no), (12, .val (.int .i64) .no), (13, .val (.int .i64) .no)])]),
  (163, [(4, [(0, .val (.list .str) .no), (1, .val (.list .str) .no), (12, .val (.int .i64) .no), (13, .val (.int .i64) .no)])]),
  (204, [(3, [(0, .val (.list Y3) .no), (2, .keep), (4, .box Y3 .no), (8, .val (.int .i64) .no), (9, .val (.int .i64) .no), (10, .val (.int .i64) .no)])]),
  (210, [(2, [(0, .val (.list (.pair (.int .i64) .bool)) .no), (1, .keep), (7, .val (.int .i64) .no), (8, .val (.int .i64) .no)])]),
  (219, [(2, [(0, .val (.list (.int .i64)) .no), (1, .val (.int .i64) .no), (7, .val (.int .i64) .no), (8, .val (.int .i64) .no)])]),
  (243, [(3, [(1, .val (.int .i64) .no), (2, .box Y7 .no), (5, .val (.list .str) (.own 9 .no)), (11, .val (.list Y5) .no), (12, .val (.int .i64) .no), (13, .val (.int .i64) .no)]), (8, [(1, .val (.int .i64) .no), (5, .val (.list .str) (.own 9 .no)), (24, .val (.list (.pair .str .str)) .no), (25, .val (.int .i64) .no), (26, .val (.int .i64) .no)])]),
  (244, [(3, [(1, .box Y7 .no), (3, .val (.list (.int .i64)) (.own 3 .no)), (9, .val (.list Y5) .no), (10, .val (.int .i64) .no), (11, .val (.int .i64) .no)]), (8, [(3, .val (.list (.int .i64)) (.own 3 .no)), (24, .val (.list (.pair .str .str)) .no), (25, .val (.int .i64) .no), (26, .val (.int .i64) .no)])]),
  (271, [(2, [(0, .val (.list .str) .no), (1, .val .str .no), (7, .val (.int .i64) .no), (8, .val (.int .i64) .no)])])]
noncomputable def prims : List (Nat × (List SV → Option (List PV))) := [(25, (primClone Y11 48)), (42, primNone), (43, primNone), (44, primNone), (45, primNone), (52, primOwn), (53, (primClone Y2 56)), (54, (primClone Y3 24)), (75, (primClone Y9 16)), (76, (primClone (.int .i64) 8)), (77, (primClone .str 16)), (103, (primClone Y4 32)), (110, primNone), (124, primRepeat), (129, (primClone Y5 48)), (130, (primClone (.pair .str .str) 32)), (131, (primClone Y6 48)), (132, (primClone (.pair (.int .i64) .bool) 16)), (148, (primInsert Y3 24)), (149, (primDel1 Y3)), (171, (primInsert Y4 32))]
noncomputable def elfs : List (Nat × List (Nat × Fl)) := [(29, [(1920, (.pair .no (.pair .no (.pair (.own 3 .no) .no)))), (7168, (.pair .no (.pair .no (.pair (.own 3 .no) .no))))]), (34, [(4608, (.pair (.pair .no (.pair .no (.pair (.own 205 .no) (.pair (.own 208 .no) (.pair (.own 211 .no) (.own 214 .no)))))) (.pair (.pair (.own 3 .no) (.pair (.own 9 .no) (.pair (.own 3 .no) (.own 9 .no)))) (.own 150 .no))))]), (88, [(6400, (.own 94 .no)), (8704, (.own 94 .no))])]
noncomputable def cfg : Cfg := ⟨Tryz.prog, asc tis, asc fns, realOf [], altsOf [] [], asc sigs, asc2 loops, fun t i => (asc2 elfs t i).getD .no, asc prims⟩
theorem fns_ok : FnsOK Tryz.prog [] fns := ⟨Tryz.func3, Tryz.func4, Tryz.func5, Tryz.func6, Tryz.func7, Tryz.func8, Tryz.func9, Tryz.func10, Tryz.func11, Tryz.func12, Tryz.func13, Tryz.func14, Tryz.func15, Tryz.func16, Tryz.func17, Tryz.func18, Tryz.func19, Tryz.func20, Tryz.func21, Tryz.func22, Tryz.func23, Tryz.func24, Tryz.func25, Tryz.func26, Tryz.func27, Tryz.func28, Tryz.func29, Tryz.func30, Tryz.func31, Tryz.func32, Tryz.func33, Tryz.func34, Tryz.func35, Tryz.func36, Tryz.func37, Tryz.func38, Tryz.func39, Tryz.func40, Tryz.func41, Tryz.func42, Tryz.func43, Tryz.func44, Tryz.func45, Tryz.func46, Tryz.func47, Tryz.func48, Tryz.func49, Tryz.func50, Tryz.func51, Tryz.func52, Tryz.func53, Tryz.func54, Tryz.func55, Tryz.func56, Tryz.func57, Tryz.func58, Tryz.func59, Tryz.func60, Tryz.func61, Tryz.func62, Tryz.func63, Tryz.func64, Tryz.func65, Tryz.func66, Tryz.func67, Tryz.func68, Tryz.func69, Tryz.func70, Tryz.func71, Tryz.func72, Tryz.func73, Tryz.func74, Tryz.func75, Tryz.func76, Tryz.func77, Tryz.func86, Tryz.func91, Tryz.func92, Tryz.func93, Tryz.func94, Tryz.func95, Tryz.func96, Tryz.func97, Tryz.func98, Tryz.func99, Tryz.func100, Tryz.func101, Tryz.func102, Tryz.func103, Tryz.func105, Tryz.func106, Tryz.func107, Tryz.func108, Tryz.func109, Tryz.func110, Tryz.func111, Tryz.func112, Tryz.func113, Tryz.func114, Tryz.func115, Tryz.func116, Tryz.func117, Tryz.func118, Tryz.func119, Tryz.func120, Tryz.func121, Tryz.func122, Tryz.func123, Tryz.func124, Tryz.func125, Tryz.func126, Tryz.func127, Tryz.func128, Tryz.func129, Tryz.func130, Tryz.func131, Tryz.func132, Tryz.func134, Tryz.func139, Tryz.func141, Tryz.func144, Tryz.func146, Tryz.func147, Tryz.func148, Tryz.func149, Tryz.func150, Tryz.func151, Tryz.func152, Tryz.func153, Tryz.func154, Tryz.func155, Tryz.func156, Tryz.func157, Tryz.func158, Tryz.func159, Tryz.func162, Tryz.func163, Tryz.func164, Tryz.func165, Tryz.func166, Tryz.func167, Tryz.func168, Tryz.func169, Tryz.func170, Tryz.func171, Tryz.func179, Tryz.func180, Tryz.func181, Tryz.func182, Tryz.func183, Tryz.func184, Tryz.func187, Tryz.func204, Tryz.func207, Tryz.func208, Tryz.func209, Tryz.func210, Tryz.func211, Tryz.func219, Tryz.func242, Tryz.func243, Tryz.func244, Tryz.func271, trivial⟩
theorem cfg_ok : cfg.OK := Cfg.OK.of (C := cfg) (tis := tis) (fns := fns) (sigs := sigs) (rl := []) (al := []) rfl rfl rfl rfl rfl (by kernel_rfl) fns_ok (by kernel_rfl) (by kernel_rfl) (by kernel_rfl)
/-- The text of a loop; slots. -/
noncomputable abbrev LA (f : Nat) (F : Func) (p : List Nat) (s : St) := LpAt cfg f (F.body.getD .skip) F.results.toList ((asc sigs f).getD ⟨[], [], []⟩) p s
abbrev vI (k : Nat) (n : Int) : Nat × SV := (k, .v (.int .i64 n))
abbrev vL (k : Nat) (e : Ty) (l : List e.den) : Nat × SV := (k, .v (.list e l))
abbrev vP (k p : Nat) : Nat × SV := (k, .v (.ptr p (.at 0)))
end Go.Proofs.YtjebgmofebmgaaaGreat.S
