import Derived.Test.YtilingejmkaegaaGreatPsZa
import Derived.Test.YtilingejmkaegaaGreatProg
namespace Go.Proofs.YtilingejmkaegaaGreat.S
open Go.Ps
set_option linter.unusedVariables false
set_option maxRecDepth 100000
set_option maxHeartbeats 0
abbrev Y0 : Ty := (.pair (.int .i64) (.pair (.int .i64) (.pair (.int .i64) (.pair (.int .i64) (.int .i64)))))
abbrev Y1 : Ty := (.pair .str (.pair (.int .i64) (.pair (.int .i64) (.pair (.int .i64) (.int .i64)))))
abbrev Y2 : Ty := (.pair (.int .i64) (.pair (.int .i64) (.int .i64)))
abbrev Y3 : Ty := (.pair (.list (.int .u8)) (.pair (.int .i64) (.int .i64)))
abbrev Y4 : Ty := (.pair (.int .i64) (.pair (.int .i64) (.pair (.int .i64) (.int .i64))))
abbrev Y5 : Ty := (.pair (.list Y0) (.pair (.int .i64) (.pair (.int .i64) (.pair (.list (.int .i64)) (.list (.int .i64))))))
abbrev D0 : Type := List Int × Int × Int
abbrev D1 : Type := Int × List Int × Int × Int
abbrev D2 : Type := Int × Int × Int × Int × Int
abbrev D3 : Type := List D2 × List Int × Int × Int
abbrev D4 : Type := ByteArray × Int × Int × Int × Int
abbrev D5 : Type := Int × Int × Int × Int
abbrev D6 : Type := Bool × Bool × Bool
abbrev D7 : Type := List D2 × Int × Bool
abbrev D8 : Type := List D2 × Int × Int
abbrev D9 : Type := List D2 × Int × Int × List Int × List Int
abbrev D10 : Type := Int × Bool × List Int
abbrev D11 : Type := Bool × List Int × Int × Int
abbrev D12 : Type := ByteArray × List Int × Int × Int
noncomputable def tis : List (Nat × TI) := [
  (3, ⟨.scalar, 1, 8, [.int .i64 0], (.int .i64), false⟩),
  (4, ⟨.scalar, 1, 1, [.bool false], .bool, false⟩),
  (5, ⟨.scalar, 1, 1, [.int .u8 0], (.int .u8), false⟩),
  (9, ⟨.scalar, 1, 16, [.str (⟨#[]⟩ : ByteArray)], .str, false⟩),
  (22, ⟨(.slice 5), 1, 24, [.nils], (.list (.int .u8)), false⟩),
  (24, ⟨(.slice 39), 1, 24, [.nils], (.list Y0), false⟩),
  (35, ⟨(.slice 3), 1, 24, [.nils], (.list (.int .i64)), false⟩),
  (39, ⟨(.struct [(0, 1), (1, 1), (2, 1), (3, 1), (4, 1)] [false, false, false, false, false] []), 5, 40, [.int .i64 0, .int .i64 0, .int .i64 0, .int .i64 0, .int .i64 0], Y0, true⟩),
  (62, ⟨(.struct [(0, 1), (1, 1), (2, 1)] [false, false, false] []), 3, 40, [.nils, .int .i64 0, .int .i64 0], Y3, false⟩),
  (64, ⟨(.struct [(0, 1), (1, 1), (2, 1), (3, 1)] [false, false, false, false] []), 4, 32, [.int .i64 0, .int .i64 0, .int .i64 0, .int .i64 0], Y4, false⟩),
  (69, ⟨.scalar, 1, 8, [.int .u64 0], (.int .u64), false⟩),
  (70, ⟨(.slice 73), 1, 24, [.nils], (.list Y2), false⟩),
  (73, ⟨(.struct [(0, 1), (1, 1), (2, 1)] [false, false, false] []), 3, 24, [.int .i64 0, .int .i64 0, .int .i64 0], Y2, false⟩),
  (80, ⟨(.struct [(0, 1), (1, 1), (2, 1), (3, 1), (4, 1)] [false, false, false, false, false] []), 5, 88, [.nils, .int .i64 0, .int .i64 0, .nils, .nils], Y5, false⟩),
  (88, ⟨(.struct [(0, 1), (1, 4)] [false, true] []), 5, 48, [.str (⟨#[]⟩ : ByteArray), .int .i64 0, .int .i64 0, .int .i64 0, .int .i64 0], Y1, false⟩),
  (89, ⟨(.slice 88), 1, 24, [.nils], (.list Y1), false⟩),
  (98, ⟨.scalar, 1, 8, [.int .u64 0], (.int .u64), false⟩),
  (113, ⟨.scalar, 1, 8, [.int .u64 0], (.int .u64), false⟩)]
noncomputable def fns : List (Nat × Func) := [(3, Tryz.f3), (4, Tryz.f4), (5, Tryz.f5), (6, Tryz.f6), (7, Tryz.f7), (8, Tryz.f8), (9, Tryz.f9), (10, Tryz.f10), (11, Tryz.f11), (12, Tryz.f12), (13, Tryz.f13), (14, Tryz.f14), (15, Tryz.f15), (16, Tryz.f16), (17, Tryz.f17), (18, Tryz.f18), (19, Tryz.f19), (20, Tryz.f20), (21, Tryz.f21), (22, Tryz.f22), (23, Tryz.f23), (24, Tryz.f24), (25, Tryz.f25), (26, Tryz.f26), (27, Tryz.f27), (28, Tryz.f28), (29, Tryz.f29), (30, Tryz.f30), (31, Tryz.f31), (32, Tryz.f32), (33, Tryz.f33), (34, Tryz.f34), (35, Tryz.f35), (36, Tryz.f36), (37, Tryz.f37), (38, Tryz.f38), (39, Tryz.f39), (40, Tryz.f40), (41, Tryz.f41), (42, Tryz.f42), (43, Tryz.f43), (44, Tryz.f44), (45, Tryz.f45), (46, Tryz.f46), (47, Tryz.f47), (48, Tryz.f48), (49, Tryz.f49), (50, Tryz.f50), (51, Tryz.f51), (52, Tryz.f52), (53, Tryz.f53), (54, Tryz.f54), (55, Tryz.f55), (56, Tryz.f56), (57, Tryz.f57), (58, Tryz.f58), (59, Tryz.f59), (60, Tryz.f60), (61, Tryz.f61), (62, Tryz.f62), (63, Tryz.f63), (64, Tryz.f64), (65, Tryz.f65), (66, Tryz.f66), (67, Tryz.f67), (68, Tryz.f68), (69, Tryz.f69), (70, Tryz.f70), (71, Tryz.f71), (72, Tryz.f72), (73, Tryz.f73), (74, Tryz.f74), (75, Tryz.f75), (76, Tryz.f76), (77, Tryz.f77), (78, Tryz.f78), (79, Tryz.f79), (80, Tryz.f80), (81, Tryz.f81), (82, Tryz.f82), (83, Tryz.f83), (84, Tryz.f84), (85, Tryz.f85), (86, Tryz.f86), (87, Tryz.f87), (88, Tryz.f88), (89, Tryz.f89), (90, Tryz.f90), (91, Tryz.f91), (92, Tryz.f92), (93, Tryz.f93), (94, Tryz.f94), (96, Tryz.f96), (97, Tryz.f97), (98, Tryz.f98), (99, Tryz.f99), (100, Tryz.f100), (101, Tryz.f101), (102, Tryz.f102), (103, Tryz.f103), (104, Tryz.f104), (105, Tryz.f105), (106, Tryz.f106), (107, Tryz.f107), (108, Tryz.f108), (109, Tryz.f109)]
noncomputable def sigs : List (Nat × Sig) := [
  (3, ⟨[.val (.list (.int .u8)), .val (.list (.int .u8))], [(.bool, false)], [.no]⟩),
  (4, ⟨[.val (.list (.int .u8))], [((.int .i64), false)], [.no]⟩),
  (5, ⟨[.val (.int .i64)], [((.list Y0), false), ((.int .i64), false)], [(.own 39 .no), .no]⟩),
  (6, ⟨[.val (.int .i64)], [((.list Y0), false), ((.int .i64), false)], [(.own 39 .no), .no]⟩),
  (7, ⟨[.val (.list (.int .u8)), .val (.int .i64)], [((.list Y0), false)], [(.own 39 .no)]⟩),
  (8, ⟨[.val (.int .i64)], [(.bool, false)], [.no]⟩),
  (9, ⟨[.val (.list Y0)], [(.str, false), ((.int .i64), false)], [.no, .no]⟩),
  (10, ⟨[.val .str], [((.list Y0), false), ((.int .i64), false), ((.int .i64), false)], [(.own 39 .no), .no, .no]⟩),
  (11, ⟨[.val .str, .val (.int .i64), .val (.int .i64), .val (.list (.int .i64))], [((.int .i64), false), ((.int .i64), false)], [.no, .no]⟩),
  (12, ⟨[.val .str, .val (.int .i64)], [((.list (.int .i64)), false), ((.int .i64), false)], [(.own 3 .no), .no]⟩),
  (13, ⟨[.val .str, .val (.int .i64)], [((.int .i64), false), ((.int .i64), false)], [.no, .no]⟩),
  (14, ⟨[.val .str, .val (.int .i64)], [((.int .i64), false), ((.int .i64), false)], [.no, .no]⟩),
  (15, ⟨[.val (.list (.int .u8)), .val (.int .i64)], [(.str, false)], [.no]⟩),
  (16, ⟨[.val .str, .val (.int .i64), .val (.int .i64), .val (.list (.int .i64))], [((.int .i64), false), ((.int .i64), false)], [.no, .no]⟩),
  (17, ⟨[.val (.list (.int .u8))], [((.opt Y3), false)], [.box]⟩),
  (18, ⟨[.var Y3 .no], [((.int .i64), false)], [.no]⟩),
  (19, ⟨[.val (.int .i64)], [((.list Y0), false)], [(.own 39 .no)]⟩),
  (20, ⟨[.val (.int .i64)], [((.list Y0), false)], [(.own 39 .no)]⟩),
  (21, ⟨[.var Y3 .no, .val (.int .i64), .val (.int .i64), .val (.int .i64), .val (.list (.int .i64)), .val (.list (.int .i64))], [((.list Y0), false)], [(.own 39 .no)]⟩),
  (22, ⟨[.var Y3 .no, .val (.int .i64)], [((.int .i64), false)], [.no]⟩),
  (23, ⟨[.val (.int .i64), .val (.int .i64), .val (.int .i64)], [(.bool, false)], [.no]⟩),
  (24, ⟨[.val Y0], [(.bool, false)], [.no]⟩),
  (25, ⟨[.val (.int .i64), .val (.int .i64)], [(.str, false)], [.no]⟩),
  (26, ⟨[.val Y0], [((.int .i64), false)], [.no]⟩),
  (27, ⟨[.val .str], [(.bool, false)], [.no]⟩),
  (28, ⟨[.val .str], [(.bool, false)], [.no]⟩),
  (29, ⟨[.val .str], [((.list Y0), false), ((.int .i64), false), (.bool, false)], [(.own 39 .no), .no, .no]⟩),
  (30, ⟨[.val .str, .val (.int .i64), .val (.int .i64), .val (.list (.int .i64))], [((.int .i64), false), ((.int .i64), false)], [.no, .no]⟩),
  (31, ⟨[.val (.int .i64)], [(.bool, false)], [.no]⟩),
  (32, ⟨[.val (.list Y0), .val (.int .i64)], [((.list (.int .i64)), false)], [(.own 3 .no)]⟩),
  (33, ⟨[.val (.list Y0), .val (.int .i64)], [((.int .i64), false)], [.no]⟩),
  (34, ⟨[.val .str], [(.bool, false)], [.no]⟩),
  (35, ⟨[.val .str], [((.list Y0), false), ((.int .i64), false)], [(.own 39 .no), .no]⟩),
  (36, ⟨[.val Y0, .val (.int .i64)], [((.int .i64), false)], [.no]⟩),
  (37, ⟨[.var Y3 .no, .val (.int .i64), .val (.int .i64), .val (.list (.int .i64))], [(.str, false)], [.no]⟩),
  (38, ⟨[.val .str, .val (.int .i64), .val (.int .i64), .val (.list (.int .i64))], [((.int .i64), false), ((.int .i64), false)], [.no, .no]⟩),
  (39, ⟨[.val (.int .i64)], [((.list Y0), false)], [(.own 39 .no)]⟩),
  (40, ⟨[.var Y3 .no, .val (.int .i64), .val (.int .i64), .val (.int .i64), .val (.list (.int .i64)), .val (.list (.int .i64))], [((.list Y0), false)], [(.own 39 .no)]⟩),
  (41, ⟨[.val (.int .i64)], [((.list Y0), false)], [(.own 39 .no)]⟩),
  (42, ⟨[.var Y3 .no], [((.int .i64), false)], [.no]⟩),
  (43, ⟨[.val (.int .i64)], [(.bool, false)], [.no]⟩),
  (44, ⟨[.val (.int .i64)], [(Y4, true)], [.no]⟩),
  (45, ⟨[.val (.int .i64)], [(.bool, false), (.bool, false), (.bool, false)], [.no, .no, .no]⟩),
  (46, ⟨[.val (.int .i64)], [(.bool, false)], [.no]⟩),
  (47, ⟨[.val (.int .i64), .val (.int .i64)], [(.bool, false)], [.no]⟩),
  (48, ⟨[.val (.int .i64)], [((.list Y2), false)], [(.own 73 .no)]⟩),
  (49, ⟨[.val (.int .i64), .val (.int .i64), .val (.int .i64)], [((.int .i64), false)], [.no]⟩),
  (50, ⟨[.val (.int .i64)], [(Y0, true), (.bool, false)], [.no, .no]⟩),
  (51, ⟨[.val .str], [((.int .i64), false)], [.no]⟩),
  (52, ⟨[.val .str], [(.bool, false)], [.no]⟩),
  (53, ⟨[.val (.list Y0), .val (.list Y0)], [(.bool, false)], [.no]⟩),
  (54, ⟨[.ro Y5, .val (.int .i64)], [((.int .i64), false)], [.no]⟩),
  (55, ⟨[.lend (.list (.int .i64)) (.own 3 .no)], [], []⟩),
  (56, ⟨[.give (.list (.int .i64)) (.own 3 .no)], [((.list (.int .i64)), false)], [(.own 3 .no)]⟩),
  (57, ⟨[.val (.int .i64)], [(Y0, true), (.bool, false)], [.no, .no]⟩),
  (58, ⟨[.val .str, .val (.int .i64), .val (.int .i64)], [((.int .i64), false)], [.no]⟩),
  (59, ⟨[.var Y3 .no, .val (.int .i64)], [(.bool, false)], [.no]⟩),
  (60, ⟨[.val (.list Y0)], [(.str, false)], [.no]⟩),
  (61, ⟨[.val (.int .i64), .val (.int .i64), .val (.int .i64)], [(.bool, false)], [.no]⟩),
  (62, ⟨[.val (.int .i64)], [(.bool, false)], [.no]⟩),
  (63, ⟨[.val (.list Y0), .val (.int .i64), .val (.int .i64), .val (.int .i64), .val (.list (.int .i64))], [((.int .i64), false)], [.no]⟩),
  (64, ⟨[.var Y3 .no], [((.int .i64), false)], [.no]⟩),
  (65, ⟨[], [((.list Y1), false)], [(.own 88 .no)]⟩),
  (66, ⟨[.val (.int .i64)], [((.int .i64), false)], [.no]⟩),
  (67, ⟨[.val (.int .i64), .val (.int .i64)], [((.int .i64), false)], [.no]⟩),
  (68, ⟨[.val (.list (.int .i64)), .val (.int .i64)], [(.bool, false)], [.no]⟩),
  (69, ⟨[.ro Y5, .val (.int .i64)], [(.bool, false)], [.no]⟩),
  (70, ⟨[.val (.int .i64)], [(.bool, false)], [.no]⟩),
  (71, ⟨[.val (.int .i64)], [(.bool, false)], [.no]⟩),
  (72, ⟨[.val (.int .i64)], [(.bool, false)], [.no]⟩),
  (73, ⟨[.val (.int .i64)], [((.int .i64), false), (.bool, false)], [.no, .no]⟩),
  (74, ⟨[.lend (.list (.int .i64)) (.own 3 .no), .val (.int .i64), .val (.int .i64), .val (.int .i64)], [], []⟩),
  (75, ⟨[.val (.int .u64)], [((.int .i64), false)], [.no]⟩),
  (76, ⟨[.val (.int .i64)], [(Y4, true)], [.no]⟩),
  (77, ⟨[.val (.int .i64), .val (.int .i64)], [(Y0, true)], [.no]⟩),
  (78, ⟨[.val Y0], [(.bool, false)], [.no]⟩),
  (79, ⟨[.val Y0], [((.int .i64), false)], [.no]⟩),
  (80, ⟨[.val (.int .i64), .val (.int .i64)], [(.str, false)], [.no]⟩),
  (81, ⟨[.val (.int .i64)], [((.int .i64), false), (.bool, false)], [.no, .no]⟩),
  (82, ⟨[.val (.list Y0), .val (.int .i64), .val (.int .i64)], [(.bool, false)], [.no]⟩),
  (83, ⟨[.val (.list (.int .i64)), .val (.int .i64)], [(.bool, false)], [.no]⟩),
  (84, ⟨[.val (.list Y0), .val (.int .i64), .val (.int .i64), .val (.int .i64)], [(.bool, false)], [.no]⟩),
  (85, ⟨[.val (.list (.int .i64)), .val (.int .i64)], [((.int .i64), false)], [.no]⟩),
  (86, ⟨[.lend (.list (.int .i64)) (.own 3 .no), .val (.int .i64), .val (.int .i64)], [], []⟩),
  (87, ⟨[.lend (.list (.int .i64)) (.own 3 .no), .val (.int .i64), .val (.int .i64)], [], []⟩),
  (88, ⟨[.lend (.list (.int .i64)) (.own 3 .no), .val (.int .i64), .val (.int .i64)], [], []⟩),
  (89, ⟨[.val (.list (.int .i64)), .val (.int .i64), .val (.int .i64)], [((.int .i64), false), ((.int .i64), false)], [.no, .no]⟩),
  (90, ⟨[.lend (.list (.int .i64)) (.own 3 .no), .val (.int .i64), .val (.int .i64)], [], []⟩),
  (91, ⟨[.lend (.list (.int .i64)) (.own 3 .no), .val (.int .i64), .val (.int .i64)], [(.bool, false)], [.no]⟩),
  (92, ⟨[.val (.int .i64), .val (.int .i64)], [(.bool, false)], [.no]⟩),
  (93, ⟨[.lend (.list (.int .i64)) (.own 3 .no), .val (.int .i64), .val (.int .i64), .val (.int .i64)], [((.int .i64), false)], [.no]⟩),
  (94, ⟨[.lend (.list (.int .i64)) (.own 3 .no), .val (.int .i64), .val (.int .i64), .val (.int .i64)], [((.int .i64), false), (.bool, false)], [.no, .no]⟩),
  (96, ⟨[.val (.int .u64)], [((.int .i64), false)], [.no]⟩),
  (97, ⟨[.val (.int .i64), .val (.int .i64), .val (.int .i64)], [((.int .i64), false)], [.no]⟩),
  (98, ⟨[.val (.int .i64), .val (.int .i64)], [((.int .i64), false)], [.no]⟩),
  (99, ⟨[.val (.int .i64), .val (.int .i64)], [((.int .i64), false)], [.no]⟩),
  (100, ⟨[.val (.int .i64)], [(.bool, false)], [.no]⟩),
  (101, ⟨[.val (.int .i64)], [(.bool, false)], [.no]⟩),
  (102, ⟨[.val (.int .i64), .val (.int .i64), .val (.int .i64), .val (.int .i64)], [((.int .i64), false)], [.no]⟩),
  (103, ⟨[.lend (.list (.int .i64)) (.own 3 .no), .val (.int .i64), .val (.int .i64), .val (.int .i64)], [], []⟩),
  (104, ⟨[.val (.int .i64)], [((.int .u64), false)], [.no]⟩),
  (105, ⟨[.var (.int .u64) .no], [((.int .u64), false)], [.no]⟩),
  (106, ⟨[.val (.list (.int .i64)), .val (.int .i64), .var (.int .i64) .no], [((.int .i64), false)], [.no]⟩),
  (107, ⟨[.val (.list (.int .i64)), .val (.int .i64), .val (.int .i64), .val (.int .i64), .var (.int .i64) .no], [((.int .i64), false)], [.no]⟩),
  (108, ⟨[.val (.int .i64)], [(.bool, false)], [.no]⟩),
  (109, ⟨[.val (.list (.int .i64)), .val (.int .i64), .val (.int .i64), .var (.int .i64) .no], [((.int .i64), false), ((.int .i64), false)], [.no, .no]⟩)]
noncomputable def loops : List (Nat × List (Nat × List (Nat × LK))) := [
  (3, [(17, [(1, .val (.list (.int .u8)) .no), (5, .val (.int .i64) .no), (11, .val (.list Y0) (.own 39 .no)), (12, .val .str .no), (14, .val (.list Y0) (.own 39 .no)), (21, .val (.int .i64) .no)])]),
  (9, [(7, [(4, .val .str .no), (15, .val (.list Y0) .no), (16, .val (.int .i64) .no), (17, .val (.int .i64) .no)])]),
  (21, [(3, [(0, .par Y3 .no), (1, .val (.int .i64) .no), (2, .val (.int .i64) .no), (3, .val (.int .i64) .no), (4, .val (.list (.int .i64)) .no), (5, .val (.list (.int .i64)) .no), (13, .val (.list Y0) (.own 39 .no)), (14, .val (.int .i64) .no)])]),
  (25, [(2, [(0, .val (.int .i64) .no), (1, .val (.int .i64) .no), (5, .val (.list (.int .u8)) (.own 5 .no))])]),
  (26, [(4, [(1, .box Y0 .no), (3, .box Y4 .no), (4, .val (.int .i64) .no), (17, .val (.list Y2) (.own 73 .no)), (18, .val (.int .i64) .no), (19, .val (.int .i64) .no)])]),
  (29, [(3, [(0, .val .str .no), (5, .val (.list Y0) (.own 39 .no)), (6, .val (.int .i64) .no)])]),
  (30, [(11, [(1, .val (.int .i64) .no), (2, .val (.int .i64) .no), (3, .val (.list (.int .i64)) .no), (10, .val (.list Y0) (.own 39 .no)), (42, .val (.list Y0) (.own 39 .no)), (43, .val (.int .i64) .no), (44, .val (.int .i64) .no)]), (21, [(2, .val (.int .i64) .no), (10, .val (.list Y0) .no), (16, .box Y5 (.pair .no (.pair .no (.pair .no (.pair .no (.own 3 .no)))))), (17, .val (.int .i64) .no)]), (26, [(10, .val (.list Y0) .no), (16, .box Y5 (.pair .no (.pair .no (.pair .no (.pair .no (.own 3 .no)))))), (18, .val (.int .i64) .no)])]),
  (32, [(3, [(1, .val (.int .i64) .no), (5, .val (.list (.int .i64)) (.own 3 .no)), (8, .val (.list Y0) .no), (9, .val (.int .i64) .no), (10, .val (.int .i64) .no)])]),
  (35, [(3, [(0, .val .str .no), (4, .val (.list Y0) (.own 39 .no)), (5, .val (.int .i64) .no)])]),
  (38, [(11, [(1, .val (.int .i64) .no), (2, .val (.int .i64) .no), (3, .val (.list (.int .i64)) .no), (10, .val (.list Y0) (.own 39 .no)), (12, .val (.int .i64) .no)]), (19, [(1, .val (.int .i64) .no), (2, .val (.int .i64) .no), (3, .val (.list (.int .i64)) .no), (10, .val (.list Y0) (.own 39 .no)), (13, .val (.int .i64) .no), (14, .val (.int .i64) .no)])]),
  (50, [(2, [(0, .val (.int .i64) .no), (2, .box Y0 .no), (14, .val (.list Y1) (.own 88 .no)), (15, .val (.int .i64) .no), (16, .val (.int .i64) .no)]), (8, [(0, .val (.int .i64) .no), (2, .box Y0 .no), (6, .box Y4 .no), (7, .box Y0 .no), (14, .val (.list Y1) (.own 88 .no)), (15, .val (.int .i64) .no), (16, .val (.int .i64) .no), (36, .val (.list Y2) (.own 73 .no)), (37, .val (.int .i64) .no), (38, .val (.int .i64) .no)])]),
  (51, [(3, [(0, .val .str .no), (3, .val (.int .i64) .no), (4, .val (.int .i64) .no)])]),
  (53, [(4, [(0, .val (.list Y0) .no), (1, .val (.list Y0) .no), (12, .val (.int .i64) .no), (13, .val (.int .i64) .no)])]),
  (56, [(4, [(0, .val (.list (.int .i64)) (.own 3 .no)), (3, .val (.int .i64) .no)]), (9, [(0, .val (.list (.int .i64)) .no), (3, .val (.int .i64) .no), (4, .val (.list (.int .i64)) .no), (5, .val (.int .i64) .no)])]),
  (57, [(2, [(0, .val (.int .i64) .no), (2, .box Y0 .no), (4, .val (.int .i64) .no)])]),
  (58, [(3, [(0, .val .str .no), (1, .val (.int .i64) .no), (7, .val (.int .u64) .no), (8, .val (.int .i64) .no)])]),
  (60, [(3, [(0, .val (.list Y0) .no), (3, .val .str .no), (4, .val (.int .i64) .no)])]),
  (74, [(2, [(0, .pown 3 (.int .i64) .no), (1, .val (.int .i64) .no), (2, .val (.int .i64) .no), (3, .val (.int .i64) .no), (8, .val .bool .no), (9, .val .bool .no)])]),
  (79, [(10, [(1, .box Y0 .no), (4, .val (.int .i64) .no), (5, .val (.int .i64) .no)]), (30, [(1, .box Y0 .no), (4, .val (.int .i64) .no), (7, .val (.int .i64) .no)]), (46, [(1, .box Y0 .no), (4, .val (.int .i64) .no), (9, .val (.int .i64) .no)])]),
  (80, [(3, [(0, .val (.int .i64) .no), (1, .val (.int .i64) .no), (5, .val (.list (.int .u8)) (.own 5 .no)), (6, .val (.int .i64) .no)])]),
  (83, [(2, [(0, .val (.list (.int .i64)) .no), (1, .val (.int .i64) .no), (5, .val (.int .i64) .no)])]),
  (85, [(2, [(0, .val (.list (.int .i64)) .no), (1, .val (.int .i64) .no), (7, .val (.int .i64) .no), (8, .val (.int .i64) .no)])]),
  (86, [(1, [(0, .pown 3 (.int .i64) .no), (1, .val (.int .i64) .no), (2, .val (.int .i64) .no), (6, .val (.int .i64) .no)]), (4, [(0, .pown 3 (.int .i64) .no), (1, .val (.int .i64) .no), (2, .val (.int .i64) .no), (6, .val (.int .i64) .no), (7, .val (.int .i64) .no)])]),
  (87, [(4, [(0, .pown 3 (.int .i64) .no), (6, .val (.int .i64) .no), (7, .val (.int .i64) .no), (8, .val (.int .i64) .no), (9, .val (.int .i64) .no)]), (8, [(0, .pown 3 (.int .i64) .no), (6, .val (.int .i64) .no), (7, .val (.int .i64) .no), (10, .val (.int .i64) .no)])]),
  (88, [(5, [(0, .pown 3 (.int .i64) .no), (1, .val (.int .i64) .no), (6, .val (.int .i64) .no), (7, .box (.int .u64) .no), (8, .val (.int .u64) .no), (9, .val (.int .i64) .no)])]),
  (90, [(2, [(0, .pown 3 (.int .i64) .no), (6, .val (.int .i64) .no), (7, .val (.int .i64) .no)])]),
  (91, [(3, [(0, .pown 3 (.int .i64) .no), (1, .val (.int .i64) .no), (2, .val (.int .i64) .no), (7, .val (.int .i64) .no), (8, .val (.int .i64) .no)]), (5, [(0, .pown 3 (.int .i64) .no), (1, .val (.int .i64) .no), (2, .val (.int .i64) .no), (7, .val (.int .i64) .no), (8, .val (.int .i64) .no)]), (14, [(0, .pown 3 (.int .i64) .no), (1, .val (.int .i64) .no), (2, .val (.int .i64) .no), (7, .val (.int .i64) .no), (8, .val (.int .i64) .no), (9, .val (.int .i64) .no)]), (20, [(0, .pown 3 (.int .i64) .no), (1, .val (.int .i64) .no), (2, .val (.int .i64) .no), (7, .val (.int .i64) .no), (8, .val (.int .i64) .no), (10, .val (.int .i64) .no)])]),
  (93, [(3, [(0, .pown 3 (.int .i64) .no), (1, .val (.int .i64) .no), (9, .val (.int .i64) .no), (10, .val (.int .i64) .no)]), (5, [(0, .pown 3 (.int .i64) .no), (1, .val (.int .i64) .no), (9, .val (.int .i64) .no), (10, .val (.int .i64) .no)])]),
  (94, [(3, [(0, .pown 3 (.int .i64) .no), (1, .val (.int .i64) .no), (10, .val (.int .i64) .no), (11, .val (.int .i64) .no)]), (5, [(0, .pown 3 (.int .i64) .no), (1, .val (.int .i64) .no), (10, .val (.int .i64) .no), (11, .val (.int .i64) .no)]), (13, [(0, .pown 3 (.int .i64) .no), (1, .val (.int .i64) .no), (10, .val (.int .i64) .no), (11, .val (.int .i64) .no)]), (15, [(0, .pown 3 (.int .i64) .no), (1, .val (.int .i64) .no), (10, .val (.int .i64) .no), (11, .val (.int .i64) .no)])]),
  (97, [(3, [(0, .val (.int .i64) .no), (1, .val (.int .i64) .no), (7, .val (.int .i64) .no), (8, .val (.int .i64) .no)])]),
  (98, [(3, [(0, .val (.int .i64) .no), (1, .val (.int .i64) .no), (5, .val (.int .u64) .no), (6, .val (.int .i64) .no)])]),
  (102, [(3, [(0, .val (.int .i64) .no), (1, .val (.int .i64) .no), (2, .val (.int .i64) .no), (3, .val (.int .i64) .no), (9, .val (.int .i64) .no), (10, .val (.int .i64) .no)])]),
  (103, [(1, [(0, .pown 3 (.int .i64) .no), (2, .val (.int .i64) .no), (3, .val (.int .i64) .no), (8, .val (.int .i64) .no)])])]
noncomputable def prims : List (Nat × (List SV → Option (List PV))) := []
noncomputable def cfg : Cfg := ⟨Tryz.prog, asc tis, asc fns, realOf [], altsOf [] [], asc sigs, asc2 loops, fun _ _ => .no, asc prims⟩
theorem fns_ok : FnsOK Tryz.prog [] fns := ⟨Tryz.func3, Tryz.func4, Tryz.func5, Tryz.func6, Tryz.func7, Tryz.func8, Tryz.func9, Tryz.func10, Tryz.func11, Tryz.func12, Tryz.func13, Tryz.func14, Tryz.func15, Tryz.func16, Tryz.func17, Tryz.func18, Tryz.func19, Tryz.func20, Tryz.func21, Tryz.func22, Tryz.func23, Tryz.func24, Tryz.func25, Tryz.func26, Tryz.func27, Tryz.func28, Tryz.func29, Tryz.func30, Tryz.func31, Tryz.func32, Tryz.func33, Tryz.func34, Tryz.func35, Tryz.func36, Tryz.func37, Tryz.func38, Tryz.func39, Tryz.func40, Tryz.func41, Tryz.func42, Tryz.func43, Tryz.func44, Tryz.func45, Tryz.func46, Tryz.func47, Tryz.func48, Tryz.func49, Tryz.func50, Tryz.func51, Tryz.func52, Tryz.func53, Tryz.func54, Tryz.func55, Tryz.func56, Tryz.func57, Tryz.func58, Tryz.func59, Tryz.func60, Tryz.func61, Tryz.func62, Tryz.func63, Tryz.func64, Tryz.func65, Tryz.func66, Tryz.func67, Tryz.func68, Tryz.func69, Tryz.func70, Tryz.func71, Tryz.func72, Tryz.func73, Tryz.func74, Tryz.func75, Tryz.func76, Tryz.func77, Tryz.func78, Tryz.func79, Tryz.func80, Tryz.func81, Tryz.func82, Tryz.func83, Tryz.func84, Tryz.func85, Tryz.func86, Tryz.func87, Tryz.func88, Tryz.func89, Tryz.func90, Tryz.func91, Tryz.func92, Tryz.func93, Tryz.func94, Tryz.func96, Tryz.func97, Tryz.func98, Tryz.func99, Tryz.func100, Tryz.func101, Tryz.func102, Tryz.func103, Tryz.func104, Tryz.func105, Tryz.func106, Tryz.func107, Tryz.func108, Tryz.func109, trivial⟩
theorem cfg_ok : cfg.OK := Cfg.OK.of (C := cfg) (tis := tis) (fns := fns) (sigs := sigs) (rl := []) (al := []) rfl rfl rfl rfl rfl (by kernel_rfl) fns_ok (by kernel_rfl) (by kernel_rfl) (by kernel_rfl)
/-- The text of a loop; slots. -/
noncomputable abbrev LA (f : Nat) (F : Func) (p : List Nat) (s : St) := LpAt cfg f (F.body.getD .skip) F.results.toList ((asc sigs f).getD ⟨[], [], []⟩) p s
abbrev vI (k : Nat) (n : Int) : Nat × SV := (k, .v (.int .i64 n))
abbrev vL (k : Nat) (e : Ty) (l : List e.den) : Nat × SV := (k, .v (.list e l))
abbrev vP (k p : Nat) : Nat × SV := (k, .v (.ptr p (.at 0)))
end Go.Proofs.YtilingejmkaegaaGreat.S
