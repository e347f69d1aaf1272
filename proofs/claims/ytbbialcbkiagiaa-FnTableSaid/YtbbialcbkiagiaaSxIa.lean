import Derived.Test.YtbbialcbkiagiaaPsZa
import Derived.Test.YtbbialcbkiagiaaProg
namespace Go.Proofs.Ytbbialcbkiagiaa.S
open Go.Ps
set_option linter.unusedVariables false
set_option maxRecDepth 100000
set_option maxHeartbeats 0
abbrev Y0 : Ty := (.pair .str (.pair (.int .i64) (.pair (.int .i64) (.pair (.int .i64) (.pair (.int .i64) (.int .i64))))))
abbrev Y1 : Ty := (.pair .str (.pair (.int .i64) (.pair (.int .i64) (.pair (.int .i64) (.int .i64)))))
abbrev Y2 : Ty := (.pair (.int .i64) (.pair (.int .i64) (.pair (.int .i64) (.pair (.int .i64) (.int .i64)))))
abbrev Y3 : Ty := (.pair (.int .i64) (.pair (.int .i64) (.int .i64)))
abbrev D0 : Type := Int × Int × Int × Int × Int
abbrev Y4 : Ty := (.pair (.list (.int .u8)) (.pair (.int .i64) (.int .i64)))
abbrev Y5 : Ty := (.pair .str (.pair .str (.list Y1)))
abbrev Y6 : Ty := (.pair (.int .i64) (.int .i64))
abbrev Y7 : Ty := (.pair (.int .i64) (.pair (.int .i64) (.pair (.int .i64) (.int .i64))))
abbrev Y8 : Ty := (.pair (.list Y2) (.pair (.int .i64) (.pair (.int .i64) (.pair (.list (.int .i64)) (.list (.int .i64))))))
abbrev D1 : Type := List Int × Int × Int
abbrev D2 : Type := Int × List Int × Int × Int
abbrev D3 : Type := List D0 × List Int × Int × Int
abbrev D4 : Type := Int × Int × Int × Int
abbrev D5 : Type := ByteArray × Int × Int × Int × Int
abbrev D6 : Type := ByteArray × ByteArray × List D5
abbrev D7 : Type := D6 × List Int × Int × Int
abbrev D8 : Type := Bool × Bool × Bool
abbrev D9 : Type := List D0 × Int × Bool
abbrev D10 : Type := List D0 × Int × Int × List Int × List Int
abbrev D11 : Type := ByteArray × Int × Int × Int × Int × Int
noncomputable def tis : List (Nat × TI) := [
  (3, ⟨.scalar, 1, 8, [.int .i64 0], (.int .i64), false⟩),
  (5, ⟨.scalar, 1, 1, [.int .u8 0], (.int .u8), false⟩),
  (9, ⟨.scalar, 1, 16, [.str (⟨#[]⟩ : ByteArray)], .str, false⟩),
  (22, ⟨(.slice 5), 1, 24, [.nils], (.list (.int .u8)), false⟩),
  (23, ⟨(.slice 39), 1, 24, [.nils], (.list Y1), false⟩),
  (25, ⟨(.struct [(0, 1), (1, 1), (2, 1)] [false, false, false] []), 3, 56, [.str (⟨#[]⟩ : ByteArray), .str (⟨#[]⟩ : ByteArray), .nils], Y5, false⟩),
  (27, ⟨(.slice 36), 1, 24, [.nils], (.list Y0), false⟩),
  (36, ⟨(.struct [(0, 1), (1, 1), (2, 1), (3, 1), (4, 1), (5, 1)] [false, false, false, false, false, false] []), 6, 56, [.str (⟨#[]⟩ : ByteArray), .int .i64 0, .int .i64 0, .int .i64 0, .int .i64 0, .int .i64 0], Y0, false⟩),
  (39, ⟨(.struct [(0, 1), (1, 1), (2, 1), (3, 1), (4, 1)] [false, false, false, false, false] []), 5, 48, [.str (⟨#[]⟩ : ByteArray), .int .i64 0, .int .i64 0, .int .i64 0, .int .i64 0], Y1, false⟩),
  (56, ⟨(.struct [(0, 1), (1, 1), (2, 1)] [false, false, false] []), 3, 40, [.nils, .int .i64 0, .int .i64 0], Y4, false⟩),
  (58, ⟨(.slice 3), 1, 24, [.nils], (.list (.int .i64)), false⟩),
  (59, ⟨(.slice 60), 1, 24, [.nils], (.list (.list Y2)), false⟩),
  (60, ⟨(.slice 66), 1, 24, [.nils], (.list Y2), false⟩),
  (62, ⟨(.slice 9), 1, 24, [.nils], (.list .str), false⟩),
  (66, ⟨(.struct [(0, 1), (1, 1), (2, 1), (3, 1), (4, 1)] [false, false, false, false, false] []), 5, 40, [.int .i64 0, .int .i64 0, .int .i64 0, .int .i64 0, .int .i64 0], Y2, true⟩),
  (73, ⟨.scalar, 1, 8, [.int .u64 0], (.int .u64), false⟩),
  (74, ⟨.scalar, 1, 8, [.int .u64 0], (.int .u64), false⟩),
  (76, ⟨(.struct [(0, 1), (1, 1)] [false, false] []), 2, 16, [.int .i64 0, .int .i64 0], Y6, false⟩),
  (83, ⟨(.struct [(0, 1), (1, 1), (2, 1), (3, 1)] [false, false, false, false] []), 4, 32, [.int .i64 0, .int .i64 0, .int .i64 0, .int .i64 0], Y7, false⟩),
  (91, ⟨(.struct [(0, 1), (1, 1), (2, 1), (3, 1), (4, 1)] [false, false, false, false, false] []), 5, 88, [.nils, .int .i64 0, .int .i64 0, .nils, .nils], Y8, false⟩),
  (99, ⟨(.slice 102), 1, 24, [.nils], (.list Y1), false⟩),
  (102, ⟨(.struct [(0, 1), (1, 4)] [false, true] []), 5, 48, [.str (⟨#[]⟩ : ByteArray), .int .i64 0, .int .i64 0, .int .i64 0, .int .i64 0], Y1, false⟩),
  (104, ⟨(.slice 107), 1, 24, [.nils], (.list Y3), false⟩),
  (107, ⟨(.struct [(0, 1), (1, 1), (2, 1)] [false, false, false] []), 3, 24, [.int .i64 0, .int .i64 0, .int .i64 0], Y3, false⟩)]
noncomputable def fns : List (Nat × Func) := [(3, Try.f3), (4, Try.f4), (5, Try.f5), (6, Try.f6), (7, Try.f7), (8, Try.f8), (9, Try.f9), (10, Try.f10), (11, Try.f11), (12, Try.f12), (13, Try.f13), (14, Try.f14), (15, Try.f15), (16, Try.f16), (17, Try.f17), (18, Try.f18), (19, Try.f19), (20, Try.f20), (21, Try.f21), (22, Try.f22), (23, Try.f23), (24, Try.f24), (25, Try.f25), (26, Try.f26), (27, Try.f27), (28, Try.f28), (29, Try.f29), (30, Try.f30), (31, Try.f31), (32, Try.f32), (33, Try.f33), (34, Try.f34), (35, Try.f35), (36, Try.f36), (37, Try.f37), (38, Try.f38), (39, Try.f39), (40, Try.f40), (41, Try.f41), (42, Try.f42), (43, Try.f43), (44, Try.f44), (45, Try.f45), (46, Try.f46), (47, Try.f47), (48, Try.f48), (49, Try.f49), (50, Try.f50), (51, Try.f51), (52, Try.f52), (53, Try.f53), (54, Try.f54), (55, Try.f55), (56, Try.f56), (57, Try.f57), (58, Try.f58), (59, Try.f59), (60, Try.f60), (61, Try.f61), (62, Try.f62), (63, Try.f63), (64, Try.f64), (65, Try.f65), (66, Try.f66), (67, Try.f67), (68, Try.f68), (69, Try.f69), (70, Try.f70), (71, Try.f71), (72, Try.f72)]
noncomputable def sigs : List (Nat × Sig) := [
  (3, ⟨[.val (.list (.int .u8)), .val (.list (.int .u8))], [(.bool, false)], [.no]⟩),
  (4, ⟨[.val (.list (.int .u8))], [(Y5, true)], [(.pair .no (.pair .no (.own 39 .no)))]⟩),
  (5, ⟨[.val Y5], [((.list Y0), false), ((.int .i64), false)], [(.own 36 .no), .no]⟩),
  (6, ⟨[.val (.list Y0)], [(.bool, false)], [.no]⟩),
  (7, ⟨[.val (.list (.int .u8)), .val (.int .i64), .val (.int .i64)], [((.int .i64), false)], [.no]⟩),
  (8, ⟨[.val Y5, .val (.int .i64)], [((.int .i64), false), ((.int .i64), false)], [.no, .no]⟩),
  (9, ⟨[.val (.list Y0), .val .str], [((.int .i64), false), ((.int .i64), false)], [.no, .no]⟩),
  (10, ⟨[.val (.list Y0), .val (.int .i64)], [((.int .i64), false), ((.int .i64), false)], [.no, .no]⟩),
  (11, ⟨[.val (.list (.int .u8))], [((.opt Y4), false)], [.box]⟩),
  (12, ⟨[.var Y4 .no], [(Y5, true)], [(.pair .no (.pair .no (.own 39 .no)))]⟩),
  (13, ⟨[.val Y5], [(.bool, false)], [.no]⟩),
  (14, ⟨[.val Y5], [((.list Y0), false)], [(.own 36 .no)]⟩),
  (15, ⟨[.val Y0], [(.bool, false)], [.no]⟩),
  (16, ⟨[.val (.list Y0), .val .str], [((.int .i64), false)], [.no]⟩),
  (17, ⟨[.val (.int .i64), .val (.int .i64), .val (.int .i64)], [(.bool, false)], [.no]⟩),
  (18, ⟨[.val Y1], [((.int .i64), false)], [.no]⟩),
  (19, ⟨[.val .str], [(.bool, false)], [.no]⟩),
  (20, ⟨[.val (.list Y0)], [((.int .i64), false)], [.no]⟩),
  (21, ⟨[.val (.int .i64)], [((.int .i64), false), ((.int .i64), false)], [.no, .no]⟩),
  (22, ⟨[.val (.list Y0), .raw], [((.int .i64), false)], [.no]⟩),
  (23, ⟨[.val Y0, .ro (.int .i64)], [(.bool, false)], [.no]⟩),
  (24, ⟨[.var Y4 .no, .val (.int .i64)], [((.int .i64), false)], [.no]⟩),
  (25, ⟨[.var Y4 .no], [((.int .i64), false)], [.no]⟩),
  (26, ⟨[.var Y4 .no, .val (.int .i64), .val (.int .i64), .val (.int .i64), .val (.list (.int .i64)), .val (.list (.int .i64))], [((.list Y2), false)], [(.own 66 .no)]⟩),
  (27, ⟨[], [((.list .str), false)], [(.own 9 .no)]⟩),
  (28, ⟨[.val (.list Y2)], [(.str, false)], [.no]⟩),
  (29, ⟨[.val (.int .i64), .val (.int .i64)], [(.str, false)], [.no]⟩),
  (30, ⟨[.val Y5], [((.int .i64), false), ((.int .i64), false), ((.int .i64), false)], [.no, .no, .no]⟩),
  (31, ⟨[.val .str], [(.bool, false)], [.no]⟩),
  (32, ⟨[.val (.int .i64)], [(.bool, false)], [.no]⟩),
  (33, ⟨[.val (.int .i64)], [(.bool, false)], [.no]⟩),
  (34, ⟨[.val Y0, .ro .str], [(.bool, false)], [.no]⟩),
  (35, ⟨[.var Y4 .no], [((.int .i64), false)], [.no]⟩),
  (36, ⟨[.val (.int .i64)], [((.list Y2), false)], [(.own 66 .no)]⟩),
  (37, ⟨[.var Y4 .no, .val (.int .i64), .val (.int .i64), .val (.int .i64), .val (.list (.int .i64)), .val (.list (.int .i64))], [((.list Y2), false)], [(.own 66 .no)]⟩),
  (38, ⟨[.val (.int .i64)], [((.list Y2), false)], [(.own 66 .no)]⟩),
  (39, ⟨[.val Y2], [((.int .i64), false)], [.no]⟩),
  (40, ⟨[.val Y5, .val (.int .i64), .var Y6 .no], [((.int .i64), false)], [.no]⟩),
  (41, ⟨[.val Y5], [((.list (.int .i64)), false)], [(.own 3 .no)]⟩),
  (42, ⟨[.val .str, .val (.int .i64), .val (.int .i64), .val (.list (.int .i64))], [((.int .i64), false), ((.int .i64), false)], [.no, .no]⟩),
  (43, ⟨[.val (.int .u8)], [(.bool, false)], [.no]⟩),
  (44, ⟨[.val (.int .u8)], [(.bool, false)], [.no]⟩),
  (45, ⟨[.var Y4 .no], [((.int .i64), false)], [.no]⟩),
  (46, ⟨[.val (.int .i64)], [(Y7, true)], [.no]⟩),
  (47, ⟨[.val (.int .i64), .val (.int .i64), .val (.int .i64), .val (.int .i64)], [((.int .i64), false)], [.no]⟩),
  (48, ⟨[.val (.int .i64), .val (.int .i64)], [((.int .i64), false)], [.no]⟩),
  (49, ⟨[.val .str], [(.bool, false)], [.no]⟩),
  (50, ⟨[.val .str], [((.list Y2), false), ((.int .i64), false), (.bool, false)], [(.own 66 .no), .no, .no]⟩),
  (51, ⟨[.val (.int .i64)], [((.list Y2), false)], [(.own 66 .no)]⟩),
  (52, ⟨[.val (.list Y2), .val (.list Y2)], [(.bool, false)], [.no]⟩),
  (53, ⟨[.val (.int .i64)], [((.list Y2), false)], [(.own 66 .no)]⟩),
  (54, ⟨[.ro Y8, .val (.int .i64)], [((.int .i64), false)], [.no]⟩),
  (55, ⟨[.val .str], [(.bool, false)], [.no]⟩),
  (56, ⟨[.val (.int .i64)], [(Y2, true), (.bool, false)], [.no, .no]⟩),
  (57, ⟨[.val .str], [((.int .i64), false)], [.no]⟩),
  (58, ⟨[.val (.list (.int .i64)), .val (.int .i64)], [(.bool, false)], [.no]⟩),
  (59, ⟨[.ro Y8, .val (.int .i64)], [(.bool, false)], [.no]⟩),
  (60, ⟨[.val (.int .i64)], [(.bool, false)], [.no]⟩),
  (61, ⟨[.val (.int .i64)], [(.bool, false)], [.no]⟩),
  (62, ⟨[.val (.int .i64)], [(.bool, false)], [.no]⟩),
  (63, ⟨[.val (.int .i64)], [((.int .i64), false), (.bool, false)], [.no, .no]⟩),
  (64, ⟨[], [((.list Y1), false)], [(.own 102 .no)]⟩),
  (65, ⟨[.val (.int .i64), .val (.int .i64), .val (.int .i64)], [((.int .i64), false)], [.no]⟩),
  (66, ⟨[.val (.int .i64)], [((.list Y3), false)], [(.own 107 .no)]⟩),
  (67, ⟨[.val (.int .i64)], [((.int .i64), false)], [.no]⟩),
  (68, ⟨[.val (.int .i64), .val (.int .i64)], [((.int .i64), false)], [.no]⟩),
  (69, ⟨[.val (.int .i64)], [(.bool, false), (.bool, false), (.bool, false)], [.no, .no, .no]⟩),
  (70, ⟨[.val Y2], [((.int .i64), false)], [.no]⟩),
  (71, ⟨[.val (.list (.int .i64)), .val (.int .i64)], [((.int .i64), false)], [.no]⟩),
  (72, ⟨[.val (.int .i64)], [(Y7, true)], [.no]⟩)]
noncomputable def loops : List (Nat × List (Nat × List (Nat × LK))) := [
  (6, [(4, [(0, .val (.list Y0) .no), (8, .val (.list Y0) .no), (9, .val (.int .i64) .no), (10, .val (.int .i64) .no)])]),
  (12, [(5, [(0, .par Y4 .no), (2, .box Y5 (.pair .no (.pair .no (.own 39 .no)))), (3, .val (.int .i64) .no), (4, .val (.int .i64) .no), (5, .val (.list (.int .i64)) (.own 3 .no)), (6, .val (.int .i64) .no)]), (10, [(0, .par Y4 .no), (2, .box Y5 (.pair .no (.pair .no (.own 39 .no)))), (3, .val (.int .i64) .no), (4, .val (.int .i64) .no), (5, .val (.list (.int .i64)) (.own 3 .no)), (7, .val (.list (.int .i64)) (.own 3 .no)), (8, .val (.int .i64) .no)]), (16, [(0, .par Y4 .no), (2, .box Y5 (.pair .no (.pair .no (.own 39 .no)))), (3, .val (.int .i64) .no), (4, .val (.int .i64) .no), (5, .val (.list (.int .i64)) .no), (7, .val (.list (.int .i64)) .no), (9, .box Y5 (.pair .no (.pair .no (.own 39 .no)))), (10, .val (.list (.list Y2)) (.own 60 (.own 66 .no))), (11, .val (.int .i64) .no)]), (25, [(0, .par Y4 .no), (2, .box Y5 (.pair .no (.pair .no (.own 39 .no)))), (3, .val (.int .i64) .no), (4, .val (.int .i64) .no), (9, .box Y5 (.pair .no (.pair .no (.own 39 .no)))), (10, .val (.list (.list Y2)) (.own 60 (.own 66 .no))), (14, .val (.int .i64) .no)]), (36, [(0, .par Y4 .no), (2, .box Y5 (.pair .no (.pair .no (.own 39 .no)))), (4, .val (.int .i64) .no), (9, .box Y5 (.pair .no (.pair .no (.own 39 .no)))), (18, .val (.int .i64) .no)]), (29, [(0, .par Y4 .no), (2, .box Y5 (.pair .no (.pair .no (.own 39 .no)))), (3, .val (.int .i64) .no), (4, .val (.int .i64) .no), (9, .box Y5 (.pair .no (.pair .no (.own 39 .no)))), (10, .val (.list (.list Y2)) (.own 60 (.own 66 .no))), (14, .val (.int .i64) .no), (15, .sub 10 0), (16, .val (.int .i64) .no)])]),
  (14, [(3, [(3, .val (.list Y0) (.own 36 .no)), (7, .val (.list Y1) .no), (8, .val (.int .i64) .no), (9, .val (.int .i64) .no)])]),
  (22, [(2, [(0, .val (.list Y0) .no), (1, .keep), (7, .val (.int .i64) .no), (8, .val (.int .i64) .no)])]),
  (26, [(3, [(0, .par Y4 .no), (1, .val (.int .i64) .no), (2, .val (.int .i64) .no), (3, .val (.int .i64) .no), (4, .val (.list (.int .i64)) .no), (5, .val (.list (.int .i64)) .no), (13, .val (.list Y2) (.own 66 .no)), (14, .val (.int .i64) .no)])]),
  (28, [(3, [(0, .val (.list Y2) .no), (3, .val .str .no), (4, .val (.int .i64) .no)])]),
  (29, [(3, [(0, .val (.int .i64) .no), (1, .val (.int .i64) .no), (5, .val (.list (.int .u8)) (.own 5 .no)), (6, .val (.int .i64) .no)])]),
  (30, [(7, [(1, .box Y5 .no), (5, .box Y6 .no), (31, .val (.int .i64) .no), (32, .val (.int .i64) .no)]), (19, [(1, .box Y5 .no), (8, .val (.list (.int .i64)) (.own 3 .no)), (66, .val (.list Y1) .no), (67, .val (.int .i64) .no), (68, .val (.int .i64) .no)])]),
  (31, [(4, [(0, .val .str .no), (3, .val (.int .i64) .no)])]),
  (39, [(10, [(1, .box Y2 .no), (4, .val (.int .i64) .no), (5, .val (.int .i64) .no)]), (30, [(1, .box Y2 .no), (4, .val (.int .i64) .no), (7, .val (.int .i64) .no)]), (46, [(1, .box Y2 .no), (4, .val (.int .i64) .no), (9, .val (.int .i64) .no)])]),
  (40, [(5, [(2, .par Y6 .no), (3, .box Y5 .no), (7, .box Y1 .no), (22, .val (.list Y1) .no), (23, .val (.int .i64) .no), (24, .val (.int .i64) .no)])]),
  (41, [(3, [(3, .val (.list (.int .i64)) (.own 3 .no)), (7, .val (.list Y1) .no), (8, .val (.int .i64) .no), (9, .val (.int .i64) .no)])]),
  (42, [(11, [(1, .val (.int .i64) .no), (2, .val (.int .i64) .no), (3, .val (.list (.int .i64)) .no), (10, .val (.list Y2) (.own 66 .no)), (42, .val (.list Y2) (.own 66 .no)), (43, .val (.int .i64) .no), (44, .val (.int .i64) .no)]), (21, [(2, .val (.int .i64) .no), (10, .val (.list Y2) .no), (16, .box Y8 (.pair .no (.pair .no (.pair .no (.pair .no (.own 3 .no)))))), (17, .val (.int .i64) .no)]), (26, [(10, .val (.list Y2) .no), (16, .box Y8 (.pair .no (.pair .no (.pair .no (.pair .no (.own 3 .no)))))), (18, .val (.int .i64) .no)])]),
  (47, [(3, [(0, .val (.int .i64) .no), (1, .val (.int .i64) .no), (2, .val (.int .i64) .no), (3, .val (.int .i64) .no), (9, .val (.int .i64) .no), (10, .val (.int .i64) .no)])]),
  (50, [(3, [(0, .val .str .no), (5, .val (.list Y2) (.own 66 .no)), (6, .val (.int .i64) .no)])]),
  (52, [(4, [(0, .val (.list Y2) .no), (1, .val (.list Y2) .no), (12, .val (.int .i64) .no), (13, .val (.int .i64) .no)])]),
  (56, [(2, [(0, .val (.int .i64) .no), (2, .box Y2 .no), (14, .val (.list Y1) (.own 102 .no)), (15, .val (.int .i64) .no), (16, .val (.int .i64) .no)]), (8, [(0, .val (.int .i64) .no), (2, .box Y2 .no), (6, .box Y7 .no), (7, .box Y2 .no), (14, .val (.list Y1) (.own 102 .no)), (15, .val (.int .i64) .no), (16, .val (.int .i64) .no), (36, .val (.list Y3) (.own 107 .no)), (37, .val (.int .i64) .no), (38, .val (.int .i64) .no)])]),
  (57, [(3, [(0, .val .str .no), (3, .val (.int .i64) .no), (4, .val (.int .i64) .no)])]),
  (70, [(4, [(1, .box Y2 .no), (3, .box Y7 .no), (4, .val (.int .i64) .no), (17, .val (.list Y3) (.own 107 .no)), (18, .val (.int .i64) .no), (19, .val (.int .i64) .no)])]),
  (71, [(2, [(0, .val (.list (.int .i64)) .no), (1, .val (.int .i64) .no), (7, .val (.int .i64) .no), (8, .val (.int .i64) .no)])])]
noncomputable def prims : List (Nat × (List SV → Option (List PV))) := []
noncomputable def elfs : List (Nat × List (Nat × Fl)) := [(59, [(6400, (.own 66 .no)), (8704, (.own 66 .no))])]
noncomputable def cfg : Cfg := ⟨Try.prog, asc tis, asc fns, realOf [], altsOf [] [], asc sigs, asc2 loops, fun t i => (asc2 elfs t i).getD .no, asc prims⟩
theorem fns_ok : FnsOK Try.prog [] fns := ⟨Try.func3, Try.func4, Try.func5, Try.func6, Try.func7, Try.func8, Try.func9, Try.func10, Try.func11, Try.func12, Try.func13, Try.func14, Try.func15, Try.func16, Try.func17, Try.func18, Try.func19, Try.func20, Try.func21, Try.func22, Try.func23, Try.func24, Try.func25, Try.func26, Try.func27, Try.func28, Try.func29, Try.func30, Try.func31, Try.func32, Try.func33, Try.func34, Try.func35, Try.func36, Try.func37, Try.func38, Try.func39, Try.func40, Try.func41, Try.func42, Try.func43, Try.func44, Try.func45, Try.func46, Try.func47, Try.func48, Try.func49, Try.func50, Try.func51, Try.func52, Try.func53, Try.func54, Try.func55, Try.func56, Try.func57, Try.func58, Try.func59, Try.func60, Try.func61, Try.func62, Try.func63, Try.func64, Try.func65, Try.func66, Try.func67, Try.func68, Try.func69, Try.func70, Try.func71, Try.func72, trivial⟩
theorem cfg_ok : cfg.OK := Cfg.OK.of (C := cfg) (tis := tis) (fns := fns) (sigs := sigs) (rl := []) (al := []) rfl rfl rfl rfl rfl (by kernel_rfl) fns_ok (by kernel_rfl) (by kernel_rfl) (by kernel_rfl)
/-- The text of a loop; slots. -/
noncomputable abbrev LA (f : Nat) (F : Func) (p : List Nat) (s : St) := LpAt cfg f (F.body.getD .skip) F.results.toList ((asc sigs f).getD ⟨[], [], []⟩) p s
abbrev vI (k : Nat) (n : Int) : Nat × SV := (k, .v (.int .i64 n))
abbrev vL (k : Nat) (e : Ty) (l : List e.den) : Nat × SV := (k, .v (.list e l))
abbrev vP (k p : Nat) : Nat × SV := (k, .v (.ptr p (.at 0)))
end Go.Proofs.Ytbbialcbkiagiaa.S
