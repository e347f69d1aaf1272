import Derived.Test.YtamgeifafllcgaaPsZa
import Derived.Test.YtamgeifafllcgaaProg
namespace Go.Proofs.Ytamgeifafllcgaa.S
open Go.Ps
set_option linter.unusedVariables false
set_option maxRecDepth 100000
set_option maxHeartbeats 0
abbrev Y0 : Ty := (.pair .str (.pair .bool (.pair (.int .i64) .str)))
abbrev Y1 : Ty := (.pair (.int .i64) (.pair (.int .i64) (.pair (.int .i64) (.pair .str (.int .i64)))))
abbrev Y2 : Ty := (.pair .str (.pair (.int .i64) .bool))
abbrev Y3 : Ty := (.pair .str (.pair (.int .i64) (.pair (.list Y0) (.pair (.list (.pair .str .str)) (.pair (.list Y1) (.list (.pair (.int .i64) .bool)))))))
abbrev D0 : Type := ByteArray × Int × Bool
abbrev D1 : Type := ByteArray × ByteArray × Int × Bool
abbrev D2 : Type := Int × ByteArray × Int × Bool
abbrev D3 : Type := ByteArray × Bool × Int × ByteArray
abbrev D4 : Type := ByteArray × ByteArray
abbrev D5 : Type := Int × Int × Int × ByteArray × Int
abbrev D6 : Type := ByteArray × Int × List D3 × List D4 × List D5 × List (Int × Bool)
abbrev D7 : Type := D6 × Int × ByteArray × Int × Bool
abbrev D8 : Type := (Option (ByteArray × Bool)) × Int
abbrev D9 : Type := ByteArray × ByteArray × Bool
abbrev D10 : Type := Int × ByteArray × Bool
abbrev D11 : Type := Bool × (ByteArray × Bool) × Bool
abbrev D12 : Type := Int × List (Int × Bool)
abbrev D13 : Type := Int × Unit × Unit × List D3 × List D4 × List D5 × List (Int × Bool)
noncomputable def tis : List (Nat × TI) := [
  (3, ⟨.scalar, 1, 8, [.int .i64 0], (.int .i64), false⟩),
  (4, ⟨.scalar, 1, 1, [.bool false], .bool, false⟩),
  (5, ⟨.scalar, 1, 1, [.int .u8 0], (.int .u8), false⟩),
  (9, ⟨.scalar, 1, 16, [.str (⟨#[]⟩ : ByteArray)], .str, false⟩),
  (22, ⟨(.slice 42), 1, 24, [.nils], (.list Y0), false⟩),
  (23, ⟨(.slice 44), 1, 24, [.nils], (.list (.pair .str .str)), false⟩),
  (24, ⟨(.slice 47), 1, 24, [.nils], (.list Y1), false⟩),
  (25, ⟨(.slice 49), 1, 24, [.nils], (.list (.pair (.int .i64) .bool)), false⟩),
  (27, ⟨(.struct [(0, 1), (1, 1), (2, 1), (3, 1), (4, 1), (5, 1)] [false, false, false, false, false, false] []), 6, 120, [.str (⟨#[]⟩ : ByteArray), .int .i64 0, .nils, .nils, .nils, .nils], Y3, false⟩),
  (33, ⟨.other, 1, 8, [.nilp], (.opt (.pair .str .bool)), false⟩),
  (40, ⟨(.struct [(0, 1), (1, 1)] [false, false] []), 2, 24, [.str (⟨#[]⟩ : ByteArray), .bool false], (.pair .str .bool), false⟩),
  (42, ⟨(.struct [(0, 1), (1, 1), (2, 1), (3, 1)] [false, false, false, false] []), 4, 48, [.str (⟨#[]⟩ : ByteArray), .bool false, .int .i64 0, .str (⟨#[]⟩ : ByteArray)], Y0, false⟩),
  (44, ⟨(.struct [(0, 1), (1, 1)] [false, false] []), 2, 32, [.str (⟨#[]⟩ : ByteArray), .str (⟨#[]⟩ : ByteArray)], (.pair .str .str), false⟩),
  (47, ⟨(.struct [(0, 1), (1, 1), (2, 1), (3, 1), (4, 1)] [false, false, false, false, false] []), 5, 48, [.int .i64 0, .int .i64 0, .int .i64 0, .str (⟨#[]⟩ : ByteArray), .int .i64 0], Y1, false⟩),
  (49, ⟨(.struct [(0, 1), (1, 1)] [false, false] []), 2, 16, [.int .i64 0, .bool false], (.pair (.int .i64) .bool), false⟩),
  (65, ⟨(.struct [(0, 1), (1, 1), (2, 1)] [false, false, false] []), 3, 32, [.str (⟨#[]⟩ : ByteArray), .int .i64 0, .bool false], Y2, false⟩),
  (78, ⟨.scalar, 1, 8, [.int .u64 0], (.int .u64), false⟩),
  (82, ⟨(.slice 5), 1, 24, [.nils], (.list (.int .u8)), false⟩),
  (83, ⟨.scalar, 1, 8, [.int .u64 0], (.int .u64), false⟩),
  (86, ⟨(.slice 9), 1, 24, [.nils], (.list .str), false⟩),
  (88, ⟨(.slice 3), 1, 24, [.nils], (.list (.int .i64)), false⟩)]
noncomputable def fns : List (Nat × Func) := [(3, Try.f3), (4, Try.f4), (5, Try.f5), (6, Try.f6), (7, Try.f7), (8, Try.f8), (9, Try.f9), (10, Try.f10), (11, Try.f11), (12, Try.f12), (13, Try.f13), (14, Try.f14), (15, Try.f15), (16, Try.f16), (17, Try.f17), (18, Try.f18), (19, Try.f19), (20, Try.f20), (21, Try.f21), (22, Try.f22), (23, Try.f23), (24, Try.f24), (25, Try.f25), (26, Try.f26), (27, Try.f27), (28, Try.f28), (29, Try.f29), (30, Try.f30), (31, Try.f31), (32, Try.f32), (33, Try.f33), (34, Try.f34), (35, Try.f35), (36, Try.f36), (37, Try.f37), (38, Try.f38), (39, Try.f39), (40, Try.f40), (41, Try.f41), (42, Try.f42), (43, Try.f43), (44, Try.f44), (45, Try.f45), (46, Try.f46), (47, Try.f47), (48, Try.f48), (49, Try.f49), (50, Try.f50), (51, Try.f51), (52, Try.f52), (53, Try.f53), (54, Try.f54), (55, Try.f55), (56, Try.f56), (57, Try.f57), (58, Try.f58), (59, Try.f59), (60, Try.f60), (61, Try.f61), (62, Try.f62), (63, Try.f63), (64, Try.f64), (65, Try.f65), (66, Try.f66), (67, Try.f67), (68, Try.f68), (69, Try.f69), (70, Try.f70), (71, Try.f71), (72, Try.f72), (73, Try.f73), (74, Try.f74), (75, Try.f75), (76, Try.f76), (77, Try.f77), (78, Try.f78)]
noncomputable def sigs : List (Nat × Sig) := [
  (3, ⟨[.val .str], [(.bool, false)], [.no]⟩),
  (4, ⟨[.val .str], [(Y3, true), ((.int .i64), false)], [(.pair .no (.pair .no (.pair (.own 42 .no) (.pair (.own 44 .no) (.pair (.own 47 .no) (.own 49 .no)))))), .no]⟩),
  (5, ⟨[.val .str], [(Y3, true), ((.int .i64), false)], [(.pair .no (.pair .no (.pair (.own 42 .no) (.pair (.own 44 .no) (.pair (.own 47 .no) (.own 49 .no)))))), .no]⟩),
  (6, ⟨[.val Y3, .val Y3], [(.bool, false)], [.no]⟩),
  (7, ⟨[.lend Y3 (.pair .no (.pair .no (.pair (.own 42 .no) (.pair (.own 44 .no) (.pair (.own 47 .no) (.own 49 .no)))))), .val (.int .i64)], [((.int .i64), false)], [.no]⟩),
  (8, ⟨[.val Y3, .val (.int .i64)], [((.int .i64), false)], [.no]⟩),
  (9, ⟨[.val .str], [(Y3, true), ((.int .i64), false)], [(.pair .no (.pair .no (.pair (.own 42 .no) (.pair (.own 44 .no) (.pair (.own 47 .no) (.own 49 .no)))))), .no]⟩),
  (10, ⟨[.val .str], [(.bool, false)], [.no]⟩),
  (11, ⟨[.val .str, .val .str], [((.opt (.pair .str .bool)), false), ((.int .i64), false)], [.box, .no]⟩),
  (12, ⟨[.dvar (.pair .str .bool) .no, .var .bool .no], [(.bool, false)], [.no]⟩),
  (13, ⟨[.var (.pair .str .bool) .no, .val (.int .i64)], [((.int .i64), false)], [.no]⟩),
  (14, ⟨[.var (.pair .str .bool) .no, .val (.int .i64)], [(.str, false)], [.no]⟩),
  (15, ⟨[.var (.pair .str .bool) .no, .val (.int .i64)], [(.str, false)], [.no]⟩),
  (16, ⟨[.val (.int .i64), .val (.int .i64)], [((.int .i64), false)], [.no]⟩),
  (17, ⟨[.ro (.pair .str .bool)], [((.int .i64), false)], [.no]⟩),
  (18, ⟨[.val Y3], [(.bool, false)], [.no]⟩),
  (19, ⟨[.val (.list Y0), .val (.list Y0)], [(.bool, false)], [.no]⟩),
  (20, ⟨[.val (.list (.pair .str .str)), .val (.list (.pair .str .str))], [(.bool, false)], [.no]⟩),
  (21, ⟨[.val (.list Y1), .val (.list Y1)], [(.bool, false)], [.no]⟩),
  (22, ⟨[.val (.list (.pair (.int .i64) .bool)), .val (.list (.pair (.int .i64) .bool))], [(.bool, false)], [.no]⟩),
  (23, ⟨[.lend (.list Y0) (.own 42 .no), .val (.int .i64)], [((.int .i64), false)], [.no]⟩),
  (24, ⟨[.lend (.list (.pair .str .str)) (.own 44 .no), .val (.int .i64)], [((.int .i64), false)], [.no]⟩),
  (25, ⟨[.lend (.list Y1) (.own 47 .no), .val (.int .i64)], [((.int .i64), false)], [.no]⟩),
  (26, ⟨[.lend (.list (.pair (.int .i64) .bool)) (.own 49 .no), .val (.int .i64)], [((.int .i64), false)], [.no]⟩),
  (27, ⟨[.val (.list Y0), .val (.int .i64)], [((.int .i64), false)], [.no]⟩),
  (28, ⟨[.val (.list (.pair .str .str)), .val (.int .i64)], [((.int .i64), false)], [.no]⟩),
  (29, ⟨[.val (.list Y1), .val (.int .i64)], [((.int .i64), false)], [.no]⟩),
  (30, ⟨[.val (.list (.pair (.int .i64) .bool)), .val (.int .i64)], [((.int .i64), false)], [.no]⟩),
  (31, ⟨[.val .str, .val .str], [((.opt Y2), false), ((.int .i64), false)], [.box, .no]⟩),
  (32, ⟨[.var Y2 .no], [(Y3, true), ((.int .i64), false)], [(.pair .no (.pair .no (.pair (.own 42 .no) (.pair (.own 44 .no) (.pair (.own 47 .no) (.own 49 .no)))))), .no]⟩),
  (33, ⟨[.val Y3], [(.bool, false)], [.no]⟩),
  (34, ⟨[.val .str, .val .str], [(.bool, false)], [.no]⟩),
  (35, ⟨[.val .str], [(.str, false)], [.no]⟩),
  (36, ⟨[.val .str], [((.int .i64), false)], [.no]⟩),
  (37, ⟨[.val Y3], [((.int .i64), false), ((.int .i64), false)], [.no, .no]⟩),
  (38, ⟨[.val Y0, .val Y0], [(.bool, false)], [.no]⟩),
  (39, ⟨[.val (.pair .str .str), .val (.pair .str .str)], [(.bool, false)], [.no]⟩),
  (40, ⟨[.val Y1, .val Y1], [(.bool, false)], [.no]⟩),
  (41, ⟨[.val (.pair (.int .i64) .bool), .val (.pair (.int .i64) .bool)], [(.bool, false)], [.no]⟩),
  (42, ⟨[.val (.int .i64)], [(.str, false)], [.no]⟩),
  (43, ⟨[.val .str, .val (.int .i64), .val (.int .i64)], [((.int .i64), false)], [.no]⟩),
  (44, ⟨[.val .str], [((.int .i64), false)], [.no]⟩),
  (45, ⟨[.var Y2 .no], [(.str, false)], [.no]⟩),
  (46, ⟨[.var Y2 .no, .val (.int .i64)], [((.int .i64), false)], [.no]⟩),
  (47, ⟨[.var Y2 .no, .val (.int .i64)], [(.str, false)], [.no]⟩),
  (48, ⟨[.val (.int .i64), .val (.int .i64)], [((.int .i64), false)], [.no]⟩),
  (49, ⟨[.val Y3], [((.int .i64), false), ((.int .i64), false)], [.no, .no]⟩),
  (50, ⟨[.val .str, .val .str], [(.bool, false)], [.no]⟩),
  (51, ⟨[.val (.int .i64), .val (.int .i64)], [(.str, false)], [.no]⟩),
  (52, ⟨[.val .str], [((.int .i64), false)], [.no]⟩),
  (53, ⟨[.val .str], [(.bool, false)], [.no]⟩),
  (54, ⟨[.val (.int .i64), .val (.int .i64), .val (.int .i64)], [(.bool, false)], [.no]⟩),
  (55, ⟨[.val Y3, .val .str, .val (.int .i64)], [((.int .i64), false)], [.no]⟩),
  (56, ⟨[.val (.int .i64)], [(.bool, false)], [.no]⟩),
  (57, ⟨[.val .str], [(.bool, false)], [.no]⟩),
  (58, ⟨[.val Y3, .val (.int .i64)], [((.int .i64), false)], [.no]⟩),
  (59, ⟨[.val (.int .i64), .val (.int .i64)], [((.int .i64), false)], [.no]⟩),
  (60, ⟨[.val .str], [(.bool, false)], [.no]⟩),
  (61, ⟨[.val (.int .i64), .val (.int .i64), .val (.int .i64)], [(.bool, false)], [.no]⟩),
  (62, ⟨[.val Y3], [((.int .i64), false), ((.int .i64), false)], [.no, .no]⟩),
  (63, ⟨[.val Y3], [((.int .i64), false), ((.int .i64), false)], [.no, .no]⟩),
  (64, ⟨[.val Y3], [((.int .i64), false), ((.int .i64), false)], [.no, .no]⟩),
  (65, ⟨[.val Y3], [((.int .i64), false), ((.int .i64), false)], [.no, .no]⟩),
  (66, ⟨[.val (.int .u8)], [(.bool, false)], [.no]⟩),
  (67, ⟨[.val (.int .u8)], [(.bool, false)], [.no]⟩),
  (68, ⟨[.val (.list .str), .val .str], [(.bool, false)], [.no]⟩),
  (69, ⟨[.val Y3, .val (.int .i64)], [((.list .str), false)], [.no]⟩),
  (70, ⟨[.val .str], [(.bool, false)], [.no]⟩),
  (71, ⟨[.val Y3], [((.list (.int .i64)), false)], [(.own 3 .no)]⟩),
  (72, ⟨[.val (.int .u8)], [(.bool, false)], [.no]⟩),
  (73, ⟨[.val (.int .u8)], [(.bool, false)], [.no]⟩),
  (74, ⟨[.val (.int .i64)], [(.bool, false)], [.no]⟩),
  (75, ⟨[.val .str], [(.bool, false)], [.no]⟩),
  (76, ⟨[.val Y3, .val (.int .i64)], [((.int .i64), false)], [.no]⟩),
  (77, ⟨[.val (.list (.int .i64)), .val (.list (.int .i64))], [(.bool, false)], [.no]⟩),
  (78, ⟨[.val (.list .str), .val .str], [((.int .i64), false)], [.no]⟩)]
noncomputable def loops : List (Nat × List (Nat × List (Nat × LK))) := [
  (5, [(10, [(2, .box Y3 (.pair .no (.pair .no (.pair (.own 42 .no) (.pair (.own 44 .no) (.pair (.own 47 .no) (.own 49 .no))))))), (4, .box (.opt (.pair .str .bool)) .box), (6, .box .bool .no), (7, .clos [4, 6]), (8, .box Y3 (.pair .no (.pair .no (.pair (.own 42 .no) (.pair (.own 44 .no) (.pair (.own 47 .no) (.own 49 .no))))))), (9, .val (.int .i64) .no)]), (16, [(2, .box Y3 (.pair .no (.pair .no (.pair (.own 42 .no) (.pair (.own 44 .no) (.pair (.own 47 .no) (.own 49 .no))))))), (4, .box (.opt (.pair .str .bool)) .box), (6, .box .bool .no), (7, .clos [4, 6]), (8, .box Y3 (.pair .no (.pair .no (.pair (.own 42 .no) (.pair (.own 44 .no) (.pair (.own 47 .no) (.own 49 .no))))))), (11, .val (.int .i64) .no)]), (20, [(2, .box Y3 (.pair .no (.pair .no (.pair (.own 42 .no) (.pair (.own 44 .no) (.pair (.own 47 .no) (.own 49 .no))))))), (4, .box (.opt (.pair .str .bool)) .box), (6, .box .bool .no), (7, .clos [4, 6]), (8, .box Y3 (.pair .no (.pair .no (.pair (.own 42 .no) (.pair (.own 44 .no) (.pair (.own 47 .no) (.own 49 .no))))))), (12, .val (.int .i64) .no)]), (24, [(2, .box Y3 (.pair .no (.pair .no (.pair (.own 42 .no) (.pair (.own 44 .no) (.pair (.own 47 .no) (.own 49 .no))))))), (4, .box (.opt (.pair .str .bool)) .box), (6, .box .bool .no), (7, .clos [4, 6]), (8, .box Y3 (.pair .no (.pair .no (.pair (.own 42 .no) (.pair (.own 44 .no) (.pair (.own 47 .no) (.own 49 .no))))))), (13, .val (.int .i64) .no)])]),
  (19, [(4, [(0, .val (.list Y0) .no), (1, .val (.list Y0) .no), (5, .val (.int .i64) .no)])]),
  (20, [(4, [(0, .val (.list (.pair .str .str)) .no), (1, .val (.list (.pair .str .str)) .no), (5, .val (.int .i64) .no)])]),
  (21, [(4, [(0, .val (.list Y1) .no), (1, .val (.list Y1) .no), (5, .val (.int .i64) .no)])]),
  (22, [(4, [(0, .val (.list (.pair (.int .i64) .bool)) .no), (1, .val (.list (.pair (.int .i64) .bool)) .no), (5, .val (.int .i64) .no)])]),
  (23, [(2, [(0, .pown 42 Y0 .no), (1, .val (.int .i64) .no), (5, .val (.int .i64) .no)])]),
  (24, [(2, [(0, .pown 44 (.pair .str .str) .no), (1, .val (.int .i64) .no), (5, .val (.int .i64) .no)])]),
  (25, [(2, [(0, .pown 47 Y1 .no), (1, .val (.int .i64) .no), (5, .val (.int .i64) .no)])]),
  (26, [(2, [(0, .pown 49 (.pair (.int .i64) .bool) .no), (1, .val (.int .i64) .no), (5, .val (.int .i64) .no)])]),
  (27, [(2, [(0, .val (.list Y0) .no), (1, .val (.int .i64) .no), (5, .val (.int .i64) .no)])]),
  (28, [(2, [(0, .val (.list (.pair .str .str)) .no), (1, .val (.int .i64) .no), (5, .val (.int .i64) .no)])]),
  (29, [(2, [(0, .val (.list Y1) .no), (1, .val (.int .i64) .no), (5, .val (.int .i64) .no)])]),
  (30, [(2, [(0, .val (.list (.pair (.int .i64) .bool)) .no), (1, .val (.int .i64) .no), (5, .val (.int .i64) .no)])]),
  (32, [(5, [(0, .par Y2 .no), (2, .box Y3 (.pair .no (.pair .no (.pair (.own 42 .no) (.pair (.own 44 .no) (.pair (.own 47 .no) (.own 49 .no))))))), (4, .box Y3 (.pair .no (.pair .no (.pair (.own 42 .no) (.pair (.own 44 .no) (.pair (.own 47 .no) (.own 49 .no))))))), (5, .val (.int .i64) .no), (6, .val (.int .i64) .no)]), (15, [(0, .par Y2 .no), (2, .box Y3 (.pair .no (.pair .no (.pair (.own 42 .no) (.pair (.own 44 .no) (.pair (.own 47 .no) (.own 49 .no))))))), (4, .box Y3 (.pair .no (.pair .no (.pair (.own 42 .no) (.pair (.own 44 .no) (.pair (.own 47 .no) (.own 49 .no))))))), (5, .val (.int .i64) .no), (9, .val (.int .i64) .no)]), (21, [(0, .par Y2 .no), (2, .box Y3 (.pair .no (.pair .no (.pair (.own 42 .no) (.pair (.own 44 .no) (.pair (.own 47 .no) (.own 49 .no))))))), (4, .box Y3 (.pair .no (.pair .no (.pair (.own 42 .no) (.pair (.own 44 .no) (.pair (.own 47 .no) (.own 49 .no))))))), (5, .val (.int .i64) .no), (11, .val (.int .i64) .no)]), (30, [(0, .par Y2 .no), (2, .box Y3 (.pair .no (.pair .no (.pair (.own 42 .no) (.pair (.own 44 .no) (.pair (.own 47 .no) (.own 49 .no))))))), (4, .box Y3 (.pair .no (.pair .no (.pair (.own 42 .no) (.pair (.own 44 .no) (.pair (.own 47 .no) (.own 49 .no))))))), (5, .val (.int .i64) .no), (13, .val (.int .i64) .no)])]),
  (36, [(3, [(0, .val .str .no), (3, .val (.int .i64) .no), (4, .val (.int .i64) .no)])]),
  (37, [(10, [(1, .box Y3 .no), (53, .val (.list Y0) .no), (54, .val (.int .i64) .no), (55, .val (.int .i64) .no)]), (21, [(1, .box Y3 .no), (84, .val (.list (.pair .str .str)) .no), (85, .val (.int .i64) .no), (86, .val (.int .i64) .no)]), (30, [(1, .box Y3 .no), (122, .val (.int .i64) .no), (123, .val (.int .i64) .no)]), (37, [(1, .box Y3 .no), (135, .val (.list (.pair (.int .i64) .bool)) .no), (136, .val (.int .i64) .no), (137, .val (.int .i64) .no)])]),
  (42, [(4, [(0, .val (.int .i64) .no), (3, .val .str .no)])]),
  (43, [(3, [(0, .val .str .no), (1, .val (.int .i64) .no), (7, .val (.int .u64) .no), (8, .val (.int .i64) .no)])]),
  (44, [(3, [(0, .val .str .no), (3, .val (.int .i64) .no), (4, .val (.int .i64) .no)])]),
  (48, [(3, [(0, .val (.int .i64) .no), (1, .val (.int .i64) .no), (5, .val (.int .u64) .no), (6, .val (.int .i64) .no)])]),
  (51, [(2, [(0, .val (.int .i64) .no), (1, .val (.int .i64) .no), (5, .val (.list (.int .u8)) (.own 5 .no))])]),
  (52, [(3, [(0, .val .str .no), (3, .val (.int .i64) .no), (4, .val (.int .i64) .no)])]),
  (53, [(4, [(0, .val .str .no), (3, .val (.int .i64) .no)])]),
  (60, [(4, [(0, .val .str .no), (3, .val (.int .i64) .no)])]),
  (62, [(2, [(1, .box Y3 .no), (4, .val (.int .i64) .no)]), (8, [(1, .box Y3 .no), (4, .val (.int .i64) .no), (5, .box Y0 .no), (6, .val (.int .i64) .no)])]),
  (63, [(2, [(1, .box Y3 .no), (4, .val (.int .i64) .no)]), (8, [(1, .box Y3 .no), (4, .val (.int .i64) .no), (5, .box (.pair .str .str) .no), (6, .val (.int .i64) .no)]), (13, [(1, .box Y3 .no), (4, .val (.int .i64) .no), (5, .box (.pair .str .str) .no), (7, .val (.int .i64) .no)])]),
  (64, [(2, [(1, .box Y3 .no), (4, .val (.int .i64) .no)])]),
  (65, [(2, [(1, .box Y3 .no), (4, .val (.int .i64) .no)])]),
  (69, [(3, [(1, .val (.int .i64) .no), (2, .box Y3 .no), (5, .val (.list .str) (.own 9 .no)), (11, .val (.list Y0) .no), (12, .val (.int .i64) .no), (13, .val (.int .i64) .no)]), (8, [(1, .val (.int .i64) .no), (5, .val (.list .str) (.own 9 .no)), (24, .val (.list (.pair .str .str)) .no), (25, .val (.int .i64) .no), (26, .val (.int .i64) .no)])]),
  (71, [(3, [(1, .box Y3 .no), (3, .val (.list (.int .i64)) (.own 3 .no)), (9, .val (.list Y0) .no), (10, .val (.int .i64) .no), (11, .val (.int .i64) .no)]), (8, [(3, .val (.list (.int .i64)) (.own 3 .no)), (24, .val (.list (.pair .str .str)) .no), (25, .val (.int .i64) .no), (26, .val (.int .i64) .no)])]),
  (77, [(2, [(0, .val (.list (.int .i64)) .no), (1, .val (.list (.int .i64)) .no), (5, .val (.int .i64) .no)])]),
  (78, [(2, [(0, .val (.list .str) .no), (1, .val .str .no), (7, .val (.int .i64) .no), (8, .val (.int .i64) .no)])])]
noncomputable def prims : List (Nat × (List SV → Option (List PV))) := []
noncomputable def cfg : Cfg := ⟨Try.prog, asc tis, asc fns, realOf [], altsOf [] [], asc sigs, asc2 loops, fun _ _ => .no, asc prims⟩
theorem fns_ok : FnsOK Try.prog [] fns := ⟨Try.func3, Try.func4, Try.func5, Try.func6, Try.func7, Try.func8, Try.func9, Try.func10, Try.func11, Try.func12, Try.func13, Try.func14, Try.func15, Try.func16, Try.func17, Try.func18, Try.func19, Try.func20, Try.func21, Try.func22, Try.func23, Try.func24, Try.func25, Try.func26, Try.func27, Try.func28, Try.func29, Try.func30, Try.func31, Try.func32, Try.func33, Try.func34, Try.func35, Try.func36, Try.func37, Try.func38, Try.func39, Try.func40, Try.func41, Try.func42, Try.func43, Try.func44, Try.func45, Try.func46, Try.func47, Try.func48, Try.func49, Try.func50, Try.func51, Try.func52, Try.func53, Try.func54, Try.func55, Try.func56, Try.func57, Try.func58, Try.func59, Try.func60, Try.func61, Try.func62, Try.func63, Try.func64, Try.func65, Try.func66, Try.func67, Try.func68, Try.func69, Try.func70, Try.func71, Try.func72, Try.func73, Try.func74, Try.func75, Try.func76, Try.func77, Try.func78, trivial⟩
theorem cfg_ok : cfg.OK := Cfg.OK.of (C := cfg) (tis := tis) (fns := fns) (sigs := sigs) (rl := []) (al := []) rfl rfl rfl rfl rfl (by kernel_rfl) fns_ok (by kernel_rfl) (by kernel_rfl) (by kernel_rfl)
/-- The text of a loop; slots. -/
noncomputable abbrev LA (f : Nat) (F : Func) (p : List Nat) (s : St) := LpAt cfg f (F.body.getD .skip) F.results.toList ((asc sigs f).getD ⟨[], [], []⟩) p s
abbrev vI (k : Nat) (n : Int) : Nat × SV := (k, .v (.int .i64 n))
abbrev vL (k : Nat) (e : Ty) (l : List e.den) : Nat × SV := (k, .v (.list e l))
abbrev vP (k p : Nat) : Nat × SV := (k, .v (.ptr p (.at 0)))
end Go.Proofs.Ytamgeifafllcgaa.S
