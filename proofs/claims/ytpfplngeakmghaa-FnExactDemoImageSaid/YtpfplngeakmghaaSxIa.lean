/- The tables of the program that the interpreter reads, checked by the kernel. -/
import Derived.Test.YtpfplngeakmghaaPsY
import Derived.Test.YtpfplngeakmghaaProg
namespace Go.Proofs.Ytpfplngeakmghaa.S
open Go.Ps
set_option linter.unusedVariables false
set_option maxRecDepth 100000
set_option maxHeartbeats 0
noncomputable def tis : List (Nat × TI) := [
  (3, ⟨.scalar, 1, 8, [.int .i64 0], (.int .i64), false⟩),
  (5, ⟨.scalar, 1, 1, [.int .u8 0], (.int .u8), false⟩),
  (9, ⟨.scalar, 1, 16, [.str (⟨#[]⟩ : ByteArray)], .str, false⟩),
  (31, ⟨(.slice 81), 1, 24, [.nils], (.list (.pair .str (.pair (.int .i64) (.pair (.int .i64) (.pair (.int .i64) (.int .i64)))))), false⟩),
  (33, ⟨(.struct [(0, 1), (1, 1), (2, 1)] [false, false, false] []), 3, 56, [.str (⟨#[]⟩ : ByteArray), .str (⟨#[]⟩ : ByteArray), .nils], (.pair .str (.pair .str (.list (.pair .str (.pair (.int .i64) (.pair (.int .i64) (.pair (.int .i64) (.int .i64)))))))), false⟩),
  (49, ⟨(.slice 5), 1, 24, [.nils], (.list (.int .u8)), false⟩),
  (53, ⟨(.slice 9), 1, 24, [.nils], (.list .str), false⟩),
  (67, ⟨(.struct [(0, 1), (1, 1), (2, 1), (3, 1), (4, 1)] [false, false, false, false, false] []), 5, 40, [.int .i64 0, .int .i64 0, .int .i64 0, .int .i64 0, .int .i64 0], (.pair (.int .i64) (.pair (.int .i64) (.pair (.int .i64) (.pair (.int .i64) (.int .i64))))), false⟩),
  (75, ⟨(.slice 78), 1, 24, [.nils], (.list (.list (.pair (.int .i64) (.pair (.int .i64) (.pair (.int .i64) (.pair (.int .i64) (.int .i64))))))), false⟩),
  (78, ⟨(.slice 67), 1, 24, [.nils], (.list (.pair (.int .i64) (.pair (.int .i64) (.pair (.int .i64) (.pair (.int .i64) (.int .i64)))))), false⟩),
  (79, ⟨(.slice 3), 1, 24, [.nils], (.list (.int .i64)), false⟩),
  (81, ⟨(.struct [(0, 1), (1, 1), (2, 1), (3, 1), (4, 1)] [false, false, false, false, false] []), 5, 48, [.str (⟨#[]⟩ : ByteArray), .int .i64 0, .int .i64 0, .int .i64 0, .int .i64 0], (.pair .str (.pair (.int .i64) (.pair (.int .i64) (.pair (.int .i64) (.int .i64))))), false⟩),
  (113, ⟨.scalar, 1, 8, [.int .u64 0], (.int .u64), false⟩),
  (135, ⟨.scalar, 1, 8, [.int .u64 0], (.int .u64), false⟩),
  (137, ⟨(.struct [(0, 1), (1, 1), (2, 1), (3, 1)] [false, false, false, false] []), 4, 32, [.int .i64 0, .int .i64 0, .int .i64 0, .int .i64 0], (.pair (.int .i64) (.pair (.int .i64) (.pair (.int .i64) (.int .i64)))), false⟩),
  (159, ⟨(.slice 162), 1, 24, [.nils], (.list (.pair (.int .i64) (.pair (.int .i64) (.int .i64)))), false⟩),
  (162, ⟨(.struct [(0, 1), (1, 1), (2, 1)] [false, false, false] []), 3, 24, [.int .i64 0, .int .i64 0, .int .i64 0], (.pair (.int .i64) (.pair (.int .i64) (.int .i64))), false⟩),
  (172, ⟨(.struct [(0, 1), (1, 4)] [false, true] []), 5, 48, [.str (⟨#[]⟩ : ByteArray), .int .i64 0, .int .i64 0, .int .i64 0, .int .i64 0], (.pair .str (.pair (.int .i64) (.pair (.int .i64) (.pair (.int .i64) (.int .i64))))), false⟩),
  (173, ⟨(.slice 172), 1, 24, [.nils], (.list (.pair .str (.pair (.int .i64) (.pair (.int .i64) (.pair (.int .i64) (.int .i64)))))), false⟩)]
noncomputable def fns : List (Nat × Func) := [(5, Try.f5), (14, Try.f14), (15, Try.f15), (16, Try.f16), (17, Try.f17), (18, Try.f18), (35, Try.f35), (40, Try.f40), (41, Try.f41), (42, Try.f42), (43, Try.f43), (44, Try.f44), (45, Try.f45), (46, Try.f46), (47, Try.f47), (89, Try.f89), (90, Try.f90), (91, Try.f91), (92, Try.f92), (93, Try.f93), (94, Try.f94), (95, Try.f95), (96, Try.f96), (97, Try.f97), (98, Try.f98), (99, Try.f99), (122, Try.f122), (123, Try.f123), (124, Try.f124), (125, Try.f125), (126, Try.f126), (127, Try.f127), (152, Try.f152), (153, Try.f153), (154, Try.f154), (155, Try.f155), (156, Try.f156), (157, Try.f157), (158, Try.f158), (167, Try.f167)]
noncomputable def sigs : List (Nat × Sig) := [
  (5, ⟨[], [(.bool, false)], [.no]⟩),
  (14, ⟨[], [((.pair .str (.pair .str (.list (.pair .str (.pair (.int .i64) (.pair (.int .i64) (.pair (.int .i64) (.int .i64)))))))), true)], [(.pair .no (.pair .no (.own 81 .no)))]⟩),
  (15, ⟨[], [((.pair .str (.pair .str (.list (.pair .str (.pair (.int .i64) (.pair (.int .i64) (.pair (.int .i64) (.int .i64)))))))), true)], [(.pair .no (.pair .no (.own 81 .no)))]⟩),
  (16, ⟨[.val (.pair .str (.pair .str (.list (.pair .str (.pair (.int .i64) (.pair (.int .i64) (.pair (.int .i64) (.int .i64)))))))), .val (.pair .str (.pair .str (.list (.pair .str (.pair (.int .i64) (.pair (.int .i64) (.pair (.int .i64) (.int .i64))))))))], [(.bool, false)], [.no]⟩),
  (17, ⟨[.lend (.pair .str (.pair .str (.list (.pair .str (.pair (.int .i64) (.pair (.int .i64) (.pair (.int .i64) (.int .i64)))))))) (.pair .no (.pair .no (.own 81 .no))), .val (.int .i64)], [((.int .i64), false)], [.no]⟩),
  (18, ⟨[.val (.pair .str (.pair .str (.list (.pair .str (.pair (.int .i64) (.pair (.int .i64) (.pair (.int .i64) (.int .i64)))))))), .val (.int .i64)], [((.int .i64), false)], [.no]⟩),
  (35, ⟨[.val (.int .i64), .val (.int .i64), .val (.int .i64)], [(.bool, false)], [.no]⟩),
  (40, ⟨[.val (.int .i64), .val (.list (.pair (.int .i64) (.pair (.int .i64) (.pair (.int .i64) (.pair (.int .i64) (.int .i64))))))], [(.str, false)], [.no]⟩),
  (41, ⟨[.val (.int .i64), .val (.int .i64)], [(.str, false)], [.no]⟩),
  (42, ⟨[], [((.list (.list (.pair (.int .i64) (.pair (.int .i64) (.pair (.int .i64) (.pair (.int .i64) (.int .i64))))))), false)], [(.own 78 .no)]⟩),
  (43, ⟨[.val (.list (.pair (.int .i64) (.pair (.int .i64) (.pair (.int .i64) (.pair (.int .i64) (.int .i64))))))], [(.str, false)], [.no]⟩),
  (44, ⟨[.val .str, .val (.int .i64)], [(.str, false)], [.no]⟩),
  (45, ⟨[.val (.list (.pair .str (.pair (.int .i64) (.pair (.int .i64) (.pair (.int .i64) (.int .i64)))))), .val (.list (.pair .str (.pair (.int .i64) (.pair (.int .i64) (.pair (.int .i64) (.int .i64))))))], [(.bool, false)], [.no]⟩),
  (46, ⟨[.lend (.list (.pair .str (.pair (.int .i64) (.pair (.int .i64) (.pair (.int .i64) (.int .i64)))))) (.own 81 .no), .val (.int .i64)], [((.int .i64), false)], [.no]⟩),
  (47, ⟨[.val (.list (.pair .str (.pair (.int .i64) (.pair (.int .i64) (.pair (.int .i64) (.int .i64)))))), .val (.int .i64)], [((.int .i64), false)], [.no]⟩),
  (89, ⟨[.val (.list (.pair (.int .i64) (.pair (.int .i64) (.pair (.int .i64) (.pair (.int .i64) (.int .i64))))))], [(.str, false), ((.int .i64), false)], [.no, .no]⟩),
  (90, ⟨[.val (.list (.list (.pair (.int .i64) (.pair (.int .i64) (.pair (.int .i64) (.pair (.int .i64) (.int .i64)))))))], [((.list (.pair (.int .i64) (.pair (.int .i64) (.pair (.int .i64) (.pair (.int .i64) (.int .i64)))))), false)], [(.own 67 .no)]⟩),
  (91, ⟨[.val (.int .i64)], [((.list (.pair (.int .i64) (.pair (.int .i64) (.pair (.int .i64) (.pair (.int .i64) (.int .i64)))))), false)], [(.own 67 .no)]⟩),
  (92, ⟨[.val (.int .i64)], [((.list (.pair (.int .i64) (.pair (.int .i64) (.pair (.int .i64) (.pair (.int .i64) (.int .i64)))))), false)], [(.own 67 .no)]⟩),
  (93, ⟨[.val (.int .i64)], [((.list (.pair (.int .i64) (.pair (.int .i64) (.pair (.int .i64) (.pair (.int .i64) (.int .i64)))))), false)], [(.own 67 .no)]⟩),
  (94, ⟨[.val (.int .i64)], [((.list (.pair (.int .i64) (.pair (.int .i64) (.pair (.int .i64) (.pair (.int .i64) (.int .i64)))))), false)], [(.own 67 .no)]⟩),
  (95, ⟨[.val (.int .i64), .val (.int .i64)], [(.str, false)], [.no]⟩),
  (96, ⟨[.val (.pair (.int .i64) (.pair (.int .i64) (.pair (.int .i64) (.pair (.int .i64) (.int .i64)))))], [((.int .i64), false)], [.no]⟩),
  (97, ⟨[.val .str, .val (.int .i64)], [(.str, false)], [.no]⟩),
  (98, ⟨[.val (.pair .str (.pair (.int .i64) (.pair (.int .i64) (.pair (.int .i64) (.int .i64))))), .val (.pair .str (.pair (.int .i64) (.pair (.int .i64) (.pair (.int .i64) (.int .i64)))))], [(.bool, false)], [.no]⟩),
  (99, ⟨[.val (.int .i64)], [(.str, false)], [.no]⟩),
  (122, ⟨[.val (.pair (.int .i64) (.pair (.int .i64) (.pair (.int .i64) (.pair (.int .i64) (.int .i64)))))], [(.bool, false)], [.no]⟩),
  (123, ⟨[.val (.pair (.int .i64) (.pair (.int .i64) (.pair (.int .i64) (.pair (.int .i64) (.int .i64)))))], [((.int .i64), false)], [.no]⟩),
  (124, ⟨[.raw, .val (.int .i64)], [((.list (.pair (.int .i64) (.pair (.int .i64) (.pair (.int .i64) (.pair (.int .i64) (.int .i64)))))), false)], [(.own 67 .no)]⟩),
  (125, ⟨[.val (.int .i64)], [((.pair (.int .i64) (.pair (.int .i64) (.pair (.int .i64) (.int .i64)))), true)], [.no]⟩),
  (126, ⟨[.val (.int .i64), .val (.int .i64), .val (.int .i64), .val (.int .i64)], [((.int .i64), false)], [.no]⟩),
  (127, ⟨[.val (.int .i64), .val (.int .i64)], [((.int .i64), false)], [.no]⟩),
  (152, ⟨[.val (.int .i64)], [(.bool, false)], [.no]⟩),
  (153, ⟨[.val (.int .i64)], [((.pair (.int .i64) (.pair (.int .i64) (.pair (.int .i64) (.int .i64)))), true)], [.no]⟩),
  (154, ⟨[.val (.int .i64)], [(.bool, false), (.bool, false), (.bool, false)], [.no, .no, .no]⟩),
  (155, ⟨[.val (.int .i64)], [(.bool, false)], [.no]⟩),
  (156, ⟨[.val (.int .i64), .val (.int .i64)], [(.bool, false)], [.no]⟩),
  (157, ⟨[.val (.int .i64)], [((.list (.pair (.int .i64) (.pair (.int .i64) (.int .i64)))), false)], [(.own 162 .no)]⟩),
  (158, ⟨[.val (.int .i64), .val (.int .i64), .val (.int .i64)], [((.int .i64), false)], [.no]⟩),
  (167, ⟨[], [((.list (.pair .str (.pair (.int .i64) (.pair (.int .i64) (.pair (.int .i64) (.int .i64)))))), false)], [(.own 172 .no)]⟩)]
noncomputable def loops : List (Nat × List (Nat × List (Nat × LK))) := [
  (14, [(4, [(0, .box (.pair .str (.pair .str (.list (.pair .str (.pair (.int .i64) (.pair (.int .i64) (.pair (.int .i64) (.int .i64)))))))) (.pair .no (.pair .no (.own 81 .no)))), (1, .box (.pair .str (.pair .str (.list (.pair .str (.pair (.int .i64) (.pair (.int .i64) (.pair (.int .i64) (.int .i64)))))))) (.pair .no (.pair .no (.own 81 .no)))), (2, .val (.list (.list (.pair (.int .i64) (.pair (.int .i64) (.pair (.int .i64) (.pair (.int .i64) (.int .i64))))))) (.own 78 .no)), (3, .val (.int .i64) .no)])]),
  (41, [(2, [(0, .val (.int .i64) .no), (1, .val (.int .i64) .no), (5, .val (.list (.int .u8)) (.own 5 .no))])]),
  (43, [(3, [(0, .val (.list (.pair (.int .i64) (.pair (.int .i64) (.pair (.int .i64) (.pair (.int .i64) (.int .i64)))))) .no), (3, .val .str .no), (4, .val (.int .i64) .no)])]),
  (45, [(4, [(0, .val (.list (.pair .str (.pair (.int .i64) (.pair (.int .i64) (.pair (.int .i64) (.int .i64)))))) .no), (1, .val (.list (.pair .str (.pair (.int .i64) (.pair (.int .i64) (.pair (.int .i64) (.int .i64)))))) .no), (5, .val (.int .i64) .no)])]),
  (46, [(2, [(0, .pown 81 (.pair .str (.pair (.int .i64) (.pair (.int .i64) (.pair (.int .i64) (.int .i64))))) .no), (1, .val (.int .i64) .no), (5, .val (.int .i64) .no)])]),
  (47, [(2, [(0, .val (.list (.pair .str (.pair (.int .i64) (.pair (.int .i64) (.pair (.int .i64) (.int .i64)))))) .no), (1, .val (.int .i64) .no), (5, .val (.int .i64) .no)])]),
  (89, [(7, [(4, .val .str .no), (15, .val (.list (.pair (.int .i64) (.pair (.int .i64) (.pair (.int .i64) (.pair (.int .i64) (.int .i64)))))) .no), (16, .val (.int .i64) .no), (17, .val (.int .i64) .no)])]),
  (90, [(3, [(0, .val (.list (.list (.pair (.int .i64) (.pair (.int .i64) (.pair (.int .i64) (.pair (.int .i64) (.int .i64))))))) .no), (3, .val (.int .i64) .no), (9, .val (.list (.list (.pair (.int .i64) (.pair (.int .i64) (.pair (.int .i64) (.pair (.int .i64) (.int .i64))))))) .no), (10, .val (.int .i64) .no), (11, .val (.int .i64) .no)]), (11, [(6, .val (.list (.pair (.int .i64) (.pair (.int .i64) (.pair (.int .i64) (.pair (.int .i64) (.int .i64)))))) (.own 67 .no)), (25, .val (.list (.list (.pair (.int .i64) (.pair (.int .i64) (.pair (.int .i64) (.pair (.int .i64) (.int .i64))))))) .no), (26, .val (.int .i64) .no), (27, .val (.int .i64) .no)])]),
  (95, [(3, [(0, .val (.int .i64) .no), (1, .val (.int .i64) .no), (5, .val (.list (.int .u8)) (.own 5 .no)), (6, .val (.int .i64) .no)])]),
  (96, [(10, [(1, .box (.pair (.int .i64) (.pair (.int .i64) (.pair (.int .i64) (.pair (.int .i64) (.int .i64))))) .no), (4, .val (.int .i64) .no), (5, .val (.int .i64) .no)]), (30, [(1, .box (.pair (.int .i64) (.pair (.int .i64) (.pair (.int .i64) (.pair (.int .i64) (.int .i64))))) .no), (4, .val (.int .i64) .no), (7, .val (.int .i64) .no)]), (46, [(1, .box (.pair (.int .i64) (.pair (.int .i64) (.pair (.int .i64) (.pair (.int .i64) (.int .i64))))) .no), (4, .val (.int .i64) .no), (9, .val (.int .i64) .no)])]),
  (99, [(4, [(0, .val (.int .i64) .no), (3, .val .str .no)])]),
  (123, [(4, [(1, .box (.pair (.int .i64) (.pair (.int .i64) (.pair (.int .i64) (.pair (.int .i64) (.int .i64))))) .no), (3, .box (.pair (.int .i64) (.pair (.int .i64) (.pair (.int .i64) (.int .i64)))) .no), (4, .val (.int .i64) .no), (17, .val (.list (.pair (.int .i64) (.pair (.int .i64) (.int .i64)))) (.own 162 .no)), (18, .val (.int .i64) .no), (19, .val (.int .i64) .no)])]),
  (126, [(3, [(0, .val (.int .i64) .no), (1, .val (.int .i64) .no), (2, .val (.int .i64) .no), (3, .val (.int .i64) .no), (9, .val (.int .i64) .no), (10, .val (.int .i64) .no)])])]
noncomputable def prims : List (Nat × (List SV → Option (List PV))) := [(97, primRepeat), (124, (primGrow (.pair (.int .i64) (.pair (.int .i64) (.pair (.int .i64) (.pair (.int .i64) (.int .i64)))))))]
noncomputable def cfg : Cfg := ⟨Try.prog, asc tis, asc fns, realOf [], altsOf [] [], asc sigs, asc2 loops, fun _ _ => .no, asc prims⟩
theorem fns_ok : FnsOK Try.prog [] fns := ⟨Try.func5, Try.func14, Try.func15, Try.func16, Try.func17, Try.func18, Try.func35, Try.func40, Try.func41, Try.func42, Try.func43, Try.func44, Try.func45, Try.func46, Try.func47, Try.func89, Try.func90, Try.func91, Try.func92, Try.func93, Try.func94, Try.func95, Try.func96, Try.func97, Try.func98, Try.func99, Try.func122, Try.func123, Try.func124, Try.func125, Try.func126, Try.func127, Try.func152, Try.func153, Try.func154, Try.func155, Try.func156, Try.func157, Try.func158, Try.func167, trivial⟩
theorem cfg_ok : cfg.OK := Cfg.OK.of (C := cfg) (tis := tis) (fns := fns) (sigs := sigs) (rl := []) (al := []) rfl rfl rfl rfl rfl (by kernel_rfl) fns_ok (by kernel_rfl) (by kernel_rfl) (by kernel_rfl)
end Go.Proofs.Ytpfplngeakmghaa.S
