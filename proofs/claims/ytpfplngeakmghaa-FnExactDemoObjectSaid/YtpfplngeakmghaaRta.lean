import Derived.Test.YtpfplngeakmghaaPrU
import Derived.Test.YtpfplngeakmghaaProg
namespace Go.Proofs.Ytpfplngeakmghaa.R
open Go.Pr
set_option linter.unusedVariables false
set_option maxRecDepth 100000
set_option maxHeartbeats 0
noncomputable def tis : List (Nat × TI) := [
  (3, ⟨.scalar, 1, 8, [.int .i64 0], (.int .i64)⟩),
  (4, ⟨.scalar, 1, 1, [.bool false], .bool⟩),
  (5, ⟨.scalar, 1, 1, [.int .u8 0], (.int .u8)⟩),
  (9, ⟨.scalar, 1, 16, [.str (⟨#[]⟩ : ByteArray)], .str⟩),
  (38, ⟨(.slice 69), 1, 24, [.nils], (.list (.pair .str (.pair .bool (.pair (.int .i64) .str))))⟩),
  (39, ⟨(.slice 72), 1, 24, [.nils], (.list (.pair .str .str))⟩),
  (40, ⟨(.slice 59), 1, 24, [.nils], (.list (.pair (.int .i64) (.pair (.int .i64) (.pair (.int .i64) (.pair .str (.int .i64))))))⟩),
  (41, ⟨(.slice 74), 1, 24, [.nils], (.list (.pair (.int .i64) .bool))⟩),
  (43, ⟨(.struct [(0, 1), (1, 1), (2, 1), (3, 1), (4, 1), (5, 1)] [false, false, false, false, false, false]), 6, 120, [.str (⟨#[]⟩ : ByteArray), .int .i64 0, .nils, .nils, .nils, .nils], (.pair .str (.pair (.int .i64) (.pair (.list (.pair .str (.pair .bool (.pair (.int .i64) .str)))) (.pair (.list (.pair .str .str)) (.pair (.list (.pair (.int .i64) (.pair (.int .i64) (.pair (.int .i64) (.pair .str (.int .i64)))))) (.list (.pair (.int .i64) .bool)))))))⟩),
  (49, ⟨(.slice 5), 1, 24, [.nils], (.list (.int .u8))⟩),
  (53, ⟨(.slice 9), 1, 24, [.nils], (.list .str)⟩),
  (59, ⟨(.struct [(0, 1), (1, 1), (2, 1), (3, 1), (4, 1)] [false, false, false, false, false]), 5, 48, [.int .i64 0, .int .i64 0, .int .i64 0, .str (⟨#[]⟩ : ByteArray), .int .i64 0], (.pair (.int .i64) (.pair (.int .i64) (.pair (.int .i64) (.pair .str (.int .i64)))))⟩),
  (67, ⟨(.struct [(0, 1), (1, 1), (2, 1), (3, 1), (4, 1)] [false, false, false, false, false]), 5, 40, [.int .i64 0, .int .i64 0, .int .i64 0, .int .i64 0, .int .i64 0], (.pair (.int .i64) (.pair (.int .i64) (.pair (.int .i64) (.pair (.int .i64) (.int .i64)))))⟩),
  (69, ⟨(.struct [(0, 1), (1, 1), (2, 1), (3, 1)] [false, false, false, false]), 4, 48, [.str (⟨#[]⟩ : ByteArray), .bool false, .int .i64 0, .str (⟨#[]⟩ : ByteArray)], (.pair .str (.pair .bool (.pair (.int .i64) .str)))⟩),
  (72, ⟨(.struct [(0, 1), (1, 1)] [false, false]), 2, 32, [.str (⟨#[]⟩ : ByteArray), .str (⟨#[]⟩ : ByteArray)], (.pair .str .str)⟩),
  (74, ⟨(.struct [(0, 1), (1, 1)] [false, false]), 2, 16, [.int .i64 0, .bool false], (.pair (.int .i64) .bool)⟩),
  (75, ⟨(.slice 78), 1, 24, [.nils], (.list (.list (.pair (.int .i64) (.pair (.int .i64) (.pair (.int .i64) (.pair (.int .i64) (.int .i64)))))))⟩),
  (78, ⟨(.slice 67), 1, 24, [.nils], (.list (.pair (.int .i64) (.pair (.int .i64) (.pair (.int .i64) (.pair (.int .i64) (.int .i64))))))⟩),
  (113, ⟨.scalar, 1, 8, [.int .u64 0], (.int .u64)⟩),
  (135, ⟨.scalar, 1, 8, [.int .u64 0], (.int .u64)⟩),
  (137, ⟨(.struct [(0, 1), (1, 1), (2, 1), (3, 1)] [false, false, false, false]), 4, 32, [.int .i64 0, .int .i64 0, .int .i64 0, .int .i64 0], (.pair (.int .i64) (.pair (.int .i64) (.pair (.int .i64) (.int .i64))))⟩),
  (159, ⟨(.slice 162), 1, 24, [.nils], (.list (.pair (.int .i64) (.pair (.int .i64) (.int .i64))))⟩),
  (162, ⟨(.struct [(0, 1), (1, 1), (2, 1)] [false, false, false]), 3, 24, [.int .i64 0, .int .i64 0, .int .i64 0], (.pair (.int .i64) (.pair (.int .i64) (.int .i64)))⟩),
  (172, ⟨(.struct [(0, 1), (1, 4)] [false, true]), 5, 48, [.str (⟨#[]⟩ : ByteArray), .int .i64 0, .int .i64 0, .int .i64 0, .int .i64 0], (.pair .str (.pair (.int .i64) (.pair (.int .i64) (.pair (.int .i64) (.int .i64)))))⟩),
  (173, ⟨(.slice 172), 1, 24, [.nils], (.list (.pair .str (.pair (.int .i64) (.pair (.int .i64) (.pair (.int .i64) (.int .i64))))))⟩)]
noncomputable def fns : List (Nat × Func) := [(4, Try.f4), (12, Try.f12), (13, Try.f13), (32, Try.f32), (35, Try.f35), (37, Try.f37), (38, Try.f38), (39, Try.f39), (40, Try.f40), (41, Try.f41), (43, Try.f43), (72, Try.f72), (84, Try.f84), (85, Try.f85), (86, Try.f86), (87, Try.f87), (88, Try.f88), (89, Try.f89), (90, Try.f90), (91, Try.f91), (92, Try.f92), (93, Try.f93), (94, Try.f94), (95, Try.f95), (96, Try.f96), (118, Try.f118), (119, Try.f119), (120, Try.f120), (121, Try.f121), (122, Try.f122), (123, Try.f123), (124, Try.f124), (125, Try.f125), (126, Try.f126), (127, Try.f127), (152, Try.f152), (153, Try.f153), (154, Try.f154), (155, Try.f155), (156, Try.f156), (157, Try.f157), (158, Try.f158), (167, Try.f167)]
noncomputable def sigs : List (Nat × Sig) := [
  (4, ⟨[(.val (some (.int .i64)))], [(.bool, false)], .no⟩),
  (12, ⟨[(.val (some (.int .i64)))], [(.str, false)], .no⟩),
  (13, ⟨[(.val (some (.int .i64)))], [(.str, false)], .no⟩),
  (32, ⟨[(.val (some (.int .i64))), (.val (some (.int .i64))), (.val (some (.int .i64)))], [(.bool, false)], .no⟩),
  (35, ⟨[(.val (some (.int .i64))), (.val (some (.int .i64))), (.val (some (.int .i64)))], [(.bool, false)], .no⟩),
  (37, ⟨[], [((.list .str), false)], .no⟩),
  (38, ⟨[(.val (some (.pair .str (.pair (.int .i64) (.pair (.list (.pair .str (.pair .bool (.pair (.int .i64) .str)))) (.pair (.list (.pair .str .str)) (.pair (.list (.pair (.int .i64) (.pair (.int .i64) (.pair (.int .i64) (.pair .str (.int .i64)))))) (.list (.pair (.int .i64) .bool)))))))))], [(.str, false)], .no⟩),
  (39, ⟨[(.val (some .str)), (.val (some .str)), (.val (some (.int .i64)))], [((.pair .str (.pair (.int .i64) (.pair (.list (.pair .str (.pair .bool (.pair (.int .i64) .str)))) (.pair (.list (.pair .str .str)) (.pair (.list (.pair (.int .i64) (.pair (.int .i64) (.pair (.int .i64) (.pair .str (.int .i64)))))) (.list (.pair (.int .i64) .bool))))))), true)], .no⟩),
  (40, ⟨[(.val (some (.int .i64))), (.val (some (.list (.pair (.int .i64) (.pair (.int .i64) (.pair (.int .i64) (.pair (.int .i64) (.int .i64))))))))], [(.str, false)], .no⟩),
  (41, ⟨[(.val (some (.int .i64))), (.val (some (.int .i64)))], [(.str, false)], .no⟩),
  (43, ⟨[(.val (some (.list (.pair (.int .i64) (.pair (.int .i64) (.pair (.int .i64) (.pair (.int .i64) (.int .i64))))))))], [(.str, false)], .no⟩),
  (72, ⟨[], [((.pair .str (.pair (.int .i64) (.pair (.list (.pair .str (.pair .bool (.pair (.int .i64) .str)))) (.pair (.list (.pair .str .str)) (.pair (.list (.pair (.int .i64) (.pair (.int .i64) (.pair (.int .i64) (.pair .str (.int .i64)))))) (.list (.pair (.int .i64) .bool))))))), true)], .no⟩),
  (84, ⟨[(.val (some (.int .i64)))], [(.str, false)], .no⟩),
  (85, ⟨[(.val (some (.pair .str (.pair (.int .i64) (.pair (.list (.pair .str (.pair .bool (.pair (.int .i64) .str)))) (.pair (.list (.pair .str .str)) (.pair (.list (.pair (.int .i64) (.pair (.int .i64) (.pair (.int .i64) (.pair .str (.int .i64)))))) (.list (.pair (.int .i64) .bool)))))))))], [(.str, false)], .no⟩),
  (86, ⟨[(.val (some .str))], [(.str, false)], .no⟩),
  (87, ⟨[(.val (some .bool))], [((.int .i64), false)], .no⟩),
  (88, ⟨[(.val (some .str))], [(.str, false)], .no⟩),
  (89, ⟨[(.val (some (.list (.pair (.int .i64) (.pair (.int .i64) (.pair (.int .i64) (.pair (.int .i64) (.int .i64))))))))], [(.str, false), ((.int .i64), false)], .no⟩),
  (90, ⟨[(.val (some (.list (.list (.pair (.int .i64) (.pair (.int .i64) (.pair (.int .i64) (.pair (.int .i64) (.int .i64)))))))))], [((.list (.pair (.int .i64) (.pair (.int .i64) (.pair (.int .i64) (.pair (.int .i64) (.int .i64)))))), false)], (.own 67)⟩),
  (91, ⟨[(.val (some (.int .i64)))], [((.list (.pair (.int .i64) (.pair (.int .i64) (.pair (.int .i64) (.pair (.int .i64) (.int .i64)))))), false)], .no⟩),
  (92, ⟨[(.val (some (.int .i64)))], [((.list (.pair (.int .i64) (.pair (.int .i64) (.pair (.int .i64) (.pair (.int .i64) (.int .i64)))))), false)], .no⟩),
  (93, ⟨[(.val (some (.int .i64)))], [((.list (.pair (.int .i64) (.pair (.int .i64) (.pair (.int .i64) (.pair (.int .i64) (.int .i64)))))), false)], (.own 67)⟩),
  (94, ⟨[(.val (some (.int .i64)))], [((.list (.pair (.int .i64) (.pair (.int .i64) (.pair (.int .i64) (.pair (.int .i64) (.int .i64)))))), false)], .no⟩),
  (95, ⟨[(.val (some (.int .i64))), (.val (some (.int .i64)))], [(.str, false)], .no⟩),
  (96, ⟨[(.val (some (.pair (.int .i64) (.pair (.int .i64) (.pair (.int .i64) (.pair (.int .i64) (.int .i64)))))))], [((.int .i64), false)], .no⟩),
  (118, ⟨[(.val (some .str))], [(.str, false)], .no⟩),
  (119, ⟨[(.val (some .bool))], [((.int .i64), false)], .no⟩),
  (120, ⟨[(.val (some .str))], [((.int .i64), false)], .no⟩),
  (121, ⟨[(.val (some .str))], [((.int .i64), false)], .no⟩),
  (122, ⟨[(.val (some (.pair (.int .i64) (.pair (.int .i64) (.pair (.int .i64) (.pair (.int .i64) (.int .i64)))))))], [(.bool, false)], .no⟩),
  (123, ⟨[(.val (some (.pair (.int .i64) (.pair (.int .i64) (.pair (.int .i64) (.pair (.int .i64) (.int .i64)))))))], [((.int .i64), false)], .no⟩),
  (124, ⟨[.val none, (.val (some (.int .i64)))], [((.list (.pair (.int .i64) (.pair (.int .i64) (.pair (.int .i64) (.pair (.int .i64) (.int .i64)))))), false)], (.own 67)⟩),
  (125, ⟨[(.val (some (.int .i64)))], [((.pair (.int .i64) (.pair (.int .i64) (.pair (.int .i64) (.int .i64)))), true)], .no⟩),
  (126, ⟨[(.val (some (.int .i64))), (.val (some (.int .i64))), (.val (some (.int .i64))), (.val (some (.int .i64)))], [((.int .i64), false)], .no⟩),
  (127, ⟨[(.val (some (.int .i64))), (.val (some (.int .i64)))], [((.int .i64), false)], .no⟩),
  (152, ⟨[(.val (some (.int .i64)))], [(.bool, false)], .no⟩),
  (153, ⟨[(.val (some (.int .i64)))], [((.pair (.int .i64) (.pair (.int .i64) (.pair (.int .i64) (.int .i64)))), true)], .no⟩),
  (154, ⟨[(.val (some (.int .i64)))], [(.bool, false), (.bool, false), (.bool, false)], .no⟩),
  (155, ⟨[(.val (some (.int .i64)))], [(.bool, false)], .no⟩),
  (156, ⟨[(.val (some (.int .i64))), (.val (some (.int .i64)))], [(.bool, false)], .no⟩),
  (157, ⟨[(.val (some (.int .i64)))], [((.list (.pair (.int .i64) (.pair (.int .i64) (.int .i64)))), false)], .no⟩),
  (158, ⟨[(.val (some (.int .i64))), (.val (some (.int .i64))), (.val (some (.int .i64)))], [((.int .i64), false)], .no⟩),
  (167, ⟨[], [((.list (.pair .str (.pair (.int .i64) (.pair (.int .i64) (.pair (.int .i64) (.int .i64)))))), false)], .no⟩)]
noncomputable def loops : List (Nat × List (Nat × List (Nat × LK))) := [
  (95, [(3, [(0, .val (.int .i64)), (1, .val (.int .i64)), (5, .own 5 (.int .u8)), (6, .val (.int .i64))])]),
  (126, [(3, [(0, .val (.int .i64)), (1, .val (.int .i64)), (2, .val (.int .i64)), (3, .val (.int .i64)), (9, .val (.int .i64)), (10, .val (.int .i64))])]),
  (96, [(10, [(1, .box (.pair (.int .i64) (.pair (.int .i64) (.pair (.int .i64) (.pair (.int .i64) (.int .i64)))))), (4, .val (.int .i64)), (5, .val (.int .i64))]), (30, [(1, .box (.pair (.int .i64) (.pair (.int .i64) (.pair (.int .i64) (.pair (.int .i64) (.int .i64)))))), (4, .val (.int .i64)), (7, .val (.int .i64))]), (46, [(1, .box (.pair (.int .i64) (.pair (.int .i64) (.pair (.int .i64) (.pair (.int .i64) (.int .i64)))))), (4, .val (.int .i64)), (9, .val (.int .i64))])]),
  (43, [(3, [(0, .val (.list (.pair (.int .i64) (.pair (.int .i64) (.pair (.int .i64) (.pair (.int .i64) (.int .i64))))))), (3, .val .str), (4, .val (.int .i64))])]),
  (120, [(3, [(0, .val .str), (3, .val (.int .i64)), (4, .val (.int .i64))])]),
  (85, [(3, [(1, .box (.pair .str (.pair (.int .i64) (.pair (.list (.pair .str (.pair .bool (.pair (.int .i64) .str)))) (.pair (.list (.pair .str .str)) (.pair (.list (.pair (.int .i64) (.pair (.int .i64) (.pair (.int .i64) (.pair .str (.int .i64)))))) (.list (.pair (.int .i64) .bool)))))))), (3, .val .str), (4, .val (.int .i64))]), (9, [(1, .box (.pair .str (.pair (.int .i64) (.pair (.list (.pair .str (.pair .bool (.pair (.int .i64) .str)))) (.pair (.list (.pair .str .str)) (.pair (.list (.pair (.int .i64) (.pair (.int .i64) (.pair (.int .i64) (.pair .str (.int .i64)))))) (.list (.pair (.int .i64) .bool)))))))), (3, .val .str), (6, .val (.int .i64))]), (14, [(1, .box (.pair .str (.pair (.int .i64) (.pair (.list (.pair .str (.pair .bool (.pair (.int .i64) .str)))) (.pair (.list (.pair .str .str)) (.pair (.list (.pair (.int .i64) (.pair (.int .i64) (.pair (.int .i64) (.pair .str (.int .i64)))))) (.list (.pair (.int .i64) .bool)))))))), (3, .val .str), (7, .val (.int .i64))]), (20, [(1, .box (.pair .str (.pair (.int .i64) (.pair (.list (.pair .str (.pair .bool (.pair (.int .i64) .str)))) (.pair (.list (.pair .str .str)) (.pair (.list (.pair (.int .i64) (.pair (.int .i64) (.pair (.int .i64) (.pair .str (.int .i64)))))) (.list (.pair (.int .i64) .bool)))))))), (3, .val .str), (9, .val (.int .i64))])]),
  (41, [(2, [(0, .val (.int .i64)), (1, .val (.int .i64)), (5, .own 5 (.int .u8))])]),
  (121, [(3, [(0, .val .str), (3, .val (.int .i64)), (4, .val (.int .i64))])]),
  (38, [(3, [(1, .box (.pair .str (.pair (.int .i64) (.pair (.list (.pair .str (.pair .bool (.pair (.int .i64) .str)))) (.pair (.list (.pair .str .str)) (.pair (.list (.pair (.int .i64) (.pair (.int .i64) (.pair (.int .i64) (.pair .str (.int .i64)))))) (.list (.pair (.int .i64) .bool)))))))), (3, .val .str), (26, .val (.list (.pair .str (.pair .bool (.pair (.int .i64) .str))))), (27, .val (.int .i64)), (28, .val (.int .i64))]), (9, [(1, .box (.pair .str (.pair (.int .i64) (.pair (.list (.pair .str (.pair .bool (.pair (.int .i64) .str)))) (.pair (.list (.pair .str .str)) (.pair (.list (.pair (.int .i64) (.pair (.int .i64) (.pair (.int .i64) (.pair .str (.int .i64)))))) (.list (.pair (.int .i64) .bool)))))))), (3, .val .str), (63, .val (.list (.pair .str .str))), (64, .val (.int .i64)), (65, .val (.int .i64))]), (15, [(1, .box (.pair .str (.pair (.int .i64) (.pair (.list (.pair .str (.pair .bool (.pair (.int .i64) .str)))) (.pair (.list (.pair .str .str)) (.pair (.list (.pair (.int .i64) (.pair (.int .i64) (.pair (.int .i64) (.pair .str (.int .i64)))))) (.list (.pair (.int .i64) .bool)))))))), (3, .val .str), (86, .val (.list (.pair (.int .i64) (.pair (.int .i64) (.pair (.int .i64) (.pair .str (.int .i64))))))), (87, .val (.int .i64)), (88, .val (.int .i64))]), (21, [(3, .val .str), (121, .val (.list (.pair (.int .i64) .bool))), (122, .val (.int .i64)), (123, .val (.int .i64))])]),
  (123, [(4, [(1, .box (.pair (.int .i64) (.pair (.int .i64) (.pair (.int .i64) (.pair (.int .i64) (.int .i64)))))), (3, .box (.pair (.int .i64) (.pair (.int .i64) (.pair (.int .i64) (.int .i64))))), (4, .val (.int .i64)), (17, .val (.list (.pair (.int .i64) (.pair (.int .i64) (.int .i64))))), (18, .val (.int .i64)), (19, .val (.int .i64))])]),
  (89, [(7, [(4, .val .str), (15, .val (.list (.pair (.int .i64) (.pair (.int .i64) (.pair (.int .i64) (.pair (.int .i64) (.int .i64))))))), (16, .val (.int .i64)), (17, .val (.int .i64))])]),
  (90, [(3, [(0, .val (.list (.list (.pair (.int .i64) (.pair (.int .i64) (.pair (.int .i64) (.pair (.int .i64) (.int .i64)))))))), (3, .val (.int .i64)), (9, .val (.list (.list (.pair (.int .i64) (.pair (.int .i64) (.pair (.int .i64) (.pair (.int .i64) (.int .i64)))))))), (10, .val (.int .i64)), (11, .val (.int .i64))]), (11, [(6, .own 67 (.pair (.int .i64) (.pair (.int .i64) (.pair (.int .i64) (.pair (.int .i64) (.int .i64)))))), (25, .val (.list (.list (.pair (.int .i64) (.pair (.int .i64) (.pair (.int .i64) (.pair (.int .i64) (.int .i64)))))))), (26, .val (.int .i64)), (27, .val (.int .i64))])])]
noncomputable def prims : List (Nat × (List SV → Option (List PV))) := [(124, fun | [.v .nils, .v (.int .i64 n)] => bif decide (0 ≤ n) && decide (n < 1000000) then some [.list (.pair (.int .i64) (.pair (.int .i64) (.pair (.int .i64) (.pair (.int .i64) (.int .i64))))) []] else none | _ => none)]
noncomputable def cfg : Cfg := ⟨Try.prog, asc tis, asc fns, asc sigs, asc2 loops, asc prims⟩
theorem fns_ok : FnsOK Try.prog fns := ⟨Try.func4, Try.func12, Try.func13, Try.func32, Try.func35, Try.func37, Try.func38, Try.func39, Try.func40, Try.func41, Try.func43, Try.func72, Try.func84, Try.func85, Try.func86, Try.func87, Try.func88, Try.func89, Try.func90, Try.func91, Try.func92, Try.func93, Try.func94, Try.func95, Try.func96, Try.func118, Try.func119, Try.func120, Try.func121, Try.func122, Try.func123, Try.func124, Try.func125, Try.func126, Try.func127, Try.func152, Try.func153, Try.func154, Try.func155, Try.func156, Try.func157, Try.func158, Try.func167, trivial⟩
theorem cfg_ok : cfg.OK := Cfg.OK.of (C := cfg) (tis := tis) (fns := fns) (sigs := sigs) rfl rfl rfl (by kernel_rfl) fns_ok (by kernel_rfl) (by kernel_rfl)
end Go.Proofs.Ytpfplngeakmghaa.R
