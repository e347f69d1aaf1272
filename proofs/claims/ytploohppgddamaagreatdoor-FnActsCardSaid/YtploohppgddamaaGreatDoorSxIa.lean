import Derived.Test.YtploohppgddamaaGreatDoorPsZa
import Derived.Test.YtploohppgddamaaGreatDoorProg
namespace Go.Proofs.YtploohppgddamaaGreatDoor.S
open Go.Ps
set_option linter.unusedVariables false
set_option maxRecDepth 100000
set_option maxHeartbeats 0
abbrev Y0 : Ty := (.pair (.int .i64) (.pair (.int .i64) (.pair (.int .i64) (.pair (.int .i64) .str))))
abbrev Y1 : Ty := (.pair (.list (.int .u8)) (.pair (.int .i64) (.int .i64)))
abbrev D0 : Type := List Int × Int × Int
abbrev D1 : Type := Int × List Int × Int × Int
abbrev D2 : Type := ByteArray × List Int × Int × Int
abbrev D3 : Type := Int × Int × Int × Int × ByteArray
abbrev D4 : Type := D3 × List Int × Int × Int
noncomputable def tis : List (Nat × TI) := [
  (3, ⟨.scalar, 1, 8, [.int .i64 0], (.int .i64), false⟩),
  (5, ⟨.scalar, 1, 1, [.int .u8 0], (.int .u8), false⟩),
  (9, ⟨.scalar, 1, 16, [.str (⟨#[]⟩ : ByteArray)], .str, false⟩),
  (22, ⟨(.slice 5), 1, 24, [.nils], (.list (.int .u8)), false⟩),
  (25, ⟨(.struct [(0, 1), (1, 1), (2, 1), (3, 1), (4, 1)] [false, false, false, false, false] []), 5, 48, [.int .i64 0, .int .i64 0, .int .i64 0, .int .i64 0, .str (⟨#[]⟩ : ByteArray)], Y0, true⟩),
  (39, ⟨(.slice 9), 1, 24, [.nils], (.list .str), false⟩),
  (47, ⟨(.struct [(0, 1), (1, 1), (2, 1)] [false, false, false] []), 3, 40, [.nils, .int .i64 0, .int .i64 0], Y1, false⟩),
  (52, ⟨(.array 3 3), 3, 24, [.int .i64 0, .int .i64 0, .int .i64 0], (.arr (.int .i64) 3), false⟩),
  (58, ⟨(.slice 3), 1, 24, [.nils], (.list (.int .i64)), false⟩),
  (74, ⟨.scalar, 1, 8, [.int .u64 0], (.int .u64), false⟩)]
noncomputable def fns : List (Nat × Func) := [(3, Tryz.f3), (4, Tryz.f4), (5, Tryz.f5), (6, Tryz.f6), (7, Tryz.f7), (8, Tryz.f8), (9, Tryz.f9), (10, Tryz.f10), (11, Tryz.f11), (12, Tryz.f12), (13, Tryz.f13), (14, Tryz.f14), (15, Tryz.f15), (16, Tryz.f16), (17, Tryz.f17), (18, Tryz.f18), (19, Tryz.f19), (20, Tryz.f20), (21, Tryz.f21), (22, Tryz.f22), (23, Tryz.f23), (24, Tryz.f24), (25, Tryz.f25), (26, Tryz.f26), (27, Tryz.f27), (28, Tryz.f28), (29, Tryz.f29), (30, Tryz.f30), (34, Tryz.f34), (35, Tryz.f35), (36, Tryz.f36), (37, Tryz.f37), (38, Tryz.f38), (39, Tryz.f39), (40, Tryz.f40), (41, Tryz.f41), (42, Tryz.f42), (43, Tryz.f43), (44, Tryz.f44), (45, Tryz.f45), (46, Tryz.f46), (54, Tryz.f54), (55, Tryz.f55), (56, Tryz.f56), (57, Tryz.f57), (58, Tryz.f58), (67, Tryz.f67), (80, Tryz.f80)]
noncomputable def sigs : List (Nat × Sig) := [
  (3, ⟨[.val (.list (.int .u8)), .val (.list (.int .u8))], [(.bool, false)], [.no]⟩),
  (4, ⟨[.val (.list (.int .u8))], [(.str, false)], [.no]⟩),
  (5, ⟨[.val .str], [(Y0, true), ((.int .i64), false)], [.no, .no]⟩),
  (6, ⟨[.val .str], [(Y0, true), ((.int .i64), false)], [.no, .no]⟩),
  (7, ⟨[.val (.list (.int .u8))], [(Y0, true)], [.no]⟩),
  (8, ⟨[.val Y0], [(.str, false), ((.int .i64), false)], [.no, .no]⟩),
  (9, ⟨[.val Y0], [(.str, false), ((.int .i64), false)], [.no, .no]⟩),
  (10, ⟨[.val Y0], [(.bool, false)], [.no]⟩),
  (11, ⟨[.val (.list (.int .u8))], [((.opt Y1), false)], [.box]⟩),
  (12, ⟨[.var Y1 .no], [(.str, false)], [.no]⟩),
  (13, ⟨[.val .str], [(.bool, false)], [.no]⟩),
  (14, ⟨[.val (.list .str)], [(Y0, true), (.bool, false)], [.no, .no]⟩),
  (15, ⟨[.val .str], [((.list .str), false)], [.no]⟩),
  (16, ⟨[.val .str], [(Y0, true), (.bool, false)], [.no, .no]⟩),
  (17, ⟨[.var Y1 .no], [(Y0, true)], [.no]⟩),
  (18, ⟨[.val (.int .i64)], [(.bool, false)], [.no]⟩),
  (19, ⟨[.val Y0], [(.str, false)], [.no]⟩),
  (20, ⟨[.val Y0], [(.bool, false)], [.no]⟩),
  (21, ⟨[.val (.int .i64)], [(.bool, false)], [.no]⟩),
  (22, ⟨[.val Y0], [(.str, false)], [.no]⟩),
  (23, ⟨[.val (.int .i64), .val (.int .i64), .val (.int .i64)], [(.bool, false)], [.no]⟩),
  (24, ⟨[.val .str], [(.bool, false)], [.no]⟩),
  (25, ⟨[.var Y1 .no, .val (.int .i64)], [((.int .i64), false)], [.no]⟩),
  (26, ⟨[.var Y1 .no, .val (.list .str)], [(.str, false)], [.no]⟩),
  (27, ⟨[.val (.list .str), .val .str], [((.int .i64), false)], [.no]⟩),
  (28, ⟨[], [((.list .str), false)], [(.own 9 .no)]⟩),
  (29, ⟨[.val .str], [((.int .i64), false), (.bool, false)], [.no, .no]⟩),
  (30, ⟨[.val (.list .str), .val .str], [(.str, false)], [.no]⟩),
  (34, ⟨[.val .str], [((.list .str), false)], [(.own 9 .no)]⟩),
  (35, ⟨[], [((.list .str), false)], [(.own 9 .no)]⟩),
  (36, ⟨[.val .str], [((.int .i64), false), (.bool, false)], [.no, .no]⟩),
  (37, ⟨[.val (.list .str), .val (.list .str)], [(.bool, false)], [.no]⟩),
  (38, ⟨[.var Y1 .no], [((.int .i64), false)], [.no]⟩),
  (39, ⟨[.val (.int .i64)], [(.str, false)], [.no]⟩),
  (40, ⟨[.val (.int .i64), .val (.int .i64), .val (.int .i64)], [(.bool, false)], [.no]⟩),
  (41, ⟨[.val .str], [(.bool, false)], [.no]⟩),
  (42, ⟨[.val (.int .i64)], [(.bool, false)], [.no]⟩),
  (43, ⟨[.val (.int .i64)], [(.str, false)], [.no]⟩),
  (44, ⟨[.val (.int .u8)], [(.bool, false)], [.no]⟩),
  (45, ⟨[.val (.int .u8)], [(.bool, false)], [.no]⟩),
  (46, ⟨[.var Y1 .no], [((.int .i64), false)], [.no]⟩),
  (54, ⟨[.var Y1 .no], [((.int .i64), false)], [.no]⟩),
  (55, ⟨[.var Y1 .no], [((.int .i64), false)], [.no]⟩),
  (56, ⟨[.val (.int .i64)], [(.str, false)], [.no]⟩),
  (57, ⟨[.val (.int .u8)], [(.bool, false)], [.no]⟩),
  (58, ⟨[.val (.int .u8)], [(.bool, false)], [.no]⟩),
  (67, ⟨[.val (.int .i64)], [(.str, false)], [.no]⟩),
  (80, ⟨[.val (.int .i64), .val (.int .i64)], [(.str, false)], [.no]⟩)]
noncomputable def loops : List (Nat × List (Nat × List (Nat × LK))) := [
  (14, [(8, [(0, .val (.list .str) .no), (2, .box Y0 .no), (4, .box Y0 .no), (5, .box (.arr (.int .i64) 3) .no), (33, .val (.list .str) .no), (34, .val (.int .i64) .no), (35, .val (.int .i64) .no)])]),
  (16, [(6, [(2, .box Y0 .no), (4, .val (.list .str) (.own 9 .no)), (5, .box Y0 .no), (6, .val (.int .i64) .no)]), (14, [(2, .box Y0 .no), (4, .val (.list .str) (.own 9 .no)), (5, .box Y0 .no), (7, .val (.list (.int .i64)) (.own 3 .no)), (8, .val (.int .i64) .no)])]),
  (24, [(4, [(0, .val .str .no), (3, .val (.int .i64) .no)])]),
  (27, [(2, [(0, .val (.list .str) .no), (1, .val .str .no), (7, .val (.int .i64) .no), (8, .val (.int .i64) .no)])]),
  (34, [(4, [(0, .val .str .no), (3, .val (.list .str) (.own 9 .no)), (4, .val (.int .i64) .no), (5, .val (.int .i64) .no)])]),
  (36, [(9, [(0, .val .str .no), (4, .val (.int .i64) .no), (5, .val (.int .i64) .no), (6, .val (.int .i64) .no)])]),
  (37, [(4, [(0, .val (.list .str) .no), (1, .val (.list .str) .no), (5, .val (.int .i64) .no)])]),
  (41, [(4, [(0, .val .str .no), (3, .val (.int .i64) .no)])])]
noncomputable def prims : List (Nat × (List SV → Option (List PV))) := [(15, primWords), (29, primReadInt), (30, primJoin), (80, primItoa)]
noncomputable def cfg : Cfg := ⟨Tryz.prog, asc tis, asc fns, realOf [], altsOf [] [], asc sigs, asc2 loops, fun _ _ => .no, asc prims⟩
theorem fns_ok : FnsOK Tryz.prog [] fns := ⟨Tryz.func3, Tryz.func4, Tryz.func5, Tryz.func6, Tryz.func7, Tryz.func8, Tryz.func9, Tryz.func10, Tryz.func11, Tryz.func12, Tryz.func13, Tryz.func14, Tryz.func15, Tryz.func16, Tryz.func17, Tryz.func18, Tryz.func19, Tryz.func20, Tryz.func21, Tryz.func22, Tryz.func23, Tryz.func24, Tryz.func25, Tryz.func26, Tryz.func27, Tryz.func28, Tryz.func29, Tryz.func30, Tryz.func34, Tryz.func35, Tryz.func36, Tryz.func37, Tryz.func38, Tryz.func39, Tryz.func40, Tryz.func41, Tryz.func42, Tryz.func43, Tryz.func44, Tryz.func45, Tryz.func46, Tryz.func54, Tryz.func55, Tryz.func56, Tryz.func57, Tryz.func58, Tryz.func67, Tryz.func80, trivial⟩
theorem cfg_ok : cfg.OK := Cfg.OK.of (C := cfg) (tis := tis) (fns := fns) (sigs := sigs) (rl := []) (al := []) rfl rfl rfl rfl rfl (by kernel_rfl) fns_ok (by kernel_rfl) (by kernel_rfl) (by kernel_rfl)
/-- The text of a loop; slots. -/
noncomputable abbrev LA (f : Nat) (F : Func) (p : List Nat) (s : St) := LpAt cfg f (F.body.getD .skip) F.results.toList ((asc sigs f).getD ⟨[], [], []⟩) p s
abbrev vI (k : Nat) (n : Int) : Nat × SV := (k, .v (.int .i64 n))
abbrev vL (k : Nat) (e : Ty) (l : List e.den) : Nat × SV := (k, .v (.list e l))
abbrev vP (k p : Nat) : Nat × SV := (k, .v (.ptr p (.at 0)))
end Go.Proofs.YtploohppgddamaaGreatDoor.S
