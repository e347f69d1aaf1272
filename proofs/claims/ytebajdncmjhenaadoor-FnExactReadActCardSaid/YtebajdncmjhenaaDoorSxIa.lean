import Derived.Test.YtebajdncmjhenaaDoorPsZa
import Derived.Test.YtebajdncmjhenaaDoorProg
namespace Go.Proofs.YtebajdncmjhenaaDoor.S
open Go.Ps
set_option linter.unusedVariables false
set_option maxRecDepth 100000
set_option maxHeartbeats 0
abbrev Y0 : Ty := (.pair (.int .i64) (.pair (.int .i64) (.pair (.int .i64) (.pair (.int .i64) .str))))
abbrev D0 : Type := Int × Int × Int × Int × ByteArray
noncomputable def tis : List (Nat × TI) := [
  (3, ⟨.scalar, 1, 8, [.int .i64 0], (.int .i64), false⟩),
  (5, ⟨.scalar, 1, 1, [.int .u8 0], (.int .u8), false⟩),
  (9, ⟨.scalar, 1, 16, [.str (⟨#[]⟩ : ByteArray)], .str, false⟩),
  (23, ⟨(.struct [(0, 1), (1, 1), (2, 1), (3, 1), (4, 1)] [false, false, false, false, false] []), 5, 48, [.int .i64 0, .int .i64 0, .int .i64 0, .int .i64 0, .str (⟨#[]⟩ : ByteArray)], Y0, false⟩),
  (31, ⟨(.slice 9), 1, 24, [.nils], (.list .str), false⟩),
  (34, ⟨(.slice 3), 1, 24, [.nils], (.list (.int .i64)), false⟩),
  (41, ⟨(.array 3 3), 3, 24, [.int .i64 0, .int .i64 0, .int .i64 0], (.arr (.int .i64) 3), false⟩),
  (54, ⟨(.slice 5), 1, 24, [.nils], (.list (.int .u8)), false⟩)]
noncomputable def fns : List (Nat × Func) := [(3, Tryd.f3), (4, Tryd.f4), (5, Tryd.f5), (6, Tryd.f6), (7, Tryd.f7), (8, Tryd.f8), (9, Tryd.f9), (10, Tryd.f10), (11, Tryd.f11), (12, Tryd.f12), (13, Tryd.f13), (14, Tryd.f14), (15, Tryd.f15), (16, Tryd.f16), (17, Tryd.f17), (18, Tryd.f18), (19, Tryd.f19), (20, Tryd.f20), (21, Tryd.f21), (22, Tryd.f22), (26, Tryd.f26), (27, Tryd.f27), (28, Tryd.f28), (29, Tryd.f29), (31, Tryd.f31), (33, Tryd.f33), (34, Tryd.f34), (40, Tryd.f40), (41, Tryd.f41), (45, Tryd.f45), (46, Tryd.f46), (47, Tryd.f47), (59, Tryd.f59), (69, Tryd.f69)]
noncomputable def sigs : List (Nat × Sig) := [
  (3, ⟨[.val .str], [(.bool, false)], [.no]⟩),
  (4, ⟨[.val .str], [(Y0, true), ((.int .i64), false)], [.no, .no]⟩),
  (5, ⟨[.val .str], [(Y0, true), ((.int .i64), false)], [.no, .no]⟩),
  (6, ⟨[.val Y0, .val Y0], [(.bool, false)], [.no]⟩),
  (7, ⟨[.val .str], [(Y0, true), (.bool, false)], [.no, .no]⟩),
  (8, ⟨[.val .str], [(.bool, false)], [.no]⟩),
  (9, ⟨[.val (.list .str)], [(Y0, true), (.bool, false)], [.no, .no]⟩),
  (10, ⟨[.val .str], [((.list .str), false)], [.no]⟩),
  (11, ⟨[.val .str], [((.list .str), false)], [(.own 9 .no)]⟩),
  (12, ⟨[], [((.list .str), false)], [(.own 9 .no)]⟩),
  (13, ⟨[.val .str], [((.int .i64), false), (.bool, false)], [.no, .no]⟩),
  (14, ⟨[.val Y0], [(.bool, false)], [.no]⟩),
  (15, ⟨[.val (.list .str), .val (.list .str)], [(.bool, false)], [.no]⟩),
  (16, ⟨[.val Y0], [(.str, false)], [.no]⟩),
  (17, ⟨[.val (.list .str), .val .str], [((.int .i64), false)], [.no]⟩),
  (18, ⟨[], [((.list .str), false)], [(.own 9 .no)]⟩),
  (19, ⟨[.val .str], [((.int .i64), false), (.bool, false)], [.no, .no]⟩),
  (20, ⟨[.val Y0], [(.bool, false)], [.no]⟩),
  (21, ⟨[.val Y0], [(.str, false)], [.no]⟩),
  (22, ⟨[.val (.list .str), .val .str], [(.str, false)], [.no]⟩),
  (26, ⟨[.val (.int .i64), .val (.int .i64), .val (.int .i64)], [(.bool, false)], [.no]⟩),
  (27, ⟨[.val .str], [(.bool, false)], [.no]⟩),
  (28, ⟨[.val (.int .i64)], [(.bool, false)], [.no]⟩),
  (29, ⟨[.val (.int .i64)], [(.str, false)], [.no]⟩),
  (31, ⟨[.val (.int .i64), .val (.int .i64), .val (.int .i64)], [(.bool, false)], [.no]⟩),
  (33, ⟨[.val (.int .i64)], [(.str, false)], [.no]⟩),
  (34, ⟨[.val .str], [(.bool, false)], [.no]⟩),
  (40, ⟨[.val (.int .u8)], [(.bool, false)], [.no]⟩),
  (41, ⟨[.val (.int .u8)], [(.bool, false)], [.no]⟩),
  (45, ⟨[.val (.int .i64)], [(.str, false)], [.no]⟩),
  (46, ⟨[.val (.int .u8)], [(.bool, false)], [.no]⟩),
  (47, ⟨[.val (.int .u8)], [(.bool, false)], [.no]⟩),
  (59, ⟨[.val (.int .i64)], [(.str, false)], [.no]⟩),
  (69, ⟨[.val (.int .i64), .val (.int .i64)], [(.str, false)], [.no]⟩)]
noncomputable def loops : List (Nat × List (Nat × List (Nat × LK))) := [
  (7, [(6, [(2, .box Y0 .no), (4, .val (.list .str) (.own 9 .no)), (5, .box Y0 .no), (6, .val (.int .i64) .no)]), (14, [(2, .box Y0 .no), (4, .val (.list .str) (.own 9 .no)), (5, .box Y0 .no), (7, .val (.list (.int .i64)) (.own 3 .no)), (8, .val (.int .i64) .no)])]),
  (9, [(8, [(0, .val (.list .str) .no), (2, .box Y0 .no), (4, .box Y0 .no), (5, .box (.arr (.int .i64) 3) .no), (33, .val (.list .str) .no), (34, .val (.int .i64) .no), (35, .val (.int .i64) .no)])]),
  (11, [(4, [(0, .val .str .no), (3, .val (.list .str) (.own 9 .no)), (4, .val (.int .i64) .no), (5, .val (.int .i64) .no)])]),
  (13, [(9, [(0, .val .str .no), (4, .val (.int .i64) .no), (5, .val (.int .i64) .no), (6, .val (.int .i64) .no)])]),
  (15, [(4, [(0, .val (.list .str) .no), (1, .val (.list .str) .no), (5, .val (.int .i64) .no)])]),
  (17, [(2, [(0, .val (.list .str) .no), (1, .val .str .no), (7, .val (.int .i64) .no), (8, .val (.int .i64) .no)])]),
  (27, [(4, [(0, .val .str .no), (3, .val (.int .i64) .no)])]),
  (34, [(4, [(0, .val .str .no), (3, .val (.int .i64) .no)])])]
noncomputable def prims : List (Nat × (List SV → Option (List PV))) := [(10, primWords), (19, primReadInt), (22, primJoin), (69, primItoa)]
noncomputable def cfg : Cfg := ⟨Tryd.prog, asc tis, asc fns, realOf [], altsOf [] [], asc sigs, asc2 loops, fun _ _ => .no, asc prims⟩
theorem fns_ok : FnsOK Tryd.prog [] fns := ⟨Tryd.func3, Tryd.func4, Tryd.func5, Tryd.func6, Tryd.func7, Tryd.func8, Tryd.func9, Tryd.func10, Tryd.func11, Tryd.func12, Tryd.func13, Tryd.func14, Tryd.func15, Tryd.func16, Tryd.func17, Tryd.func18, Tryd.func19, Tryd.func20, Tryd.func21, Tryd.func22, Tryd.func26, Tryd.func27, Tryd.func28, Tryd.func29, Tryd.func31, Tryd.func33, Tryd.func34, Tryd.func40, Tryd.func41, Tryd.func45, Tryd.func46, Tryd.func47, Tryd.func59, Tryd.func69, trivial⟩
theorem cfg_ok : cfg.OK := Cfg.OK.of (C := cfg) (tis := tis) (fns := fns) (sigs := sigs) (rl := []) (al := []) rfl rfl rfl rfl rfl (by kernel_rfl) fns_ok (by kernel_rfl) (by kernel_rfl) (by kernel_rfl)
/-- The text of a loop; slots. -/
noncomputable abbrev LA (f : Nat) (F : Func) (p : List Nat) (s : St) := LpAt cfg f (F.body.getD .skip) F.results.toList ((asc sigs f).getD ⟨[], [], []⟩) p s
abbrev vI (k : Nat) (n : Int) : Nat × SV := (k, .v (.int .i64 n))
abbrev vL (k : Nat) (e : Ty) (l : List e.den) : Nat × SV := (k, .v (.list e l))
abbrev vP (k p : Nat) : Nat × SV := (k, .v (.ptr p (.at 0)))
end Go.Proofs.YtebajdncmjhenaaDoor.S
