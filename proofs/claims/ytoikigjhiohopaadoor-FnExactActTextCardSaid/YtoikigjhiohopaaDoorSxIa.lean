import Derived.Test.YtoikigjhiohopaaDoorPsZa
import Derived.Test.YtoikigjhiohopaaDoorProg
namespace Go.Proofs.YtoikigjhiohopaaDoor.S
open Go.Ps
set_option linter.unusedVariables false
set_option maxRecDepth 100000
set_option maxHeartbeats 0
abbrev Y0 : Ty := (.pair (.int .i64) (.pair (.int .i64) (.pair (.int .i64) (.pair (.int .i64) .str))))
abbrev D0 : Type := Int × Int × Int × Int × ByteArray
noncomputable def tis : List (Nat × TI) := [
  (3, ⟨.scalar, 1, 8, [.int .i64 0], (.int .i64), false⟩),
  (5, ⟨.scalar, 1, 1, [.int .u8 0], (.int .u8), false⟩),
  (9, ⟨.scalar, 1, 16, [.str (⟨#[]⟩ : ByteArray)], .str, false⟩),
  (23, ⟨(.struct [(0, 1), (1, 1), (2, 1), (3, 1), (4, 1)] [false, false, false, false, false] []), 5, 48, [.int .i64 0, .int .i64 0, .int .i64 0, .int .i64 0, .str (⟨#[]⟩ : ByteArray)], Y0, false⟩),
  (27, ⟨(.struct [(0, 1), (1, 1), (2, 1), (3, 1), (4, 1)] [false, false, false, false, false] []), 5, 48, [.int .i64 0, .int .i64 0, .int .i64 0, .int .i64 0, .str (⟨#[]⟩ : ByteArray)], Y0, false⟩),
  (40, ⟨(.slice 9), 1, 24, [.nils], (.list .str), false⟩),
  (55, ⟨(.slice 5), 1, 24, [.nils], (.list (.int .u8)), false⟩)]
noncomputable def fns : List (Nat × Func) := [(3, Tryd.f3), (5, Tryd.f5), (6, Tryd.f6), (7, Tryd.f7), (8, Tryd.f8), (12, Tryd.f12), (13, Tryd.f13), (14, Tryd.f14), (15, Tryd.f15), (16, Tryd.f16), (17, Tryd.f17), (22, Tryd.f22), (23, Tryd.f23), (24, Tryd.f24), (25, Tryd.f25), (26, Tryd.f26), (27, Tryd.f27), (28, Tryd.f28), (29, Tryd.f29), (30, Tryd.f30), (31, Tryd.f31), (40, Tryd.f40), (41, Tryd.f41), (42, Tryd.f42), (43, Tryd.f43), (46, Tryd.f46), (55, Tryd.f55), (67, Tryd.f67)]
noncomputable def sigs : List (Nat × Sig) := [
  (3, ⟨[.val Y0], [(.bool, false)], [.no]⟩),
  (5, ⟨[.val Y0, .val (.int .i64)], [((.int .i64), false)], [.no]⟩),
  (6, ⟨[.val Y0], [(.str, false), ((.int .i64), false)], [.no, .no]⟩),
  (7, ⟨[.val Y0], [(Y0, true)], [.no]⟩),
  (8, ⟨[.val Y0], [(.str, false), ((.int .i64), false)], [.no, .no]⟩),
  (12, ⟨[.val Y0], [(.bool, false)], [.no]⟩),
  (13, ⟨[.val (.int .i64)], [(.bool, false)], [.no]⟩),
  (14, ⟨[.val Y0], [(.str, false)], [.no]⟩),
  (15, ⟨[.val Y0], [(.bool, false)], [.no]⟩),
  (16, ⟨[.val (.int .i64)], [(.bool, false)], [.no]⟩),
  (17, ⟨[.val Y0], [(.str, false)], [.no]⟩),
  (22, ⟨[.val (.int .i64), .val (.int .i64), .val (.int .i64)], [(.bool, false)], [.no]⟩),
  (23, ⟨[.val .str], [(.bool, false)], [.no]⟩),
  (24, ⟨[.val (.int .i64)], [(.bool, false)], [.no]⟩),
  (25, ⟨[], [((.list .str), false)], [(.own 9 .no)]⟩),
  (26, ⟨[.val (.int .i64)], [(.str, false)], [.no]⟩),
  (27, ⟨[.val (.int .i64), .val (.int .i64), .val (.int .i64)], [(.bool, false)], [.no]⟩),
  (28, ⟨[.val .str], [(.bool, false)], [.no]⟩),
  (29, ⟨[.val .str], [((.int .i64), false), (.bool, false)], [.no, .no]⟩),
  (30, ⟨[.val (.int .i64)], [(.str, false)], [.no]⟩),
  (31, ⟨[], [((.list .str), false)], [(.own 9 .no)]⟩),
  (40, ⟨[.val (.int .u8)], [(.bool, false)], [.no]⟩),
  (41, ⟨[.val (.int .u8)], [(.bool, false)], [.no]⟩),
  (42, ⟨[.val (.int .u8)], [(.bool, false)], [.no]⟩),
  (43, ⟨[.val (.int .u8)], [(.bool, false)], [.no]⟩),
  (46, ⟨[.val (.int .i64)], [(.str, false)], [.no]⟩),
  (55, ⟨[.val (.int .i64)], [(.str, false)], [.no]⟩),
  (67, ⟨[.val (.int .i64), .val (.int .i64)], [(.str, false)], [.no]⟩)]
noncomputable def loops : List (Nat × List (Nat × List (Nat × LK))) := [
  (23, [(4, [(0, .val .str .no), (3, .val (.int .i64) .no)])]),
  (28, [(4, [(0, .val .str .no), (3, .val (.int .i64) .no)])])]
noncomputable def prims : List (Nat × (List SV → Option (List PV))) := [(29, primReadInt), (67, primItoa)]
noncomputable def cfg : Cfg := ⟨Tryd.prog, asc tis, asc fns, realOf [], altsOf [] [], asc sigs, asc2 loops, fun _ _ => .no, asc prims⟩
theorem fns_ok : FnsOK Tryd.prog [] fns := ⟨Tryd.func3, Tryd.func5, Tryd.func6, Tryd.func7, Tryd.func8, Tryd.func12, Tryd.func13, Tryd.func14, Tryd.func15, Tryd.func16, Tryd.func17, Tryd.func22, Tryd.func23, Tryd.func24, Tryd.func25, Tryd.func26, Tryd.func27, Tryd.func28, Tryd.func29, Tryd.func30, Tryd.func31, Tryd.func40, Tryd.func41, Tryd.func42, Tryd.func43, Tryd.func46, Tryd.func55, Tryd.func67, trivial⟩
theorem cfg_ok : cfg.OK := Cfg.OK.of (C := cfg) (tis := tis) (fns := fns) (sigs := sigs) (rl := []) (al := []) rfl rfl rfl rfl rfl (by kernel_rfl) fns_ok (by kernel_rfl) (by kernel_rfl) (by kernel_rfl)
/-- The text of a loop; slots. -/
noncomputable abbrev LA (f : Nat) (F : Func) (p : List Nat) (s : St) := LpAt cfg f (F.body.getD .skip) F.results.toList ((asc sigs f).getD ⟨[], [], []⟩) p s
abbrev vI (k : Nat) (n : Int) : Nat × SV := (k, .v (.int .i64 n))
abbrev vL (k : Nat) (e : Ty) (l : List e.den) : Nat × SV := (k, .v (.list e l))
abbrev vP (k p : Nat) : Nat × SV := (k, .v (.ptr p (.at 0)))
end Go.Proofs.YtoikigjhiohopaaDoor.S
