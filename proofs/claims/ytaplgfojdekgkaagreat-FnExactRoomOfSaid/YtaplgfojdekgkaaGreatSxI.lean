import Derived.Test.YtaplgfojdekgkaaGreatSxIb
import Derived.Test.YtaplgfojdekgkaaGreatProg
namespace Go.Proofs.YtaplgfojdekgkaaGreat.S
open Go.Ps
set_option linter.unusedVariables false
set_option maxRecDepth 100000
set_option maxHeartbeats 0
noncomputable def Z0 (a0 : List D0) (a1 : D9) (a2 : D10) (a3 : Int) : Option (List D0 × Int) := Den cfg 144 [.v (.list Y2 a0), .agg [.str a1.1, .int .i64 a1.2.1, .list Y6 a1.2.2.1, .list (.pair .str .str) a1.2.2.2.1, .list Y7 a1.2.2.2.2.1, .list (.pair (.int .i64) .bool) a1.2.2.2.2.2], .agg [.list (.int .i64) a2.1, .list .str a2.2.1, .list (.int .i64) a2.2.2.1, .list .str a2.2.2.2], .v (.int .i64 a3)]
theorem Z0_eq (a0 : List D0) (a1 : D9) (a2 : D10) (a3 : Int) : Z0 a0 a1 a2 a3 = bif (decide ((a0.length : Int) > 4096)) then some ([], 2) else (joinB (fun kr13 => (Z7x a0).bind fun r1 => bif (!r1) then kr13 true else ((Z7k a1).bind fun r2 => bif (!r2) then kr13 true else ((Z8d a2 a1).bind fun r3 => bif (!r3) then kr13 true else ((Z64 a3 1 6).bind fun r4 => kr13 (!r4))))) fun (r10 : Bool) => bif r10 then some ([], 1) else ((Z8e a0 a1 a2 a3).bind fun r11 => (Z7x r11).bind fun r12 => bif (!r12) then some ([], 24) else some (r11, 0))) :=
  (Den_eq cfg 144 _).trans (by kernel_rfl)
noncomputable def Z1 (a0 : D1) (a1 : Int) : Option Bool := Den cfg 300 [.agg [.int .i64 a0.1, .int .i64 a0.2.1, .str a0.2.2], .v (.cptr (.int .i64) a1 0)]
theorem Z1_eq (a0 : D1) (a1 : Int) : Z1 a0 a1 = (Z64 a1 a0.1 (IntKind.wrap .i64 ((IntKind.wrap .i64 (a0.1 + 128)) - 1))).bind fun r1 => some r1 :=
  (Den_eq cfg 300 _).trans (by kernel_rfl)
noncomputable def Z2 (c1_0 : Int) (a0 : List D1) : Option Int := Den cfg 299 [.v (.list Y0 a0), .v (.fn 300 [.cref (.int .i64) c1_0])]
noncomputable def Z2.a (c1_0 : Int) (x0 : List D1) (x7 x8 : Int) : Option Int := LA 299 Tryz.f299 [1, 0, 1, 0] ⟨19, assocSV [vL 0 Y0 x0, (1, .v (.fn 300 [.cref (.int .i64) c1_0])), vI 7 x7, vI 8 x8], assocB []⟩
theorem Z2_eq (c1_0 : Int) (a0 : List D1) : Z2 c1_0 a0 = Z2.a c1_0 a0 (a0.length : Int) 0 :=
  (Den_eq cfg 299 _).trans (by kernel_rfl)
theorem Z2.a_eq (c1_0 : Int) (x0 : List D1) (x7 x8 : Int) : Z2.a c1_0 x0 x7 x8 = bif (decide (x8 < x7)) then (bif (inL x8 (x0.length)) then ((Z1 (rd (τ := Y0) x0 x8) c1_0).bind fun r1 => bif r1 then some x8 else Z2.a c1_0 x0 x7 (IntKind.wrap .i64 (x8 + 1))) else none) else some (-1) :=
  (Lp_eq cfg 299 _ _ _).trans (by kernel_rfl)
noncomputable def Z3 (a0 : List D1) (a1 : Int) : Option Int := Den cfg 267 [.agg [.list Y0 a0], .v (.int .i64 a1)]
theorem Z3_eq (a0 : List D1) (a1 : Int) : Z3 a0 a1 = (Z2 a1 a0).bind fun r1 => some r1 :=
  (Den_eq cfg 267 _).trans (by kernel_rfl)
noncomputable def Z4 (a0 : List D1) (a1 a2 : Int) : Option ByteArray := Den cfg 218 [.agg [.list Y0 a0], .v (.int .i64 a1), .v (.int .i64 a2)]
noncomputable def Z4.a (x1 x2 : Int) (x3 : List D1) (x7 : List Int) (x8 : Int) : Option ByteArray := LA 218 Tryz.f218 [1, 1, 0, 1, 0] ⟨37, assocSV [vI 1 x1, vI 2 x2, vP 3 447, (7, .v (.own 928)), vI 8 x8], assocB [(447, .box [.list Y0 x3]), (928, .rows 5 (.int .u8) .no x7)]⟩
theorem Z4_eq (a0 : List D1) (a1 a2 : Int) : Z4 a0 a1 a2 = Z4.a a1 a2 a0 [] a1 :=
  (Den_eq cfg 218 _).trans (by kernel_rfl)
theorem Z4.a_eq (x1 x2 : Int) (x3 : List D1) (x7 : List Int) (x8 : Int) : Z4.a x1 x2 x3 x7 x8 = bif (decide (x8 < (IntKind.wrap .i64 (x1 + x2)))) then ((Z3 x3 x8).bind fun r1 => bif (inL r1 (x3.length)) then (bif (inL (IntKind.wrap .i64 (x8 - (rd (τ := Y0) x3 r1).1)) ((rd (τ := Y0) x3 r1).2.2).size) then (bif (roomB ((x7.length) + ([(bt ((rd (τ := Y0) x3 r1).2.2) (IntKind.wrap .i64 (x8 - (rd (τ := Y0) x3 r1).1)))].length)) 1) then Z4.a x1 x2 x3 (x7 ++ [(bt ((rd (τ := Y0) x3 r1).2.2) (IntKind.wrap .i64 (x8 - (rd (τ := Y0) x3 r1).1)))]) (IntKind.wrap .i64 (x8 + 1)) else none) else none) else none) else some (bytesOf x7) :=
  (Lp_eq cfg 218 _ _ _).trans (by kernel_rfl)
noncomputable def Z5 (a0 : List D1) (a1 : List D0) (a2 : D9) (a3 : D10) : Option D19 := Den cfg 146 [.agg [.list Y0 a0], .v (.list Y2 a1), .agg [.str a2.1, .int .i64 a2.2.1, .list Y6 a2.2.2.1, .list (.pair .str .str) a2.2.2.2.1, .list Y7 a2.2.2.2.2.1, .list (.pair (.int .i64) .bool) a2.2.2.2.2.2], .agg [.list (.int .i64) a3.1, .list .str a3.2.1, .list (.int .i64) a3.2.2.1, .list .str a3.2.2.2]]
noncomputable def Z5.a (x1 : List D0) (x4 : List D1) (x6 : D9) (x7 : D10) (x8 : List D1) (x10 : List (Int × Int)) (x17 x18 : Int) : Option D19 := LA 146 Tryz.f146 [1, 1, 0, 1, 0] ⟨78, assocSV [vL 1 Y2 x1, vP 4 575, vP 6 831, vP 7 959, vP 8 1087, (10, .v (.own 1312)), vI 17 x17, vI 18 x18], assocB [(575, .box [.list Y0 x4]), (831, .box [.str x6.1, .int .i64 x6.2.1, .list Y6 x6.2.2.1, .list (.pair .str .str) x6.2.2.2.1, .list Y7 x6.2.2.2.2.1, .list (.pair (.int .i64) .bool) x6.2.2.2.2.2]), (959, .box [.list (.int .i64) x7.1, .list .str x7.2.1, .list (.int .i64) x7.2.2.1, .list .str x7.2.2.2]), (1056, .rows 157 Y0 .no x8), (1087, .box [.own 1056]), (1312, .rows 174 Y10 .no x10)]⟩
noncomputable def Z5.b (x1 : List D0) (x4 : List D1) (x7 : D10) (x8 : List D1) (x10 : List (Int × Int)) (x35 : List D6) (x36 x37 : Int) : Option D19 := LA 146 Tryz.f146 [1, 1, 1, 0, 1, 0] ⟨78, assocSV [vL 1 Y2 x1, vP 4 575, vP 7 959, vP 8 1087, (10, .v (.own 1312)), vL 35 Y6 x35, vI 36 x36, vI 37 x37], assocB [(575, .box [.list Y0 x4]), (959, .box [.list (.int .i64) x7.1, .list .str x7.2.1, .list (.int .i64) x7.2.2.1, .list .str x7.2.2.2]), (1056, .rows 157 Y0 .no x8), (1087, .box [.own 1056]), (1312, .rows 174 Y10 .no x10)]⟩
theorem Z5_eq (a0 : List D1) (a1 : List D0) (a2 : D9) (a3 : D10) : Z5 a0 a1 a2 a3 = Z5.a a1 a0 a2 a3 [] [] (a2.2.2.1.length : Int) 0 :=
  (Den_eq cfg 146 _).trans (by kernel_rfl)
theorem Z5.a_eq (x1 : List D0) (x4 : List D1) (x6 : D9) (x7 : D10) (x8 : List D1) (x10 : List (Int × Int)) (x17 x18 : Int) : Z5.a x1 x4 x6 x7 x8 x10 x17 x18 = bif (decide (x18 < x17)) then (bif (inL x18 (x7.1.length)) then (bif (inL x18 (x7.2.1.length)) then ((Z77 x4 (rd (τ := (.int .i64)) x7.1 x18) (rd (τ := .str) x7.2.1 x18)).bind fun r1 => Z5.a x1 r1 x6 x7 x8 x10 x17 (IntKind.wrap .i64 (x18 + 1))) else none) else none) else Z5.b x1 x4 x7 x8 x10 x6.2.2.1 (x6.2.2.1.length : Int) 0 :=
  (Lp_eq cfg 146 _ _ _).trans (by kernel_rfl)
theorem Z5.b_eq (x1 : List D0) (x4 : List D1) (x7 : D10) (x8 : List D1) (x10 : List (Int × Int)) (x35 : List D6) (x36 x37 : Int) : Z5.b x1 x4 x7 x8 x10 x35 x36 x37 = bif (decide (x37 < x36)) then (bif (inL x37 (x35.length)) then (bif (!(rd (τ := Y6) x35 x37).2.1) then Z5.b x1 x4 x7 x8 x10 x35 x36 (IntKind.wrap .i64 (x37 + 1)) else ((Z7v x1 ((rd (τ := Y6) x35 x37).1)).bind fun r2 => bif (inL r2 (x1.length)) then ((Z4 x4 ((rd (τ := Y2) x1 r2).2.2.1) 4).bind fun r3 => (Z6f r3).bind fun r4 => bif (roomB ((x10.length) + ([((rd (τ := Y2) x1 r2).2.2.1, r4)].length)) 16) then (bif (inL x37 (x7.1.length)) then ((Z6l (3, 0, 0, 0, (IntKind.wrap .i64 ((rd (τ := (.int .i64)) x7.1 x37) - (rd (τ := Y2) x1 r2).2.2.1)))).bind fun r5 => (Z81 r5 4).bind fun r6 => (Z77 x4 ((rd (τ := Y2) x1 r2).2.2.1) r6).bind fun r7 => Z5.b x1 r7 x7 x8 (x10 ++ [((rd (τ := Y2) x1 r2).2.2.1, r4)]) x35 x36 (IntKind.wrap .i64 (x37 + 1))) else none) else none) else none)) else none) else some (x4, x10) :=
  (Lp_eq cfg 146 _ _ _).trans (by kernel_rfl)
noncomputable def Z6 (a0 : D24) (a1 : D9) (a2 : Int) : Option D27 := Den cfg 79 [.agg [.list Y2 a0.1, .list Y12 a0.2.1, .list Y0 a0.2.2.1, .int .i64 a0.2.2.2.1.1, .int .i64 a0.2.2.2.1.2.1, .int .i64 a0.2.2.2.1.2.2, .int .i64 a0.2.2.2.2.1, .int .i64 a0.2.2.2.2.2.1, .int .i64 a0.2.2.2.2.2.2], .agg [.str a1.1, .int .i64 a1.2.1, .list Y6 a1.2.2.1, .list (.pair .str .str) a1.2.2.2.1, .list Y7 a1.2.2.2.2.1, .list (.pair (.int .i64) .bool) a1.2.2.2.2.2], .v (.int .i64 a2)]
noncomputable def Z6.a (x0 : D24) (x2 : Int) (x4 : D9) (x6 x9 : D10) (x69 : List D6) (x70 x71 : Int) : Option D27 := LA 79 Tryz.f79 [1, 1, 1, 1, 1, 1, 0, 1, 0] ⟨119, assocSV [(13, .v (.own 32)), vP 0 127, vI 2 x2, vP 4 575, vP 6 831, vP 9 1215, vL 69 Y6 x69, vI 70 x70, vI 71 x71], assocB [(32, .rows 119 Y2 .no x0.1), (33, .rows 221 Y12 .no x0.2.1), (127, .box [.own 32, .own 33, .list Y0 x0.2.2.1, .int .i64 x0.2.2.2.1.1, .int .i64 x0.2.2.2.1.2.1, .int .i64 x0.2.2.2.1.2.2, .int .i64 x0.2.2.2.2.1, .int .i64 x0.2.2.2.2.2.1, .int .i64 x0.2.2.2.2.2.2]), (575, .box [.str x4.1, .int .i64 x4.2.1, .list Y6 x4.2.2.1, .list (.pair .str .str) x4.2.2.2.1, .list Y7 x4.2.2.2.2.1, .list (.pair (.int .i64) .bool) x4.2.2.2.2.2]), (800, .rows 3 (.int .i64) .no x6.1), (801, .rows 9 .str .no x6.2.1), (802, .rows 3 (.int .i64) .no x6.2.2.1), (803, .rows 9 .str .no x6.2.2.2), (831, .box [.own 800, .own 801, .own 802, .own 803]), (1184, .rows 3 (.int .i64) .no x9.1), (1185, .rows 9 .str .no x9.2.1), (1186, .rows 3 (.int .i64) .no x9.2.2.1), (1187, .rows 9 .str .no x9.2.2.2), (1215, .box [.own 1184, .own 1185, .own 1186, .own 1187])]⟩
theorem Z6_eq (a0 : D24) (a1 : D9) (a2 : Int) : Z6 a0 a1 a2 = (Z8c a0.1 a0.2.2.2.1 a0.2.2.2.2 a1).bind fun r1 => bif (!decide (r1.2.2.2 = 0)) then some (([], [], [], []), [], r1.2.2.2, a0) else ((Z0 a0.1 a1 r1.1 a2).bind fun r2 => bif (!decide (r2.2 = 0)) then some (([], [], [], []), [], r2.2, a0) else Z6.a (r2.1, a0.2.1, a0.2.2.1, r1.2.1, r1.2.2.1) a2 a1 ([], [], [], []) r1.1 a1.2.2.1 (a1.2.2.1.length : Int) 0) :=
  (Den_eq cfg 79 _).trans (by kernel_rfl)
theorem Z6.a_eq (x0 : D24) (x2 : Int) (x4 : D9) (x6 x9 : D10) (x69 : List D6) (x70 x71 : Int) : Z6.a x0 x2 x4 x6 x9 x69 x70 x71 = bif (decide (x71 < x70)) then (bif (inL x71 (x69.length)) then ((Z7v x0.1 ((rd (τ := Y6) x69 x71).1)).bind fun r4 => bif (inL x71 (x9.1.length)) then (bif (roomB ((x0.2.1.length) + ([(r4, x2, (rd (τ := (.int .i64)) x9.1 x71), (((rd (τ := Y6) x69 x71).2.2.2).size : Int), (rd (τ := Y6) x69 x71).2.2.1)].length)) 40) then Z6.a (x0.1, (x0.2.1 ++ [(r4, x2, (rd (τ := (.int .i64)) x9.1 x71), (((rd (τ := Y6) x69 x71).2.2.2).size : Int), (rd (τ := Y6) x69 x71).2.2.1)]), x0.2.2) x2 x4 x6 x9 x69 x70 (IntKind.wrap .i64 (x71 + 1)) else none) else none) else none) else ((Z5 x0.2.2.1 x0.1 x4 x9).bind fun r3 => some (x9, r3.2, 0, x0.1, x0.2.1, r3.1, x0.2.2.2)) :=
  (Lp_eq cfg 79 _ _ _).trans (by kernel_rfl)
noncomputable def Z7 (a0 a1 : List Int) : Option Bool := Den cfg 147 [.v (.list (.int .i64) a0), .v (.list (.int .i64) a1)]
noncomputable def Z7.a (x0 x1 : List Int) (x12 x13 : Int) : Option Bool := LA 147 Tryz.f147 [1, 1, 0, 1, 0] ⟨26, assocSV [vL 0 (.int .i64) x0, vL 1 (.int .i64) x1, vI 12 x12, vI 13 x13], assocB []⟩
theorem Z7_eq (a0 a1 : List Int) : Z7 a0 a1 = bif (!decide ((a0.length : Int) = (a1.length : Int))) then some false else Z7.a a0 a1 (a0.length : Int) 0 :=
  (Den_eq cfg 147 _).trans (by kernel_rfl)
theorem Z7.a_eq (x0 x1 : List Int) (x12 x13 : Int) : Z7.a x0 x1 x12 x13 = bif (decide (x13 < x12)) then (bif (inL x13 (x0.length)) then (bif (inL x13 (x1.length)) then (bif (!decide ((rd (τ := (.int .i64)) x0 x13) = (rd (τ := (.int .i64)) x1 x13))) then some false else Z7.a x0 x1 x12 (IntKind.wrap .i64 (x13 + 1))) else none) else none) else some true :=
  (Lp_eq cfg 147 _ _ _).trans (by kernel_rfl)
noncomputable def Z8 (a0 a1 : List ByteArray) : Option Bool := Den cfg 148 [.v (.list .str a0), .v (.list .str a1)]
noncomputable def Z8.a (x0 x1 : List ByteArray) (x12 x13 : Int) : Option Bool := LA 148 Tryz.f148 [1, 1, 0, 1, 0] ⟨26, assocSV [vL 0 .str x0, vL 1 .str x1, vI 12 x12, vI 13 x13], assocB []⟩
theorem Z8_eq (a0 a1 : List ByteArray) : Z8 a0 a1 = bif (!decide ((a0.length : Int) = (a1.length : Int))) then some false else Z8.a a0 a1 (a0.length : Int) 0 :=
  (Den_eq cfg 148 _).trans (by kernel_rfl)
theorem Z8.a_eq (x0 x1 : List ByteArray) (x12 x13 : Int) : Z8.a x0 x1 x12 x13 = bif (decide (x13 < x12)) then (bif (inL x13 (x0.length)) then (bif (inL x13 (x1.length)) then (bif (!strEq (rd (τ := .str) x0 x13) (rd (τ := .str) x1 x13)) then some false else Z8.a x0 x1 x12 (IntKind.wrap .i64 (x13 + 1))) else none) else none) else some true :=
  (Lp_eq cfg 148 _ _ _).trans (by kernel_rfl)
noncomputable def Z9 (a0 a1 : D10) : Option Bool := Den cfg 80 [.agg [.list (.int .i64) a0.1, .list .str a0.2.1, .list (.int .i64) a0.2.2.1, .list .str a0.2.2.2], .agg [.list (.int .i64) a1.1, .list .str a1.2.1, .list (.int .i64) a1.2.2.1, .list .str a1.2.2.2]]
theorem Z9_eq (a0 a1 : D10) : Z9 a0 a1 = (Z7 a0.1 a1.1).bind fun r1 => bif r1 then ((Z8 a0.2.1 a1.2.1).bind fun r2 => bif r2 then ((Z7 a0.2.2.1 a1.2.2.1).bind fun r3 => bif r3 then ((Z8 a0.2.2.2 a1.2.2.2).bind fun r4 => some r4) else some false) else some false) else some false :=
  (Den_eq cfg 80 _).trans (by kernel_rfl)
noncomputable def Za (a0 a1 : List (Int × Int)) : Option Bool := Den cfg 81 [.v (.list Y10 a0), .v (.list Y10 a1)]
noncomputable def Za.a (x0 x1 : List (Int × Int)) (x12 x13 : Int) : Option Bool := LA 81 Tryz.f81 [1, 1, 0, 1, 0] ⟨26, assocSV [vL 0 Y10 x0, vL 1 Y10 x1, vI 12 x12, vI 13 x13], assocB []⟩
theorem Za_eq (a0 a1 : List (Int × Int)) : Za a0 a1 = bif (!decide ((a0.length : Int) = (a1.length : Int))) then some false else Za.a a0 a1 (a0.length : Int) 0 :=
  (Den_eq cfg 81 _).trans (by kernel_rfl)
theorem Za.a_eq (x0 x1 : List (Int × Int)) (x12 x13 : Int) : Za.a x0 x1 x12 x13 = bif (decide (x13 < x12)) then (bif (inL x13 (x0.length)) then (bif (inL x13 (x1.length)) then (bif (!(eqD Y10 (rd (τ := Y10) x0 x13) (rd (τ := Y10) x1 x13))) then some false else Za.a x0 x1 x12 (IntKind.wrap .i64 (x13 + 1))) else none) else none) else some true :=
  (Lp_eq cfg 81 _ _ _).trans (by kernel_rfl)
noncomputable def Zb (a0 : D3) (a1 : List D11) (a2 : Bool) : Option (D24 × Bool) := Den cfg 38 [.agg [.str a0.1, .str a0.2.1, .list Y5 a0.2.2], .v (.list Y11 a1), .v (.bool a2)]
noncomputable def Zb.a (x1 : List D11) (x2 : Bool) (x6 x8 : D24) (x27 : List D11) (x28 x29 : Int) : Option (D24 × Bool) := LA 38 Tryz.f38 [1, 1, 1, 0, 1, 0] ⟨100, assocSV [vL 1 Y11 x1, (2, .v (.bool x2)), vP 6 831, vP 8 1087, vL 27 Y11 x27, vI 28 x28, vI 29 x29], assocB [(800, .rows 119 Y2 .no x6.1), (801, .rows 221 Y12 .no x6.2.1), (802, .rows 157 Y0 .no x6.2.2.1), (831, .box [.own 800, .own 801, .own 802, .int .i64 x6.2.2.2.1.1, .int .i64 x6.2.2.2.1.2.1, .int .i64 x6.2.2.2.1.2.2, .int .i64 x6.2.2.2.2.1, .int .i64 x6.2.2.2.2.2.1, .int .i64 x6.2.2.2.2.2.2]), (1056, .rows 221 Y12 .no x8.2.1), (1087, .box [.list Y2 x8.1, .own 1056, .list Y0 x8.2.2.1, .int .i64 x8.2.2.2.1.1, .int .i64 x8.2.2.2.1.2.1, .int .i64 x8.2.2.2.1.2.2, .int .i64 x8.2.2.2.2.1, .int .i64 x8.2.2.2.2.2.1, .int .i64 x8.2.2.2.2.2.2])]⟩
noncomputable def Zb.b (x1 : List D11) (x2 : Bool) (x6 x8 : D24) (x9 : Int) (x10 : D11) (x27 : List D11) (x28 x29 : Int) (x48 : List D11) (x49 x50 : Int) : Option (D24 × Bool) := LA 38 Tryz.f38 [1, 1, 1, 0, 1, 0, 0, 1, 1, 0, 0, 1, 1, 0, 1, 0] ⟨100, assocSV [vL 1 Y11 x1, (2, .v (.bool x2)), vP 6 831, vP 8 1087, vI 9 x9, vP 10 1343, vL 27 Y11 x27, vI 28 x28, vI 29 x29, vL 48 Y11 x48, vI 49 x49, vI 50 x50], assocB [(800, .rows 119 Y2 .no x6.1), (801, .rows 221 Y12 .no x6.2.1), (802, .rows 157 Y0 .no x6.2.2.1), (831, .box [.own 800, .own 801, .own 802, .int .i64 x6.2.2.2.1.1, .int .i64 x6.2.2.2.1.2.1, .int .i64 x6.2.2.2.1.2.2, .int .i64 x6.2.2.2.2.1, .int .i64 x6.2.2.2.2.2.1, .int .i64 x6.2.2.2.2.2.2]), (1056, .rows 221 Y12 .no x8.2.1), (1087, .box [.list Y2 x8.1, .own 1056, .list Y0 x8.2.2.1, .int .i64 x8.2.2.2.1.1, .int .i64 x8.2.2.2.1.2.1, .int .i64 x8.2.2.2.1.2.2, .int .i64 x8.2.2.2.2.1, .int .i64 x8.2.2.2.2.2.1, .int .i64 x8.2.2.2.2.2.2]), (1343, .box [.str x10.1.1, .int .i64 x10.1.2.1, .list Y6 x10.1.2.2.1, .list (.pair .str .str) x10.1.2.2.2.1, .list Y7 x10.1.2.2.2.2.1, .list (.pair (.int .i64) .bool) x10.1.2.2.2.2.2, .list (.int .i64) x10.2.1.1, .list .str x10.2.1.2.1, .list (.int .i64) x10.2.1.2.2.1, .list .str x10.2.1.2.2.2, .list Y10 x10.2.2])]⟩
theorem Zb_eq (a0 : D3) (a1 : List D11) (a2 : Bool) : Zb a0 a1 a2 = joinB (fun kr5 => (Z73 a0).bind fun r1 => bif (!r1) then kr5 true else kr5 (decide ((a1.length : Int) > 6))) fun (r3 : Bool) => bif r3 then some (([], [], [], (0, 0, 0), 0, 0, 0), false) else ((Z7c a0).bind fun r4 => Zb.a a1 a2 ([], [], [], (0, 0, 0), 0, 0, 0) r4 a1 (a1.length : Int) 0) :=
  (Den_eq cfg 38 _).trans (by kernel_rfl)
theorem Zb.a_eq (x1 : List D11) (x2 : Bool) (x6 x8 : D24) (x27 : List D11) (x28 x29 : Int) : Zb.a x1 x2 x6 x8 x27 x28 x29 = bif (decide (x29 < x28)) then (bif (inL x29 (x27.length)) then (joinB (fun kr9 => (Z7k ((rd (τ := Y11) x27 x29).1)).bind fun r6 => bif (!r6) then kr9 true else kr9 (!decide ((rd (τ := Y11) x27 x29).1.2.1 = x29))) fun (r8 : Bool) => bif r8 then some (([], [], [], (0, 0, 0), 0, 0, 0), false) else (bif (decide (0 ≤ 0) && decide (0 ≤ x29) && decide (x29 ≤ (x1.length : Int))) then Zb.b x1 x2 x6 x8 x29 (rd (τ := Y11) x27 x29) x27 x28 x29 ((x1.take (Int.toNat x29)).drop (Int.toNat 0)) (((x1.take (Int.toNat x29)).drop (Int.toNat 0)).length : Int) 0 else none)) else none) else some (x8, true) :=
  (Lp_eq cfg 38 _ _ _).trans (by kernel_rfl)
theorem Zb.b_eq (x1 : List D11) (x2 : Bool) (x6 x8 : D24) (x9 : Int) (x10 : D11) (x27 : List D11) (x28 x29 : Int) (x48 : List D11) (x49 x50 : Int) : Zb.b x1 x2 x6 x8 x9 x10 x27 x28 x29 x48 x49 x50 = bif (decide (x50 < x49)) then (bif (inL x50 (x48.length)) then (bif (strEq ((rd (τ := Y11) x48 x50).1.1) x10.1.1) then some (([], [], [], (0, 0, 0), 0, 0, 0), false) else ((Z7s ((rd (τ := Y11) x48 x50).1) x10.1).bind fun r25 => bif r25 then some (([], [], [], (0, 0, 0), 0, 0, 0), false) else Zb.b x1 x2 x6 x8 x9 x10 x27 x28 x29 x48 x49 (IntKind.wrap .i64 (x50 + 1)))) else none) else ((Z6 x8 x10.1 (IntKind.wrap .i64 (x9 + 1))).bind fun r10 => bif (!x2) then (joinB (fun kr17 => bif (!decide (r10.2.2.1 = 0)) then kr17 true else ((Z9 r10.1 x10.2.1).bind fun r11 => bif (!r11) then kr17 true else ((Za [] x10.2.2).bind fun r12 => kr17 (!r12)))) fun (r16 : Bool) => bif r16 then some (([], [], [], (0, 0, 0), 0, 0, 0), false) else Zb.a x1 x2 x6 r10.2.2.2 x27 x28 (IntKind.wrap .i64 (x29 + 1))) else (joinB (fun kr24 => bif (!decide (r10.2.2.1 = 0)) then kr24 true else ((Z9 r10.1 x10.2.1).bind fun r18 => bif (!r18) then kr24 true else ((Za r10.2.1 x10.2.2).bind fun r19 => kr24 (!r19)))) fun (r23 : Bool) => bif r23 then some (([], [], [], (0, 0, 0), 0, 0, 0), false) else Zb.a x1 x2 x6 r10.2.2.2 x27 x28 (IntKind.wrap .i64 (x29 + 1)))) :=
  (Lp_eq cfg 38 _ _ _).trans (by kernel_rfl)
noncomputable def Zc (a0 : Int) : Option Bool := Den cfg 149 [.v (.int .i64 a0)]
theorem Zc_eq (a0 : Int) : Zc a0 = (Z64 a0 0 1048575).bind fun r1 => bif r1 then some (decide ((a0.tmod 128) = 0)) else some false :=
  (Den_eq cfg 149 _).trans (by kernel_rfl)
noncomputable def Zd (a0 : Int) : Option Bool := Den cfg 150 [.v (.int .i64 a0)]
theorem Zd_eq (a0 : Int) : Zd a0 = (Z64 a0 0 15).bind fun r1 => some r1 :=
  (Den_eq cfg 150 _).trans (by kernel_rfl)
noncomputable def Ze (a0 : List D1) : Option Bool := Den cfg 82 [.agg [.list Y0 a0]]
noncomputable def Ze.a (x1 x10 : List D1) (x11 x12 : Int) : Option Bool := LA 82 Tryz.f82 [1, 1, 0, 1, 0] ⟨50, assocSV [vP 1 191, vL 10 Y0 x10, vI 11 x11, vI 12 x12], assocB [(191, .box [.list Y0 x1])]⟩
theorem Ze_eq (a0 : List D1) : Ze a0 = bif (decide ((a0.length : Int) > 64)) then some false else Ze.a a0 a0 (a0.length : Int) 0 :=
  (Den_eq cfg 82 _).trans (by kernel_rfl)
theorem Ze.a_eq (x1 x10 : List D1) (x11 x12 : Int) : Ze.a x1 x10 x11 x12 = bif (decide (x12 < x11)) then (bif (inL x12 (x10.length)) then ((Zc ((rd (τ := Y0) x10 x12).1)).bind fun r1 => bif (!r1) then some false else ((Zd ((rd (τ := Y0) x10 x12).2.1)).bind fun r2 => bif (!r2) then some false else (bif (!decide ((((rd (τ := Y0) x10 x12).2.2).size : Int) = 128)) then some false else (bif (decide (x12 > 0)) then (bif (inL (IntKind.wrap .i64 (x12 - 1)) (x1.length)) then (bif (decide ((rd (τ := Y0) x1 (IntKind.wrap .i64 (x12 - 1))).1 ≥ (rd (τ := Y0) x10 x12).1)) then some false else Ze.a x1 x10 x11 (IntKind.wrap .i64 (x12 + 1))) else none) else Ze.a x1 x10 x11 (IntKind.wrap .i64 (x12 + 1)))))) else none) else some true :=
  (Lp_eq cfg 82 _ _ _).trans (by kernel_rfl)
noncomputable def Zf (a0 : List Int) : Option Int := Den cfg 222 [.v (.list (.int .i64) a0)]
noncomputable def Zf.a (x3 : Int) (x6 : List Int) (x7 x8 : Int) : Option Int := LA 222 Tryz.f222 [1, 1, 0, 1, 0] ⟨18, assocSV [vI 3 x3, vL 6 (.int .i64) x6, vI 7 x7, vI 8 x8], assocB []⟩
theorem Zf_eq (a0 : List Int) : Zf a0 = Zf.a 0 a0 (a0.length : Int) 0 :=
  (Den_eq cfg 222 _).trans (by kernel_rfl)
theorem Zf.a_eq (x3 : Int) (x6 : List Int) (x7 x8 : Int) : Zf.a x3 x6 x7 x8 = bif (decide (x8 < x7)) then (bif (inL x8 (x6.length)) then (bif (!decide ((rd (τ := (.int .i64)) x6 x8) = x3)) then some (rd (τ := (.int .i64)) x6 x8) else Zf.a x3 x6 x7 (IntKind.wrap .i64 (x8 + 1))) else none) else some x3 :=
  (Lp_eq cfg 222 _ _ _).trans (by kernel_rfl)
noncomputable def Zg (a0 : Int) : Option Bool := Den cfg 272 [.v (.int .i64 a0)]
theorem Zg_eq (a0 : Int) : Zg a0 = some (!decide (a0 = a0)) :=
  (Den_eq cfg 272 _).trans (by kernel_rfl)
noncomputable def Zh (a0 a1 : Int) : Option Int := Den cfg 223 [.v (.int .i64 a0), .v (.int .i64 a1)]
theorem Zh_eq (a0 a1 : Int) : Zh a0 a1 = (Zg a0).bind fun r1 => (Zg a1).bind fun r2 => bif r1 then (bif r2 then some 0 else some (-1)) else (bif r2 then some 1 else (bif (decide (a0 < a1)) then some (-1) else (bif (decide (a0 > a1)) then some 1 else some 0))) :=
  (Den_eq cfg 223 _).trans (by kernel_rfl)
noncomputable def Zi (a0 a1 : Int × Int × Int) : Option Int := Den cfg 153 [.agg [.int .i64 a0.1, .int .i64 a0.2.1, .int .i64 a0.2.2], .agg [.int .i64 a1.1, .int .i64 a1.2.1, .int .i64 a1.2.2]]
theorem Zi_eq (a0 a1 : Int × Int × Int) : Zi a0 a1 = (Zh a0.1 a1.1).bind fun r1 => (Zh a0.2.1 a1.2.1).bind fun r2 => (Zf [r1, r2]).bind fun r3 => some r3 :=
  (Den_eq cfg 153 _).trans (by kernel_rfl)
noncomputable def Zj (a0 : List (Int × Int × Int)) : Option Bool := Den cfg 84 [.v (.list Y1 a0)]
noncomputable def Zj.a (x0 x8 : List (Int × Int × Int)) (x9 x10 : Int) : Option Bool := LA 84 Tryz.f84 [1, 1, 0, 1, 0] ⟨34, assocSV [vL 0 Y1 x0, vL 8 Y1 x8, vI 9 x9, vI 10 x10], assocB []⟩
theorem Zj_eq (a0 : List (Int × Int × Int)) : Zj a0 = bif (decide ((a0.length : Int) > 16)) then some false else Zj.a a0 a0 (a0.length : Int) 0 :=
  (Den_eq cfg 84 _).trans (by kernel_rfl)
theorem Zj.a_eq (x0 x8 : List (Int × Int × Int)) (x9 x10 : Int) : Zj.a x0 x8 x9 x10 = bif (decide (x10 < x9)) then (bif (inL x10 (x8.length)) then ((Z64 ((rd (τ := Y1) x8 x10).2.1) 0 255).bind fun r1 => bif (!r1) then some false else (bif (decide (x10 > 0)) then (bif (inL (IntKind.wrap .i64 (x10 - 1)) (x0.length)) then ((Zi (rd (τ := Y1) x0 (IntKind.wrap .i64 (x10 - 1))) (rd (τ := Y1) x8 x10)).bind fun r2 => bif (decide (r2 ≥ 0)) then some false else Zj.a x0 x8 x9 (IntKind.wrap .i64 (x10 + 1))) else none) else Zj.a x0 x8 x9 (IntKind.wrap .i64 (x10 + 1)))) else none) else some true :=
  (Lp_eq cfg 84 _ _ _).trans (by kernel_rfl)
noncomputable def Zk (a0 : List Int × Int) : Option Bool := Den cfg 225 [.agg [.seg (.int .i64) 32 a0.1, .int .i64 a0.2]]
theorem Zk_eq (a0 : List Int × Int) : Zk a0 = bif (inL 0 32) then some (decide ((rd (τ := (.int .i64)) a0.1 0) = 0)) else none :=
  (Den_eq cfg 225 _).trans (by kernel_rfl)
noncomputable def Zl (a0 : D4) : Option Bool := Den cfg 156 [.agg [.int .i64 a0.1, .seg (.int .i64) 32 a0.2.1.1, .int .i64 a0.2.1.2, .list (.int .i64) a0.2.2.1, .int .i64 a0.2.2.2]]
theorem Zl_eq (a0 : D4) : Zl a0 = joinB (fun kr11 => bif (decide (a0.1 = 3)) then ((Z64 a0.2.2.2 1 31).bind fun r1 => kr11 r1) else kr11 (decide (a0.2.2.2 = 0))) fun (r2 : Bool) => (Z64 a0.1 1 3).bind fun r3 => bif r3 then ((Zk a0.2.1).bind fun r4 => bif r4 then (bif (decide ((a0.2.2.1.length : Int) ≤ 32)) then some r2 else some false) else some false) else some false :=
  (Den_eq cfg 156 _).trans (by kernel_rfl)
noncomputable def Zm (a0 : D4) : Option Bool := Den cfg 155 [.agg [.int .i64 a0.1, .seg (.int .i64) 32 a0.2.1.1, .int .i64 a0.2.1.2, .list (.int .i64) a0.2.2.1, .int .i64 a0.2.2.2]]
theorem Zm_eq (a0 : D4) : Zm a0 = (Zl a0).bind fun r1 => some (!r1) :=
  (Den_eq cfg 155 _).trans (by kernel_rfl)
noncomputable def Zn (a0 : List D4) : Option Int := Den cfg 224 [.v (.list Y4 a0), .v (.fn 155 [])]
noncomputable def Zn.a (x0 : List D4) (x7 x8 : Int) : Option Int := LA 224 Tryz.f224 [1, 0, 1, 0] ⟨19, assocSV [vL 0 Y4 x0, (1, .v (.fn 155 [])), vI 7 x7, vI 8 x8], assocB []⟩
theorem Zn_eq (a0 : List D4) : Zn a0 = Zn.a a0 (a0.length : Int) 0 :=
  (Den_eq cfg 224 _).trans (by kernel_rfl)
theorem Zn.a_eq (x0 : List D4) (x7 x8 : Int) : Zn.a x0 x7 x8 = bif (decide (x8 < x7)) then (bif (inL x8 (x0.length)) then ((Zm (rd (τ := Y4) x0 x8)).bind fun r1 => bif r1 then some x8 else Zn.a x0 x7 (IntKind.wrap .i64 (x8 + 1))) else none) else some (-1) :=
  (Lp_eq cfg 224 _ _ _).trans (by kernel_rfl)
noncomputable def Zo (a0 : List D4) : Option Bool := Den cfg 154 [.v (.list Y4 a0), .v (.fn 155 [])]
theorem Zo_eq (a0 : List D4) : Zo a0 = (Zn a0).bind fun r1 => some (decide (r1 ≥ 0)) :=
  (Den_eq cfg 154 _).trans (by kernel_rfl)
noncomputable def Zp (a0 : List D4) : Option Bool := Den cfg 85 [.v (.list Y4 a0)]
theorem Zp_eq (a0 : List D4) : Zp a0 = (Z64 (a0.length : Int) 1 4).bind fun r1 => bif r1 then ((Zo a0).bind fun r2 => some (!r2)) else some false :=
  (Den_eq cfg 85 _).trans (by kernel_rfl)
noncomputable def Zq (a0 : D5) : Option Bool := Den cfg 39 [.agg [.list Y0 a0.1, .list Y4 a0.2.1, .list Y2 a0.2.2.1, .list Y1 a0.2.2.2]]
theorem Zq_eq (a0 : D5) : Zq a0 = (Ze a0.1).bind fun r1 => bif r1 then ((Z7x a0.2.2.1).bind fun r2 => bif r2 then ((Zj a0.2.2.2).bind fun r3 => bif r3 then ((Zp a0.2.1).bind fun r4 => some r4) else some false) else some false) else some false :=
  (Den_eq cfg 39 _).trans (by kernel_rfl)
noncomputable def Zr (a0 a1 : List D0) : Option Bool := Den cfg 40 [.v (.list Y2 a0), .v (.list Y2 a1)]
noncomputable def Zr.a (x0 x1 : List D0) (x12 x13 : Int) : Option Bool := LA 40 Tryz.f40 [1, 1, 0, 1, 0] ⟨26, assocSV [vL 0 Y2 x0, vL 1 Y2 x1, vI 12 x12, vI 13 x13], assocB []⟩
theorem Zr_eq (a0 a1 : List D0) : Zr a0 a1 = bif (!decide ((a0.length : Int) = (a1.length : Int))) then some false else Zr.a a0 a1 (a0.length : Int) 0 :=
  (Den_eq cfg 40 _).trans (by kernel_rfl)
theorem Zr.a_eq (x0 x1 : List D0) (x12 x13 : Int) : Zr.a x0 x1 x12 x13 = bif (decide (x13 < x12)) then (bif (inL x13 (x0.length)) then (bif (inL x13 (x1.length)) then (bif (!(eqD Y2 (rd (τ := Y2) x0 x13) (rd (τ := Y2) x1 x13))) then some false else Zr.a x0 x1 x12 (IntKind.wrap .i64 (x13 + 1))) else none) else none) else some true :=
  (Lp_eq cfg 40 _ _ _).trans (by kernel_rfl)
noncomputable def Zs (a0 a1 : D1) : Option Bool := Den cfg 87 [.agg [.int .i64 a0.1, .int .i64 a0.2.1, .str a0.2.2], .agg [.int .i64 a1.1, .int .i64 a1.2.1, .str a1.2.2]]
theorem Zs_eq (a0 a1 : D1) : Zs a0 a1 = bif (decide (a0.1 = a1.1)) then (bif (decide (a0.2.1 = a1.2.1)) then (bif (!decide (a0.2.1 = 4)) then some true else some (strEq a0.2.2 a1.2.2)) else some false) else some false :=
  (Den_eq cfg 87 _).trans (by kernel_rfl)
noncomputable def Zt (a0 a1 : List D1) : Option Bool := Den cfg 86 [.v (.list Y0 a0), .v (.list Y0 a1), .v (.fn 87 [])]
noncomputable def Zt.a (x1 x15 : List D1) (x16 x17 : Int) : Option Bool := LA 86 Tryz.f86 [1, 1, 0, 1, 0] ⟨32, assocSV [vL 1 Y0 x1, (2, .v (.fn 87 [])), vL 15 Y0 x15, vI 16 x16, vI 17 x17], assocB []⟩
theorem Zt_eq (a0 a1 : List D1) : Zt a0 a1 = bif (!decide ((a0.length : Int) = (a1.length : Int))) then some false else Zt.a a1 a0 (a0.length : Int) 0 :=
  (Den_eq cfg 86 _).trans (by kernel_rfl)
theorem Zt.a_eq (x1 x15 : List D1) (x16 x17 : Int) : Zt.a x1 x15 x16 x17 = bif (decide (x17 < x16)) then (bif (inL x17 (x15.length)) then (bif (inL x17 (x1.length)) then ((Zs (rd (τ := Y0) x15 x17) (rd (τ := Y0) x1 x17)).bind fun r1 => bif (!r1) then some false else Zt.a x1 x15 x16 (IntKind.wrap .i64 (x17 + 1))) else none) else none) else some true :=
  (Lp_eq cfg 86 _ _ _).trans (by kernel_rfl)
noncomputable def Zu (a0 a1 : List D1) : Option Bool := Den cfg 41 [.agg [.list Y0 a0], .agg [.list Y0 a1]]
theorem Zu_eq (a0 a1 : List D1) : Zu a0 a1 = (Zt a0 a1).bind fun r1 => some r1 :=
  (Den_eq cfg 41 _).trans (by kernel_rfl)
noncomputable def Zv (a0 : D12) : Option (D24 × Bool) := Den cfg 16 [.agg [.str a0.1.1, .str a0.1.2.1, .list Y5 a0.1.2.2, .list Y0 a0.2.1.1, .list Y4 a0.2.1.2.1, .list Y2 a0.2.1.2.2.1, .list Y1 a0.2.1.2.2.2, .list Y11 a0.2.2]]
theorem Zv_eq (a0 : D12) : Zv a0 = (Zb a0.1 a0.2.2 true).bind fun r1 => bif (!r1.2) then some (([], [], [], (0, 0, 0), 0, 0, 0), false) else ((Zq a0.2.1).bind fun r2 => bif (!r2) then some (([], [], [], (0, 0, 0), 0, 0, 0), false) else ((Zr a0.2.1.2.2.1 r1.1.1).bind fun r3 => bif (!r3) then some (([], [], [], (0, 0, 0), 0, 0, 0), false) else ((Zu a0.2.1.1 r1.1.2.2.1).bind fun r4 => bif (!r4) then some (([], [], [], (0, 0, 0), 0, 0, 0), false) else some (r1.1, true)))) :=
  (Den_eq cfg 16 _).trans (by kernel_rfl)
noncomputable def Zw (a0 : Int × Int × Int) : Option Int := Den cfg 17 [.agg [.int .i64 a0.1, .int .i64 a0.2.1, .int .i64 a0.2.2]]
theorem Zw_eq (a0 : Int × Int × Int) : Zw a0 = some (IntKind.wrap .i64 ((IntKind.wrap .i64 (a0.1 + a0.2.1)) - a0.2.2)) :=
  (Den_eq cfg 17 _).trans (by kernel_rfl)
noncomputable def Zx (a0 : D12) : Option (Int × Int × Int) := Den cfg 7 [.agg [.str a0.1.1, .str a0.1.2.1, .list Y5 a0.1.2.2, .list Y0 a0.2.1.1, .list Y4 a0.2.1.2.1, .list Y2 a0.2.1.2.2.1, .list Y1 a0.2.1.2.2.2, .list Y11 a0.2.2]]
theorem Zx_eq (a0 : D12) : Zx a0 = (Zv a0).bind fun r1 => bif (!r1.2) then some (0, 0, 1) else ((Zw r1.1.2.2.2.1).bind fun r2 => (Zw r1.1.2.2.2.2).bind fun r3 => some (r2, r3, 0)) :=
  (Den_eq cfg 7 _).trans (by kernel_rfl)
noncomputable def Zy (a0 a1 : D2) : Option Bool := Den cfg 88 [.agg [.str a0.1, .int .i64 a0.2.1, .int .i64 a0.2.2.1, .int .i64 a0.2.2.2.1, .int .i64 a0.2.2.2.2], .agg [.str a1.1, .int .i64 a1.2.1, .int .i64 a1.2.2.1, .int .i64 a1.2.2.2.1, .int .i64 a1.2.2.2.2]]
theorem Zy_eq (a0 a1 : D2) : Zy a0 a1 = bif (!strEq a0.1 a1.1) then some false else (bif (!decide (a0.2.1 = a1.2.1)) then some false else (bif (!decide (a0.2.2.1 = a1.2.2.1)) then some false else (bif (!decide (a0.2.2.2.1 = a1.2.2.2.1)) then some false else (bif (!decide (a0.2.2.2.2 = a1.2.2.2.2)) then some false else some true)))) :=
  (Den_eq cfg 88 _).trans (by kernel_rfl)
noncomputable def Zz (a0 a1 : List D2) : Option Bool := Den cfg 42 [.v (.list Y5 a0), .v (.list Y5 a1)]
noncomputable def Zz.a (x0 x1 : List D2) (x5 : Int) : Option Bool := LA 42 Tryz.f42 [1, 1, 0, 1, 0] ⟨27, assocSV [vL 0 Y5 x0, vL 1 Y5 x1, vI 5 x5], assocB []⟩
theorem Zz_eq (a0 a1 : List D2) : Zz a0 a1 = bif (!decide ((a0.length : Int) = (a1.length : Int))) then some false else Zz.a a0 a1 0 :=
  (Den_eq cfg 42 _).trans (by kernel_rfl)
theorem Zz.a_eq (x0 x1 : List D2) (x5 : Int) : Zz.a x0 x1 x5 = bif (decide (x5 < (x0.length : Int))) then (bif (inL x5 (x0.length)) then (bif (inL x5 (x1.length)) then ((Zy (rd (τ := Y5) x0 x5) (rd (τ := Y5) x1 x5)).bind fun r1 => bif (!r1) then some false else Zz.a x0 x1 (IntKind.wrap .i64 (x5 + 1))) else none) else none) else some true :=
  (Lp_eq cfg 42 _ _ _).trans (by kernel_rfl)
noncomputable def Z10 (a0 a1 : D3) : Option Bool := Den cfg 18 [.agg [.str a0.1, .str a0.2.1, .list Y5 a0.2.2], .agg [.str a1.1, .str a1.2.1, .list Y5 a1.2.2]]
theorem Z10_eq (a0 a1 : D3) : Z10 a0 a1 = bif (!strEq a0.1 a1.1) then some false else (bif (!strEq a0.2.1 a1.2.1) then some false else ((Zz a0.2.2 a1.2.2).bind fun r1 => bif (!r1) then some false else some true)) :=
  (Den_eq cfg 18 _).trans (by kernel_rfl)
noncomputable def Z11 (a0 a1 : D1) : Option Bool := Den cfg 157 [.agg [.int .i64 a0.1, .int .i64 a0.2.1, .str a0.2.2], .agg [.int .i64 a1.1, .int .i64 a1.2.1, .str a1.2.2]]
theorem Z11_eq (a0 a1 : D1) : Z11 a0 a1 = bif (!decide (a0.1 = a1.1)) then some false else (bif (!decide (a0.2.1 = a1.2.1)) then some false else (bif (!strEq a0.2.2 a1.2.2) then some false else some true)) :=
  (Den_eq cfg 157 _).trans (by kernel_rfl)
noncomputable def Z12 (a0 a1 : List D1) : Option Bool := Den cfg 89 [.v (.list Y0 a0), .v (.list Y0 a1)]
noncomputable def Z12.a (x0 x1 : List D1) (x5 : Int) : Option Bool := LA 89 Tryz.f89 [1, 1, 0, 1, 0] ⟨27, assocSV [vL 0 Y0 x0, vL 1 Y0 x1, vI 5 x5], assocB []⟩
theorem Z12_eq (a0 a1 : List D1) : Z12 a0 a1 = bif (!decide ((a0.length : Int) = (a1.length : Int))) then some false else Z12.a a0 a1 0 :=
  (Den_eq cfg 89 _).trans (by kernel_rfl)
theorem Z12.a_eq (x0 x1 : List D1) (x5 : Int) : Z12.a x0 x1 x5 = bif (decide (x5 < (x0.length : Int))) then (bif (inL x5 (x0.length)) then (bif (inL x5 (x1.length)) then ((Z11 (rd (τ := Y0) x0 x5) (rd (τ := Y0) x1 x5)).bind fun r1 => bif (!r1) then some false else Z12.a x0 x1 (IntKind.wrap .i64 (x5 + 1))) else none) else none) else some true :=
  (Lp_eq cfg 89 _ _ _).trans (by kernel_rfl)
noncomputable def Z13 (a0 a1 : List D1) : Option Bool := Den cfg 43 [.agg [.list Y0 a0], .agg [.list Y0 a1]]
theorem Z13_eq (a0 a1 : List D1) : Z13 a0 a1 = (Z12 a0 a1).bind fun r1 => bif (!r1) then some false else some true :=
  (Den_eq cfg 43 _).trans (by kernel_rfl)
noncomputable def Z14 (a0 a1 : List Int) : Option Bool := Den cfg 226 [.agg [.seg (.int .i64) 32 a0], .agg [.seg (.int .i64) 32 a1]]
noncomputable def Z14.a (x2 x3 : List Int) (x5 : Int) : Option Bool := LA 226 Tryz.f226 [1, 0, 1, 0] ⟨17, assocSV [vP 2 319, vP 3 447, vI 5 x5], assocB [(319, .box [.seg (.int .i64) 32 x2]), (447, .box [.seg (.int .i64) 32 x3])]⟩
theorem Z14_eq (a0 a1 : List Int) : Z14 a0 a1 = Z14.a a0 a1 0 :=
  (Den_eq cfg 226 _).trans (by kernel_rfl)
theorem Z14.a_eq (x2 x3 : List Int) (x5 : Int) : Z14.a x2 x3 x5 = bif (decide (x5 < 32)) then (bif (inL x5 32) then (bif (inL x5 32) then (bif (!decide ((rd (τ := (.int .i64)) x2 x5) = (rd (τ := (.int .i64)) x3 x5))) then some false else Z14.a x2 x3 (IntKind.wrap .i64 (x5 + 1))) else none) else none) else some true :=
  (Lp_eq cfg 226 _ _ _).trans (by kernel_rfl)
noncomputable def Z15 (a0 a1 : List Int × Int) : Option Bool := Den cfg 158 [.agg [.seg (.int .i64) 32 a0.1, .int .i64 a0.2], .agg [.seg (.int .i64) 32 a1.1, .int .i64 a1.2]]
theorem Z15_eq (a0 a1 : List Int × Int) : Z15 a0 a1 = (Z14 a0.1 a1.1).bind fun r1 => bif (!r1) then some false else (bif (!decide (a0.2 = a1.2)) then some false else some true) :=
  (Den_eq cfg 158 _).trans (by kernel_rfl)
noncomputable def Z16 (a0 a1 : List Int) : Option Bool := Den cfg 159 [.v (.list (.int .i64) a0), .v (.list (.int .i64) a1)]
noncomputable def Z16.a (x0 x1 : List Int) (x5 : Int) : Option Bool := LA 159 Tryz.f159 [1, 1, 0, 1, 0] ⟨26, assocSV [vL 0 (.int .i64) x0, vL 1 (.int .i64) x1, vI 5 x5], assocB []⟩
theorem Z16_eq (a0 a1 : List Int) : Z16 a0 a1 = bif (!decide ((a0.length : Int) = (a1.length : Int))) then some false else Z16.a a0 a1 0 :=
  (Den_eq cfg 159 _).trans (by kernel_rfl)
theorem Z16.a_eq (x0 x1 : List Int) (x5 : Int) : Z16.a x0 x1 x5 = bif (decide (x5 < (x0.length : Int))) then (bif (inL x5 (x0.length)) then (bif (inL x5 (x1.length)) then (bif (!decide ((rd (τ := (.int .i64)) x0 x5) = (rd (τ := (.int .i64)) x1 x5))) then some false else Z16.a x0 x1 (IntKind.wrap .i64 (x5 + 1))) else none) else none) else some true :=
  (Lp_eq cfg 159 _ _ _).trans (by kernel_rfl)
noncomputable def Z17 (a0 a1 : D4) : Option Bool := Den cfg 90 [.agg [.int .i64 a0.1, .seg (.int .i64) 32 a0.2.1.1, .int .i64 a0.2.1.2, .list (.int .i64) a0.2.2.1, .int .i64 a0.2.2.2], .agg [.int .i64 a1.1, .seg (.int .i64) 32 a1.2.1.1, .int .i64 a1.2.1.2, .list (.int .i64) a1.2.2.1, .int .i64 a1.2.2.2]]
theorem Z17_eq (a0 a1 : D4) : Z17 a0 a1 = bif (!decide (a0.1 = a1.1)) then some false else ((Z15 a0.2.1 a1.2.1).bind fun r1 => bif (!r1) then some false else ((Z16 a0.2.2.1 a1.2.2.1).bind fun r2 => bif (!r2) then some false else (bif (!decide (a0.2.2.2 = a1.2.2.2)) then some false else some true))) :=
  (Den_eq cfg 90 _).trans (by kernel_rfl)
noncomputable def Z18 (a0 a1 : List D4) : Option Bool := Den cfg 44 [.v (.list Y4 a0), .v (.list Y4 a1)]
noncomputable def Z18.a (x0 x1 : List D4) (x5 : Int) : Option Bool := LA 44 Tryz.f44 [1, 1, 0, 1, 0] ⟨27, assocSV [vL 0 Y4 x0, vL 1 Y4 x1, vI 5 x5], assocB []⟩
theorem Z18_eq (a0 a1 : List D4) : Z18 a0 a1 = bif (!decide ((a0.length : Int) = (a1.length : Int))) then some false else Z18.a a0 a1 0 :=
  (Den_eq cfg 44 _).trans (by kernel_rfl)
theorem Z18.a_eq (x0 x1 : List D4) (x5 : Int) : Z18.a x0 x1 x5 = bif (decide (x5 < (x0.length : Int))) then (bif (inL x5 (x0.length)) then (bif (inL x5 (x1.length)) then ((Z17 (rd (τ := Y4) x0 x5) (rd (τ := Y4) x1 x5)).bind fun r1 => bif (!r1) then some false else Z18.a x0 x1 (IntKind.wrap .i64 (x5 + 1))) else none) else none) else some true :=
  (Lp_eq cfg 44 _ _ _).trans (by kernel_rfl)
noncomputable def Z19 (a0 a1 : D0) : Option Bool := Den cfg 91 [.agg [.str a0.1, .int .i64 a0.2.1, .int .i64 a0.2.2.1, .int .i64 a0.2.2.2.1, .int .i64 a0.2.2.2.2.1, .int .i64 a0.2.2.2.2.2], .agg [.str a1.1, .int .i64 a1.2.1, .int .i64 a1.2.2.1, .int .i64 a1.2.2.2.1, .int .i64 a1.2.2.2.2.1, .int .i64 a1.2.2.2.2.2]]
theorem Z19_eq (a0 a1 : D0) : Z19 a0 a1 = bif (!strEq a0.1 a1.1) then some false else (bif (!decide (a0.2.1 = a1.2.1)) then some false else (bif (!decide (a0.2.2.1 = a1.2.2.1)) then some false else (bif (!decide (a0.2.2.2.1 = a1.2.2.2.1)) then some false else (bif (!decide (a0.2.2.2.2.1 = a1.2.2.2.2.1)) then some false else (bif (!decide (a0.2.2.2.2.2 = a1.2.2.2.2.2)) then some false else some true))))) :=
  (Den_eq cfg 91 _).trans (by kernel_rfl)
noncomputable def Z1a (a0 a1 : List D0) : Option Bool := Den cfg 45 [.v (.list Y2 a0), .v (.list Y2 a1)]
noncomputable def Z1a.a (x0 x1 : List D0) (x5 : Int) : Option Bool := LA 45 Tryz.f45 [1, 1, 0, 1, 0] ⟨27, assocSV [vL 0 Y2 x0, vL 1 Y2 x1, vI 5 x5], assocB []⟩
theorem Z1a_eq (a0 a1 : List D0) : Z1a a0 a1 = bif (!decide ((a0.length : Int) = (a1.length : Int))) then some false else Z1a.a a0 a1 0 :=
  (Den_eq cfg 45 _).trans (by kernel_rfl)
theorem Z1a.a_eq (x0 x1 : List D0) (x5 : Int) : Z1a.a x0 x1 x5 = bif (decide (x5 < (x0.length : Int))) then (bif (inL x5 (x0.length)) then (bif (inL x5 (x1.length)) then ((Z19 (rd (τ := Y2) x0 x5) (rd (τ := Y2) x1 x5)).bind fun r1 => bif (!r1) then some false else Z1a.a x0 x1 (IntKind.wrap .i64 (x5 + 1))) else none) else none) else some true :=
  (Lp_eq cfg 45 _ _ _).trans (by kernel_rfl)
noncomputable def Z1b (a0 a1 : Int × Int × Int) : Option Bool := Den cfg 92 [.agg [.int .i64 a0.1, .int .i64 a0.2.1, .int .i64 a0.2.2], .agg [.int .i64 a1.1, .int .i64 a1.2.1, .int .i64 a1.2.2]]
theorem Z1b_eq (a0 a1 : Int × Int × Int) : Z1b a0 a1 = bif (!decide (a0.1 = a1.1)) then some false else (bif (!decide (a0.2.1 = a1.2.1)) then some false else (bif (!decide (a0.2.2 = a1.2.2)) then some false else some true)) :=
  (Den_eq cfg 92 _).trans (by kernel_rfl)
noncomputable def Z1c (a0 a1 : List (Int × Int × Int)) : Option Bool := Den cfg 46 [.v (.list Y1 a0), .v (.list Y1 a1)]
noncomputable def Z1c.a (x0 x1 : List (Int × Int × Int)) (x5 : Int) : Option Bool := LA 46 Tryz.f46 [1, 1, 0, 1, 0] ⟨27, assocSV [vL 0 Y1 x0, vL 1 Y1 x1, vI 5 x5], assocB []⟩
theorem Z1c_eq (a0 a1 : List (Int × Int × Int)) : Z1c a0 a1 = bif (!decide ((a0.length : Int) = (a1.length : Int))) then some false else Z1c.a a0 a1 0 :=
  (Den_eq cfg 46 _).trans (by kernel_rfl)
theorem Z1c.a_eq (x0 x1 : List (Int × Int × Int)) (x5 : Int) : Z1c.a x0 x1 x5 = bif (decide (x5 < (x0.length : Int))) then (bif (inL x5 (x0.length)) then (bif (inL x5 (x1.length)) then ((Z1b (rd (τ := Y1) x0 x5) (rd (τ := Y1) x1 x5)).bind fun r1 => bif (!r1) then some false else Z1c.a x0 x1 (IntKind.wrap .i64 (x5 + 1))) else none) else none) else some true :=
  (Lp_eq cfg 46 _ _ _).trans (by kernel_rfl)
noncomputable def Z1d (a0 a1 : D5) : Option Bool := Den cfg 19 [.agg [.list Y0 a0.1, .list Y4 a0.2.1, .list Y2 a0.2.2.1, .list Y1 a0.2.2.2], .agg [.list Y0 a1.1, .list Y4 a1.2.1, .list Y2 a1.2.2.1, .list Y1 a1.2.2.2]]
theorem Z1d_eq (a0 a1 : D5) : Z1d a0 a1 = (Z13 a0.1 a1.1).bind fun r1 => bif (!r1) then some false else ((Z18 a0.2.1 a1.2.1).bind fun r2 => bif (!r2) then some false else ((Z1a a0.2.2.1 a1.2.2.1).bind fun r3 => bif (!r3) then some false else ((Z1c a0.2.2.2 a1.2.2.2).bind fun r4 => bif (!r4) then some false else some true))) :=
  (Den_eq cfg 19 _).trans (by kernel_rfl)
noncomputable def Z1e (a0 a1 : D6) : Option Bool := Den cfg 227 [.agg [.str a0.1, .bool a0.2.1, .int .i64 a0.2.2.1, .str a0.2.2.2], .agg [.str a1.1, .bool a1.2.1, .int .i64 a1.2.2.1, .str a1.2.2.2]]
theorem Z1e_eq (a0 a1 : D6) : Z1e a0 a1 = bif (!strEq a0.1 a1.1) then some false else (bif (!(a0.2.1 == a1.2.1)) then some false else (bif (!decide (a0.2.2.1 = a1.2.2.1)) then some false else (bif (!strEq a0.2.2.2 a1.2.2.2) then some false else some true))) :=
  (Den_eq cfg 227 _).trans (by kernel_rfl)
noncomputable def Z1f (a0 a1 : List D6) : Option Bool := Den cfg 160 [.v (.list Y6 a0), .v (.list Y6 a1)]
noncomputable def Z1f.a (x0 x1 : List D6) (x5 : Int) : Option Bool := LA 160 Tryz.f160 [1, 1, 0, 1, 0] ⟨27, assocSV [vL 0 Y6 x0, vL 1 Y6 x1, vI 5 x5], assocB []⟩
theorem Z1f_eq (a0 a1 : List D6) : Z1f a0 a1 = bif (!decide ((a0.length : Int) = (a1.length : Int))) then some false else Z1f.a a0 a1 0 :=
  (Den_eq cfg 160 _).trans (by kernel_rfl)
theorem Z1f.a_eq (x0 x1 : List D6) (x5 : Int) : Z1f.a x0 x1 x5 = bif (decide (x5 < (x0.length : Int))) then (bif (inL x5 (x0.length)) then (bif (inL x5 (x1.length)) then ((Z1e (rd (τ := Y6) x0 x5) (rd (τ := Y6) x1 x5)).bind fun r1 => bif (!r1) then some false else Z1f.a x0 x1 (IntKind.wrap .i64 (x5 + 1))) else none) else none) else some true :=
  (Lp_eq cfg 160 _ _ _).trans (by kernel_rfl)
noncomputable def Z1g (a0 a1 : D7) : Option Bool := Den cfg 228 [.agg [.str a0.1, .str a0.2], .agg [.str a1.1, .str a1.2]]
theorem Z1g_eq (a0 a1 : D7) : Z1g a0 a1 = bif (!strEq a0.1 a1.1) then some false else (bif (!strEq a0.2 a1.2) then some false else some true) :=
  (Den_eq cfg 228 _).trans (by kernel_rfl)
noncomputable def Z1h (a0 a1 : List D7) : Option Bool := Den cfg 161 [.v (.list (.pair .str .str) a0), .v (.list (.pair .str .str) a1)]
noncomputable def Z1h.a (x0 x1 : List D7) (x5 : Int) : Option Bool := LA 161 Tryz.f161 [1, 1, 0, 1, 0] ⟨27, assocSV [vL 0 (.pair .str .str) x0, vL 1 (.pair .str .str) x1, vI 5 x5], assocB []⟩
theorem Z1h_eq (a0 a1 : List D7) : Z1h a0 a1 = bif (!decide ((a0.length : Int) = (a1.length : Int))) then some false else Z1h.a a0 a1 0 :=
  (Den_eq cfg 161 _).trans (by kernel_rfl)
theorem Z1h.a_eq (x0 x1 : List D7) (x5 : Int) : Z1h.a x0 x1 x5 = bif (decide (x5 < (x0.length : Int))) then (bif (inL x5 (x0.length)) then (bif (inL x5 (x1.length)) then ((Z1g (rd (τ := (.pair .str .str)) x0 x5) (rd (τ := (.pair .str .str)) x1 x5)).bind fun r1 => bif (!r1) then some false else Z1h.a x0 x1 (IntKind.wrap .i64 (x5 + 1))) else none) else none) else some true :=
  (Lp_eq cfg 161 _ _ _).trans (by kernel_rfl)
noncomputable def Z1i (a0 a1 : D8) : Option Bool := Den cfg 229 [.agg [.int .i64 a0.1, .int .i64 a0.2.1, .int .i64 a0.2.2.1, .str a0.2.2.2.1, .int .i64 a0.2.2.2.2], .agg [.int .i64 a1.1, .int .i64 a1.2.1, .int .i64 a1.2.2.1, .str a1.2.2.2.1, .int .i64 a1.2.2.2.2]]
theorem Z1i_eq (a0 a1 : D8) : Z1i a0 a1 = bif (!decide (a0.1 = a1.1)) then some false else (bif (!decide (a0.2.1 = a1.2.1)) then some false else (bif (!decide (a0.2.2.1 = a1.2.2.1)) then some false else (bif (!strEq a0.2.2.2.1 a1.2.2.2.1) then some false else (bif (!decide (a0.2.2.2.2 = a1.2.2.2.2)) then some false else some true)))) :=
  (Den_eq cfg 229 _).trans (by kernel_rfl)
noncomputable def Z1j (a0 a1 : List D8) : Option Bool := Den cfg 162 [.v (.list Y7 a0), .v (.list Y7 a1)]
noncomputable def Z1j.a (x0 x1 : List D8) (x5 : Int) : Option Bool := LA 162 Tryz.f162 [1, 1, 0, 1, 0] ⟨27, assocSV [vL 0 Y7 x0, vL 1 Y7 x1, vI 5 x5], assocB []⟩
theorem Z1j_eq (a0 a1 : List D8) : Z1j a0 a1 = bif (!decide ((a0.length : Int) = (a1.length : Int))) then some false else Z1j.a a0 a1 0 :=
  (Den_eq cfg 162 _).trans (by kernel_rfl)
theorem Z1j.a_eq (x0 x1 : List D8) (x5 : Int) : Z1j.a x0 x1 x5 = bif (decide (x5 < (x0.length : Int))) then (bif (inL x5 (x0.length)) then (bif (inL x5 (x1.length)) then ((Z1i (rd (τ := Y7) x0 x5) (rd (τ := Y7) x1 x5)).bind fun r1 => bif (!r1) then some false else Z1j.a x0 x1 (IntKind.wrap .i64 (x5 + 1))) else none) else none) else some true :=
  (Lp_eq cfg 162 _ _ _).trans (by kernel_rfl)
noncomputable def Z1k (a0 a1 : Int × Bool) : Option Bool := Den cfg 230 [.agg [.int .i64 a0.1, .bool a0.2], .agg [.int .i64 a1.1, .bool a1.2]]
theorem Z1k_eq (a0 a1 : Int × Bool) : Z1k a0 a1 = bif (!decide (a0.1 = a1.1)) then some false else (bif (!(a0.2 == a1.2)) then some false else some true) :=
  (Den_eq cfg 230 _).trans (by kernel_rfl)
noncomputable def Z1l (a0 a1 : List (Int × Bool)) : Option Bool := Den cfg 163 [.v (.list (.pair (.int .i64) .bool) a0), .v (.list (.pair (.int .i64) .bool) a1)]
noncomputable def Z1l.a (x0 x1 : List (Int × Bool)) (x5 : Int) : Option Bool := LA 163 Tryz.f163 [1, 1, 0, 1, 0] ⟨27, assocSV [vL 0 (.pair (.int .i64) .bool) x0, vL 1 (.pair (.int .i64) .bool) x1, vI 5 x5], assocB []⟩
theorem Z1l_eq (a0 a1 : List (Int × Bool)) : Z1l a0 a1 = bif (!decide ((a0.length : Int) = (a1.length : Int))) then some false else Z1l.a a0 a1 0 :=
  (Den_eq cfg 163 _).trans (by kernel_rfl)
theorem Z1l.a_eq (x0 x1 : List (Int × Bool)) (x5 : Int) : Z1l.a x0 x1 x5 = bif (decide (x5 < (x0.length : Int))) then (bif (inL x5 (x0.length)) then (bif (inL x5 (x1.length)) then ((Z1k (rd (τ := (.pair (.int .i64) .bool)) x0 x5) (rd (τ := (.pair (.int .i64) .bool)) x1 x5)).bind fun r1 => bif (!r1) then some false else Z1l.a x0 x1 (IntKind.wrap .i64 (x5 + 1))) else none) else none) else some true :=
  (Lp_eq cfg 163 _ _ _).trans (by kernel_rfl)
noncomputable def Z1m (a0 a1 : D9) : Option Bool := Den cfg 93 [.agg [.str a0.1, .int .i64 a0.2.1, .list Y6 a0.2.2.1, .list (.pair .str .str) a0.2.2.2.1, .list Y7 a0.2.2.2.2.1, .list (.pair (.int .i64) .bool) a0.2.2.2.2.2], .agg [.str a1.1, .int .i64 a1.2.1, .list Y6 a1.2.2.1, .list (.pair .str .str) a1.2.2.2.1, .list Y7 a1.2.2.2.2.1, .list (.pair (.int .i64) .bool) a1.2.2.2.2.2]]
theorem Z1m_eq (a0 a1 : D9) : Z1m a0 a1 = bif (!strEq a0.1 a1.1) then some false else (bif (!decide (a0.2.1 = a1.2.1)) then some false else ((Z1f a0.2.2.1 a1.2.2.1).bind fun r1 => bif (!r1) then some false else ((Z1h a0.2.2.2.1 a1.2.2.2.1).bind fun r2 => bif (!r2) then some false else ((Z1j a0.2.2.2.2.1 a1.2.2.2.2.1).bind fun r3 => bif (!r3) then some false else ((Z1l a0.2.2.2.2.2 a1.2.2.2.2.2).bind fun r4 => bif (!r4) then some false else some true))))) :=
  (Den_eq cfg 93 _).trans (by kernel_rfl)
noncomputable def Z1n (a0 a1 : List ByteArray) : Option Bool := Den cfg 164 [.v (.list .str a0), .v (.list .str a1)]
noncomputable def Z1n.a (x0 x1 : List ByteArray) (x5 : Int) : Option Bool := LA 164 Tryz.f164 [1, 1, 0, 1, 0] ⟨26, assocSV [vL 0 .str x0, vL 1 .str x1, vI 5 x5], assocB []⟩
theorem Z1n_eq (a0 a1 : List ByteArray) : Z1n a0 a1 = bif (!decide ((a0.length : Int) = (a1.length : Int))) then some false else Z1n.a a0 a1 0 :=
  (Den_eq cfg 164 _).trans (by kernel_rfl)
theorem Z1n.a_eq (x0 x1 : List ByteArray) (x5 : Int) : Z1n.a x0 x1 x5 = bif (decide (x5 < (x0.length : Int))) then (bif (inL x5 (x0.length)) then (bif (inL x5 (x1.length)) then (bif (!strEq (rd (τ := .str) x0 x5) (rd (τ := .str) x1 x5)) then some false else Z1n.a x0 x1 (IntKind.wrap .i64 (x5 + 1))) else none) else none) else some true :=
  (Lp_eq cfg 164 _ _ _).trans (by kernel_rfl)
noncomputable def Z1o (a0 a1 : D10) : Option Bool := Den cfg 94 [.agg [.list (.int .i64) a0.1, .list .str a0.2.1, .list (.int .i64) a0.2.2.1, .list .str a0.2.2.2], .agg [.list (.int .i64) a1.1, .list .str a1.2.1, .list (.int .i64) a1.2.2.1, .list .str a1.2.2.2]]
theorem Z1o_eq (a0 a1 : D10) : Z1o a0 a1 = (Z16 a0.1 a1.1).bind fun r1 => bif (!r1) then some false else ((Z1n a0.2.1 a1.2.1).bind fun r2 => bif (!r2) then some false else ((Z16 a0.2.2.1 a1.2.2.1).bind fun r3 => bif (!r3) then some false else ((Z1n a0.2.2.2 a1.2.2.2).bind fun r4 => bif (!r4) then some false else some true))) :=
  (Den_eq cfg 94 _).trans (by kernel_rfl)
noncomputable def Z1p (a0 a1 : Int × Int) : Option Bool := Den cfg 165 [.agg [.int .i64 a0.1, .int .i64 a0.2], .agg [.int .i64 a1.1, .int .i64 a1.2]]
theorem Z1p_eq (a0 a1 : Int × Int) : Z1p a0 a1 = bif (!decide (a0.1 = a1.1)) then some false else (bif (!decide (a0.2 = a1.2)) then some false else some true) :=
  (Den_eq cfg 165 _).trans (by kernel_rfl)
noncomputable def Z1q (a0 a1 : List (Int × Int)) : Option Bool := Den cfg 95 [.v (.list Y10 a0), .v (.list Y10 a1)]
noncomputable def Z1q.a (x0 x1 : List (Int × Int)) (x5 : Int) : Option Bool := LA 95 Tryz.f95 [1, 1, 0, 1, 0] ⟨27, assocSV [vL 0 Y10 x0, vL 1 Y10 x1, vI 5 x5], assocB []⟩
theorem Z1q_eq (a0 a1 : List (Int × Int)) : Z1q a0 a1 = bif (!decide ((a0.length : Int) = (a1.length : Int))) then some false else Z1q.a a0 a1 0 :=
  (Den_eq cfg 95 _).trans (by kernel_rfl)
theorem Z1q.a_eq (x0 x1 : List (Int × Int)) (x5 : Int) : Z1q.a x0 x1 x5 = bif (decide (x5 < (x0.length : Int))) then (bif (inL x5 (x0.length)) then (bif (inL x5 (x1.length)) then ((Z1p (rd (τ := Y10) x0 x5) (rd (τ := Y10) x1 x5)).bind fun r1 => bif (!r1) then some false else Z1q.a x0 x1 (IntKind.wrap .i64 (x5 + 1))) else none) else none) else some true :=
  (Lp_eq cfg 95 _ _ _).trans (by kernel_rfl)
noncomputable def Z1r (a0 a1 : D11) : Option Bool := Den cfg 47 [.agg [.str a0.1.1, .int .i64 a0.1.2.1, .list Y6 a0.1.2.2.1, .list (.pair .str .str) a0.1.2.2.2.1, .list Y7 a0.1.2.2.2.2.1, .list (.pair (.int .i64) .bool) a0.1.2.2.2.2.2, .list (.int .i64) a0.2.1.1, .list .str a0.2.1.2.1, .list (.int .i64) a0.2.1.2.2.1, .list .str a0.2.1.2.2.2, .list Y10 a0.2.2], .agg [.str a1.1.1, .int .i64 a1.1.2.1, .list Y6 a1.1.2.2.1, .list (.pair .str .str) a1.1.2.2.2.1, .list Y7 a1.1.2.2.2.2.1, .list (.pair (.int .i64) .bool) a1.1.2.2.2.2.2, .list (.int .i64) a1.2.1.1, .list .str a1.2.1.2.1, .list (.int .i64) a1.2.1.2.2.1, .list .str a1.2.1.2.2.2, .list Y10 a1.2.2]]
theorem Z1r_eq (a0 a1 : D11) : Z1r a0 a1 = (Z1m a0.1 a1.1).bind fun r1 => bif (!r1) then some false else ((Z1o a0.2.1 a1.2.1).bind fun r2 => bif (!r2) then some false else ((Z1q a0.2.2 a1.2.2).bind fun r3 => bif (!r3) then some false else some true)) :=
  (Den_eq cfg 47 _).trans (by kernel_rfl)
noncomputable def Z1s (a0 a1 : List D11) : Option Bool := Den cfg 20 [.v (.list Y11 a0), .v (.list Y11 a1)]
noncomputable def Z1s.a (x0 x1 : List D11) (x5 : Int) : Option Bool := LA 20 Tryz.f20 [1, 1, 0, 1, 0] ⟨27, assocSV [vL 0 Y11 x0, vL 1 Y11 x1, vI 5 x5], assocB []⟩
theorem Z1s_eq (a0 a1 : List D11) : Z1s a0 a1 = bif (!decide ((a0.length : Int) = (a1.length : Int))) then some false else Z1s.a a0 a1 0 :=
  (Den_eq cfg 20 _).trans (by kernel_rfl)
theorem Z1s.a_eq (x0 x1 : List D11) (x5 : Int) : Z1s.a x0 x1 x5 = bif (decide (x5 < (x0.length : Int))) then (bif (inL x5 (x0.length)) then (bif (inL x5 (x1.length)) then ((Z1r (rd (τ := Y11) x0 x5) (rd (τ := Y11) x1 x5)).bind fun r1 => bif (!r1) then some false else Z1s.a x0 x1 (IntKind.wrap .i64 (x5 + 1))) else none) else none) else some true :=
  (Lp_eq cfg 20 _ _ _).trans (by kernel_rfl)
noncomputable def Z1t (a0 a1 : D12) : Option Bool := Den cfg 8 [.agg [.str a0.1.1, .str a0.1.2.1, .list Y5 a0.1.2.2, .list Y0 a0.2.1.1, .list Y4 a0.2.1.2.1, .list Y2 a0.2.1.2.2.1, .list Y1 a0.2.1.2.2.2, .list Y11 a0.2.2], .agg [.str a1.1.1, .str a1.1.2.1, .list Y5 a1.1.2.2, .list Y0 a1.2.1.1, .list Y4 a1.2.1.2.1, .list Y2 a1.2.1.2.2.1, .list Y1 a1.2.1.2.2.2, .list Y11 a1.2.2]]
theorem Z1t_eq (a0 a1 : D12) : Z1t a0 a1 = (Z10 a0.1 a1.1).bind fun r1 => bif (!r1) then some false else ((Z1d a0.2.1 a1.2.1).bind fun r2 => bif (!r2) then some false else ((Z1s a0.2.2 a1.2.2).bind fun r3 => bif (!r3) then some false else some true)) :=
  (Den_eq cfg 8 _).trans (by kernel_rfl)
noncomputable def Z1u (a0 : D12) : Option Bool := Den cfg 3 [.agg [.str a0.1.1, .str a0.1.2.1, .list Y5 a0.1.2.2, .list Y0 a0.2.1.1, .list Y4 a0.2.1.2.1, .list Y2 a0.2.1.2.2.1, .list Y1 a0.2.1.2.2.2, .list Y11 a0.2.2]]
theorem Z1u_eq (a0 : D12) : Z1u a0 = (Z2p a0 1048576).bind fun r1 => bif (decide (r1 < 0)) then some true else ((Z63 a0).bind fun r2 => (Z57 r2).bind fun r3 => (Z63 a0).bind fun r4 => (Zx r4).bind fun r5 => joinB (fun kr12 => bif (!decide (r5.1 = r3.1)) then kr12 true else (bif (!decide (r5.2.1 = r3.2.1)) then kr12 true else kr12 (!decide (r5.2.2 = r3.2.2)))) fun (r9 : Bool) => bif r9 then some false else ((Z63 a0).bind fun r10 => (Z1t r4 r10).bind fun r11 => bif (!r11) then some false else some true)) :=
  (Den_eq cfg 3 _).trans (by kernel_rfl)
end Go.Proofs.YtaplgfojdekgkaaGreat.S
