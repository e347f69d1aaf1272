import Derived.Test.YtoikigjhiohopaaGreatDoorSxIa
import Derived.Test.YtoikigjhiohopaaGreatDoorProg
namespace Go.Proofs.YtoikigjhiohopaaGreatDoor.S
open Go.Ps
set_option linter.unusedVariables false
set_option maxRecDepth 100000
set_option maxHeartbeats 0
noncomputable def internal_strconv_FormatInt (a0 a1 : Int) : Option ByteArray := Den cfg 153 [.v (.int .i64 a0), .v (.int .i64 a1)]
theorem internal_strconv_FormatInt_eq (a0 a1 : Int) : internal_strconv_FormatInt a0 a1 = bif (decide (a1 = 10) && decide (-9223372036854775808 ≤ a0) && decide (a0 ≤ 9223372036854775807)) then some (itoaB a0) else none := by
  refine (Den_eq cfg 153 _).trans ?_
  show Option.bind (bif (decide (a1 = 10) && decide (-9223372036854775808 ≤ a0) && decide (a0 ≤ 9223372036854775807)) then some _ else none) _ = _
  cases (decide (a1 = 10) && decide (-9223372036854775808 ≤ a0) && decide (a0 ≤ 9223372036854775807))
  · exact (by kernel_rfl)
  · exact (by kernel_rfl)
noncomputable def laws_szPage (a0 : D0) (a1 : Int) : Option Int := Den cfg 106 [.agg [.int .i64 a0.1, .int .i64 a0.2.1, .str a0.2.2], .v (.int .i64 a1)]
theorem laws_szPage_eq (a0 : D0) (a1 : Int) : laws_szPage a0 a1 = bif (decide ((IntKind.wrap .i64 (a1 - (a0.2.2.size : Int))) < 0)) then some (-1) else some (IntKind.wrap .i64 (a1 - (a0.2.2.size : Int))) :=
  (Den_eq cfg 106 _).trans (by kernel_rfl)
noncomputable def laws_szPageS (a0 : List D0) (a1 : Int) : Option Int := Den cfg 61 [.v (.list Y2 a0), .v (.int .i64 a1)]
noncomputable def laws_szPageS.l111010 (x0 : List D0) (x1 x5 : Int) : Option Int := LA 61 Tryz.f61 [1, 1, 1, 0, 1, 0] ⟨27, assocSV [vL 0 Y2 x0, vI 1 x1, vI 5 x5], assocB []⟩
theorem laws_szPageS_eq (a0 : List D0) (a1 : Int) : laws_szPageS a0 a1 = bif (decide ((IntKind.wrap .i64 (a1 - (a0.length : Int))) < 0)) then some (-1) else laws_szPageS.l111010 a0 (IntKind.wrap .i64 (a1 - (a0.length : Int))) 0 :=
  (Den_eq cfg 61 _).trans (by kernel_rfl)
theorem laws_szPageS.l111010_eq (x0 : List D0) (x1 x5 : Int) : laws_szPageS.l111010 x0 x1 x5 = bif (decide (x5 < (x0.length : Int))) then (bif (inL x5 (x0.length)) then ((laws_szPage (rd (τ := Y2) x0 x5) x1).bind fun r1 => bif (decide (r1 < 0)) then some (-1) else laws_szPageS.l111010 x0 r1 (IntKind.wrap .i64 (x5 + 1))) else none) else some x1 :=
  (Lp_eq cfg 61 _ _ _).trans (by kernel_rfl)
noncomputable def laws_szMemory (a0 : List D0) (a1 : Int) : Option Int := Den cfg 24 [.agg [.list Y2 a0], .v (.int .i64 a1)]
theorem laws_szMemory_eq (a0 : List D0) (a1 : Int) : laws_szMemory a0 a1 = (laws_szPageS a0 a1).bind fun r1 => bif (decide (r1 < 0)) then some (-1) else some r1 :=
  (Den_eq cfg 24 _).trans (by kernel_rfl)
noncomputable def laws_szIntS (a0 : List Int) (a1 : Int) : Option Int := Den cfg 107 [.v (.list (.int .i64) a0), .v (.int .i64 a1)]
theorem laws_szIntS_eq (a0 : List Int) (a1 : Int) : laws_szIntS a0 a1 = bif (decide ((IntKind.wrap .i64 (a1 - (a0.length : Int))) < 0)) then some (-1) else some (IntKind.wrap .i64 (a1 - (a0.length : Int))) :=
  (Den_eq cfg 107 _).trans (by kernel_rfl)
noncomputable def laws_szThread (a0 : D1) (a1 : Int) : Option Int := Den cfg 62 [.agg [.int .i64 a0.1, .seg (.int .i64) 32 a0.2.1.1, .int .i64 a0.2.1.2, .list (.int .i64) a0.2.2.1, .int .i64 a0.2.2.2], .v (.int .i64 a1)]
theorem laws_szThread_eq (a0 : D1) (a1 : Int) : laws_szThread a0 a1 = (laws_szIntS a0.2.2.1 a1).bind fun r1 => bif (decide (r1 < 0)) then some (-1) else some r1 :=
  (Den_eq cfg 62 _).trans (by kernel_rfl)
noncomputable def laws_szThreadS (a0 : List D1) (a1 : Int) : Option Int := Den cfg 25 [.v (.list Y1 a0), .v (.int .i64 a1)]
noncomputable def laws_szThreadS.l111010 (x0 : List D1) (x1 x5 : Int) : Option Int := LA 25 Tryz.f25 [1, 1, 1, 0, 1, 0] ⟨27, assocSV [vL 0 Y1 x0, vI 1 x1, vI 5 x5], assocB []⟩
theorem laws_szThreadS_eq (a0 : List D1) (a1 : Int) : laws_szThreadS a0 a1 = bif (decide ((IntKind.wrap .i64 (a1 - (a0.length : Int))) < 0)) then some (-1) else laws_szThreadS.l111010 a0 (IntKind.wrap .i64 (a1 - (a0.length : Int))) 0 :=
  (Den_eq cfg 25 _).trans (by kernel_rfl)
theorem laws_szThreadS.l111010_eq (x0 : List D1) (x1 x5 : Int) : laws_szThreadS.l111010 x0 x1 x5 = bif (decide (x5 < (x0.length : Int))) then (bif (inL x5 (x0.length)) then ((laws_szThread (rd (τ := Y1) x0 x5) x1).bind fun r1 => bif (decide (r1 < 0)) then some (-1) else laws_szThreadS.l111010 x0 r1 (IntKind.wrap .i64 (x5 + 1))) else none) else some x1 :=
  (Lp_eq cfg 25 _ _ _).trans (by kernel_rfl)
noncomputable def laws_szEntry (a0 : D2) (a1 : Int) : Option Int := Den cfg 63 [.agg [.str a0.1, .int .i64 a0.2.1, .int .i64 a0.2.2.1, .int .i64 a0.2.2.2.1, .int .i64 a0.2.2.2.2.1, .int .i64 a0.2.2.2.2.2], .v (.int .i64 a1)]
theorem laws_szEntry_eq (a0 : D2) (a1 : Int) : laws_szEntry a0 a1 = bif (decide ((IntKind.wrap .i64 (a1 - (a0.1.size : Int))) < 0)) then some (-1) else some (IntKind.wrap .i64 (a1 - (a0.1.size : Int))) :=
  (Den_eq cfg 63 _).trans (by kernel_rfl)
noncomputable def laws_szEntryS (a0 : List D2) (a1 : Int) : Option Int := Den cfg 26 [.v (.list Y3 a0), .v (.int .i64 a1)]
noncomputable def laws_szEntryS.l111010 (x0 : List D2) (x1 x5 : Int) : Option Int := LA 26 Tryz.f26 [1, 1, 1, 0, 1, 0] ⟨27, assocSV [vL 0 Y3 x0, vI 1 x1, vI 5 x5], assocB []⟩
theorem laws_szEntryS_eq (a0 : List D2) (a1 : Int) : laws_szEntryS a0 a1 = bif (decide ((IntKind.wrap .i64 (a1 - (a0.length : Int))) < 0)) then some (-1) else laws_szEntryS.l111010 a0 (IntKind.wrap .i64 (a1 - (a0.length : Int))) 0 :=
  (Den_eq cfg 26 _).trans (by kernel_rfl)
theorem laws_szEntryS.l111010_eq (x0 : List D2) (x1 x5 : Int) : laws_szEntryS.l111010 x0 x1 x5 = bif (decide (x5 < (x0.length : Int))) then (bif (inL x5 (x0.length)) then ((laws_szEntry (rd (τ := Y3) x0 x5) x1).bind fun r1 => bif (decide (r1 < 0)) then some (-1) else laws_szEntryS.l111010 x0 r1 (IntKind.wrap .i64 (x5 + 1))) else none) else some x1 :=
  (Lp_eq cfg 26 _ _ _).trans (by kernel_rfl)
noncomputable def laws_szShadowS (a0 : List (Int × Int × Int)) (a1 : Int) : Option Int := Den cfg 27 [.v (.list Y4 a0), .v (.int .i64 a1)]
theorem laws_szShadowS_eq (a0 : List (Int × Int × Int)) (a1 : Int) : laws_szShadowS a0 a1 = bif (decide ((IntKind.wrap .i64 (a1 - (a0.length : Int))) < 0)) then some (-1) else some (IntKind.wrap .i64 (a1 - (a0.length : Int))) :=
  (Den_eq cfg 27 _).trans (by kernel_rfl)
noncomputable def laws_szMachine (a0 : D3) (a1 : Int) : Option Int := Den cfg 6 [.agg [.list Y2 a0.1, .list Y1 a0.2.1, .list Y3 a0.2.2.1, .list Y4 a0.2.2.2], .v (.int .i64 a1)]
theorem laws_szMachine_eq (a0 : D3) (a1 : Int) : laws_szMachine a0 a1 = (laws_szMemory a0.1 a1).bind fun r1 => bif (decide (r1 < 0)) then some (-1) else ((laws_szThreadS a0.2.1 r1).bind fun r2 => bif (decide (r2 < 0)) then some (-1) else ((laws_szEntryS a0.2.2.1 r2).bind fun r3 => bif (decide (r3 < 0)) then some (-1) else ((laws_szShadowS a0.2.2.2 r3).bind fun r4 => bif (decide (r4 < 0)) then some (-1) else some r4))) :=
  (Den_eq cfg 6 _).trans (by kernel_rfl)
noncomputable def spec_l01In (a0 a1 a2 : Int) : Option Bool := Den cfg 101 [.v (.int .i64 a0), .v (.int .i64 a1), .v (.int .i64 a2)]
theorem spec_l01In_eq (a0 a1 a2 : Int) : spec_l01In a0 a1 a2 = bif (decide (a0 ≥ a1)) then some (decide (a0 ≤ a2)) else some false :=
  (Den_eq cfg 101 _).trans (by kernel_rfl)
noncomputable def spec_l04Base (a0 : Int) : Option Bool := Den cfg 108 [.v (.int .i64 a0)]
theorem spec_l04Base_eq (a0 : Int) : spec_l04Base a0 = (spec_l01In a0 0 1048575).bind fun r1 => bif r1 then some (decide ((a0.tmod 128) = 0)) else some false :=
  (Den_eq cfg 108 _).trans (by kernel_rfl)
noncomputable def spec_l04Perm (a0 : Int) : Option Bool := Den cfg 109 [.v (.int .i64 a0)]
theorem spec_l04Perm_eq (a0 : Int) : spec_l04Perm a0 = (spec_l01In a0 0 15).bind fun r1 => some r1 :=
  (Den_eq cfg 109 _).trans (by kernel_rfl)
noncomputable def spec_MemoryOK (a0 : List D0) : Option Bool := Den cfg 64 [.agg [.list Y2 a0]]
noncomputable def spec_MemoryOK.l11010 (x1 : List D0) (x3 : Int) : Option Bool := LA 64 Tryz.f64 [1, 1, 0, 1, 0] ⟨53, assocSV [vP 1 191, vI 3 x3], assocB [(191, .box [.list Y2 x1])]⟩
theorem spec_MemoryOK_eq (a0 : List D0) : spec_MemoryOK a0 = bif (decide ((a0.length : Int) > 64)) then some false else spec_MemoryOK.l11010 a0 0 :=
  (Den_eq cfg 64 _).trans (by kernel_rfl)
theorem spec_MemoryOK.l11010_eq (x1 : List D0) (x3 : Int) : spec_MemoryOK.l11010 x1 x3 = bif (decide (x3 < (x1.length : Int))) then (bif (inL x3 (x1.length)) then ((spec_l04Base ((rd (τ := Y2) x1 x3).1)).bind fun r1 => bif (!r1) then some false else ((spec_l04Perm ((rd (τ := Y2) x1 x3).2.1)).bind fun r2 => bif (!r2) then some false else (bif (!decide ((((rd (τ := Y2) x1 x3).2.2).size : Int) = 128)) then some false else (bif (decide (x3 > 0)) then (bif (inL (IntKind.wrap .i64 (x3 - 1)) (x1.length)) then (bif (decide ((rd (τ := Y2) x1 x3).1 ≤ (rd (τ := Y2) x1 (IntKind.wrap .i64 (x3 - 1))).1)) then some false else spec_MemoryOK.l11010 x1 (IntKind.wrap .i64 (x3 + 1))) else none) else spec_MemoryOK.l11010 x1 (IntKind.wrap .i64 (x3 + 1)))))) else none) else some true :=
  (Lp_eq cfg 64 _ _ _).trans (by kernel_rfl)
noncomputable def spec_l00Letter (a0 : Int) : Option Bool := Den cfg 140 [.v (.int .u8 a0)]
theorem spec_l00Letter_eq (a0 : Int) : spec_l00Letter a0 = bif (decide (a0 ≥ 97)) then (bif (decide (a0 ≤ 122)) then some true else (bif (decide (a0 ≥ 65)) then (bif (decide (a0 ≤ 90)) then some true else some (decide (a0 = 95))) else some (decide (a0 = 95)))) else (bif (decide (a0 ≥ 65)) then (bif (decide (a0 ≤ 90)) then some true else some (decide (a0 = 95))) else some (decide (a0 = 95))) :=
  (Den_eq cfg 140 _).trans (by kernel_rfl)
noncomputable def spec_l00Digit (a0 : Int) : Option Bool := Den cfg 141 [.v (.int .u8 a0)]
theorem spec_l00Digit_eq (a0 : Int) : spec_l00Digit a0 = bif (decide (a0 ≥ 48)) then some (decide (a0 ≤ 57)) else some false :=
  (Den_eq cfg 141 _).trans (by kernel_rfl)
noncomputable def spec_l00Word (a0 : ByteArray) : Option Bool := Den cfg 102 [.v (.str a0)]
noncomputable def spec_l00Word.l11010 (x0 : ByteArray) (x3 : Int) : Option Bool := LA 102 Tryz.f102 [1, 1, 0, 1, 0] ⟨36, assocSV [(0, .v (.str x0)), vI 3 x3], assocB []⟩
theorem spec_l00Word_eq (a0 : ByteArray) : spec_l00Word a0 = bif (decide ((a0.size : Int) < 1)) then some false else (bif (decide ((a0.size : Int) > 20)) then some false else (bif (inL 0 a0.size) then ((spec_l00Letter (bt a0 0)).bind fun r1 => bif (!r1) then some false else spec_l00Word.l11010 a0 1) else none)) :=
  (Den_eq cfg 102 _).trans (by kernel_rfl)
theorem spec_l00Word.l11010_eq (x0 : ByteArray) (x3 : Int) : spec_l00Word.l11010 x0 x3 = bif (decide (x3 < (x0.size : Int))) then (bif (inL x3 x0.size) then ((spec_l00Letter (bt x0 x3)).bind fun r6 => bif (!r6) then (bif (inL x3 x0.size) then ((spec_l00Digit (bt x0 x3)).bind fun r7 => bif (!r7) then some false else spec_l00Word.l11010 x0 (IntKind.wrap .i64 (x3 + 1))) else none) else spec_l00Word.l11010 x0 (IntKind.wrap .i64 (x3 + 1))) else none) else some true :=
  (Lp_eq cfg 102 _ _ _).trans (by kernel_rfl)
noncomputable def spec_FrameOK (a0 : Int) : Option Bool := Den cfg 142 [.v (.int .i64 a0)]
theorem spec_FrameOK_eq (a0 : Int) : spec_FrameOK a0 = (spec_l01In a0 16 128).bind fun r1 => bif r1 then some (decide ((a0.tmod 16) = 0)) else some false :=
  (Den_eq cfg 142 _).trans (by kernel_rfl)
noncomputable def spec_l10Entry (a0 : D2) : Option Bool := Den cfg 110 [.agg [.str a0.1, .int .i64 a0.2.1, .int .i64 a0.2.2.1, .int .i64 a0.2.2.2.1, .int .i64 a0.2.2.2.2.1, .int .i64 a0.2.2.2.2.2]]
theorem spec_l10Entry_eq (a0 : D2) : spec_l10Entry a0 = joinB (fun kr18 => (spec_l00Word a0.1).bind fun r1 => bif (!r1) then kr18 true else ((spec_l01In a0.2.2.1 0 1048575).bind fun r2 => bif (!r2) then kr18 true else (bif (!decide ((a0.2.2.1.tmod 4) = 0)) then kr18 true else ((spec_l01In a0.2.2.2.1 1 1024).bind fun r3 => bif (!r3) then kr18 true else ((spec_l01In a0.2.2.2.2.2 0 6).bind fun r4 => kr18 (!r4)))))) fun (r12 : Bool) => bif r12 then some false else (bif (decide (a0.2.1 = 1)) then ((spec_FrameOK a0.2.2.2.2.1).bind fun r13 => bif r13 then some true else (bif (decide (a0.2.1 = 2)) then some (decide (a0.2.2.2.2.1 = 0)) else some false)) else (bif (decide (a0.2.1 = 2)) then some (decide (a0.2.2.2.2.1 = 0)) else some false)) :=
  (Den_eq cfg 110 _).trans (by kernel_rfl)
noncomputable def spec_l10Find (a0 : List D2) (a1 : ByteArray) : Option Int := Den cfg 111 [.v (.list Y3 a0), .v (.str a1)]
noncomputable def spec_l10Find.l1010 (x0 : List D2) (x1 : ByteArray) (x5 : Int) : Option Int := LA 111 Tryz.f111 [1, 0, 1, 0] ⟨20, assocSV [vL 0 Y3 x0, (1, .v (.str x1)), vI 5 x5], assocB []⟩
theorem spec_l10Find_eq (a0 : List D2) (a1 : ByteArray) : spec_l10Find a0 a1 = spec_l10Find.l1010 a0 a1 0 :=
  (Den_eq cfg 111 _).trans (by kernel_rfl)
theorem spec_l10Find.l1010_eq (x0 : List D2) (x1 : ByteArray) (x5 : Int) : spec_l10Find.l1010 x0 x1 x5 = bif (decide (x5 < (x0.length : Int))) then (bif (inL x5 (x0.length)) then (bif (strEq ((rd (τ := Y3) x0 x5).1) x1) then some x5 else spec_l10Find.l1010 x0 x1 (IntKind.wrap .i64 (x5 + 1))) else none) else some (-1) :=
  (Lp_eq cfg 111 _ _ _).trans (by kernel_rfl)
noncomputable def spec_TableOK (a0 : List D2) : Option Bool := Den cfg 65 [.v (.list Y3 a0)]
noncomputable def spec_TableOK.l111010 (x0 : List D2) (x3 : Int) : Option Bool := LA 65 Tryz.f65 [1, 1, 1, 0, 1, 0] ⟨34, assocSV [vL 0 Y3 x0, vI 3 x3], assocB []⟩
theorem spec_TableOK_eq (a0 : List D2) : spec_TableOK a0 = bif (decide ((a0.length : Int) > 4096)) then some false else (bif (decide ((a0.length : Int) > 64)) then some false else spec_TableOK.l111010 a0 0) :=
  (Den_eq cfg 65 _).trans (by kernel_rfl)
theorem spec_TableOK.l111010_eq (x0 : List D2) (x3 : Int) : spec_TableOK.l111010 x0 x3 = bif (decide (x3 < (x0.length : Int))) then (bif (inL x3 (x0.length)) then ((spec_l10Entry (rd (τ := Y3) x0 x3)).bind fun r1 => bif (!r1) then some false else (bif (decide (0 ≤ 0) && decide (0 ≤ x3) && decide (x3 ≤ (x0.length : Int))) then (bif (inL x3 (x0.length)) then ((spec_l10Find ((x0.take (Int.toNat x3)).drop (Int.toNat 0)) ((rd (τ := Y3) x0 x3).1)).bind fun r2 => bif (decide (r2 ≥ 0)) then some false else spec_TableOK.l111010 x0 (IntKind.wrap .i64 (x3 + 1))) else none) else none)) else none) else some true :=
  (Lp_eq cfg 65 _ _ _).trans (by kernel_rfl)
noncomputable def spec_l11Id (a0 : Int) : Option Bool := Den cfg 103 [.v (.int .i64 a0)]
theorem spec_l11Id_eq (a0 : Int) : spec_l11Id a0 = (spec_l01In a0 0 255).bind fun r1 => some r1 :=
  (Den_eq cfg 103 _).trans (by kernel_rfl)
noncomputable def spec_l00Less (a0 a1 : List Int) : Option Bool := Den cfg 112 [.v (.list (.int .i64) a0), .v (.list (.int .i64) a1)]
noncomputable def spec_l00Less.l1010 (x0 x1 : List Int) (x5 : Int) : Option Bool := LA 112 Tryz.f112 [1, 0, 1, 0] ⟨41, assocSV [vL 0 (.int .i64) x0, vL 1 (.int .i64) x1, vI 5 x5], assocB []⟩
theorem spec_l00Less_eq (a0 a1 : List Int) : spec_l00Less a0 a1 = spec_l00Less.l1010 a0 a1 0 :=
  (Den_eq cfg 112 _).trans (by kernel_rfl)
theorem spec_l00Less.l1010_eq (x0 x1 : List Int) (x5 : Int) : spec_l00Less.l1010 x0 x1 x5 = joinB (fun kr3 => bif (decide (x5 < (x0.length : Int))) then kr3 (decide (x5 < (x1.length : Int))) else kr3 false) fun (r2 : Bool) => bif r2 then (bif (inL x5 (x0.length)) then (bif (inL x5 (x1.length)) then (bif (!decide ((rd (τ := (.int .i64)) x0 x5) = (rd (τ := (.int .i64)) x1 x5))) then (bif (inL x5 (x0.length)) then (bif (inL x5 (x1.length)) then some (decide ((rd (τ := (.int .i64)) x0 x5) < (rd (τ := (.int .i64)) x1 x5))) else none) else none) else spec_l00Less.l1010 x0 x1 (IntKind.wrap .i64 (x5 + 1))) else none) else none) else some (decide ((x0.length : Int) < (x1.length : Int))) :=
  (Lp_eq cfg 112 _ _ _).trans (by kernel_rfl)
noncomputable def spec_ShadowsOK (a0 : List (Int × Int × Int)) : Option Bool := Den cfg 66 [.v (.list Y4 a0)]
noncomputable def spec_ShadowsOK.l111010 (x0 : List (Int × Int × Int)) (x3 : Int) : Option Bool := LA 66 Tryz.f66 [1, 1, 1, 0, 1, 0] ⟨53, assocSV [vL 0 Y4 x0, vI 3 x3], assocB []⟩
theorem spec_ShadowsOK_eq (a0 : List (Int × Int × Int)) : spec_ShadowsOK a0 = bif (decide ((a0.length : Int) > 4096)) then some false else (bif (decide ((a0.length : Int) > 16)) then some false else spec_ShadowsOK.l111010 a0 0) :=
  (Den_eq cfg 66 _).trans (by kernel_rfl)
theorem spec_ShadowsOK.l111010_eq (x0 : List (Int × Int × Int)) (x3 : Int) : spec_ShadowsOK.l111010 x0 x3 = bif (decide (x3 < (x0.length : Int))) then (bif (inL x3 (x0.length)) then ((spec_l11Id ((rd (τ := Y4) x0 x3).2.1)).bind fun r1 => bif (!r1) then some false else (bif (decide (x3 > 0)) then (bif (inL (IntKind.wrap .i64 (x3 - 1)) (x0.length)) then (bif (inL (IntKind.wrap .i64 (x3 - 1)) (x0.length)) then (bif (inL x3 (x0.length)) then (bif (inL x3 (x0.length)) then ((spec_l00Less [(rd (τ := Y4) x0 (IntKind.wrap .i64 (x3 - 1))).1, (rd (τ := Y4) x0 (IntKind.wrap .i64 (x3 - 1))).2.1] [(rd (τ := Y4) x0 x3).1, (rd (τ := Y4) x0 x3).2.1]).bind fun r2 => bif (!r2) then some false else spec_ShadowsOK.l111010 x0 (IntKind.wrap .i64 (x3 + 1))) else none) else none) else none) else none) else spec_ShadowsOK.l111010 x0 (IntKind.wrap .i64 (x3 + 1)))) else none) else some true :=
  (Lp_eq cfg 66 _ _ _).trans (by kernel_rfl)
noncomputable def spec_HartOK (a0 : List Int × Int) : Option Bool := Den cfg 113 [.agg [.seg (.int .i64) 32 a0.1, .int .i64 a0.2]]
theorem spec_HartOK_eq (a0 : List Int × Int) : spec_HartOK a0 = bif (inL 0 32) then some (decide ((rd (τ := (.int .i64)) a0.1 0) = 0)) else none :=
  (Den_eq cfg 113 _).trans (by kernel_rfl)
noncomputable def spec_l12Thread (a0 : D1) : Option Bool := Den cfg 67 [.agg [.int .i64 a0.1, .seg (.int .i64) 32 a0.2.1.1, .int .i64 a0.2.1.2, .list (.int .i64) a0.2.2.1, .int .i64 a0.2.2.2]]
theorem spec_l12Thread_eq (a0 : D1) : spec_l12Thread a0 = joinB (fun kr8 => (spec_l01In a0.1 1 3).bind fun r1 => bif (!r1) then kr8 true else ((spec_HartOK a0.2.1).bind fun r2 => bif (!r2) then kr8 true else kr8 (decide ((a0.2.2.1.length : Int) > 32)))) fun (r6 : Bool) => bif r6 then some false else (bif (decide (a0.1 = 3)) then ((spec_l01In a0.2.2.2 1 31).bind fun r7 => some r7) else some (decide (a0.2.2.2 = 0))) :=
  (Den_eq cfg 67 _).trans (by kernel_rfl)
noncomputable def spec_MachineOK (a0 : D3) : Option Bool := Den cfg 28 [.agg [.list Y2 a0.1, .list Y1 a0.2.1, .list Y3 a0.2.2.1, .list Y4 a0.2.2.2]]
noncomputable def spec_MachineOK.l11010 (x1 : D3) (x3 : Int) : Option Bool := LA 28 Tryz.f28 [1, 1, 0, 1, 0] ⟨46, assocSV [vP 1 191, vI 3 x3], assocB [(191, .box [.list Y2 x1.1, .list Y1 x1.2.1, .list Y3 x1.2.2.1, .list Y4 x1.2.2.2])]⟩
theorem spec_MachineOK_eq (a0 : D3) : spec_MachineOK a0 = (spec_MemoryOK a0.1).bind fun r1 => bif (!r1) then some false else (bif (decide ((a0.2.1.length : Int) < 1)) then some false else (bif (decide ((a0.2.1.length : Int) > 4)) then some false else ((spec_TableOK a0.2.2.1).bind fun r2 => bif (!r2) then some false else ((spec_ShadowsOK a0.2.2.2).bind fun r3 => bif (!r3) then some false else spec_MachineOK.l11010 a0 0)))) :=
  (Den_eq cfg 28 _).trans (by kernel_rfl)
theorem spec_MachineOK.l11010_eq (x1 : D3) (x3 : Int) : spec_MachineOK.l11010 x1 x3 = bif (decide (x3 < (x1.2.1.length : Int))) then (bif (inL x3 (x1.2.1.length)) then ((spec_l12Thread (rd (τ := Y1) x1.2.1 x3)).bind fun r12 => bif (!r12) then some false else spec_MachineOK.l11010 x1 (IntKind.wrap .i64 (x3 + 1))) else none) else some true :=
  (Lp_eq cfg 28 _ _ _).trans (by kernel_rfl)
noncomputable def spec_CodeWord (a0 : Int) : Option ByteArray := Den cfg 68 [.v (.int .i64 a0)]
theorem spec_CodeWord_eq (a0 : Int) : spec_CodeWord a0 = joinB (fun kr3 => bif (decide (a0 < 0)) then kr3 true else kr3 (decide (a0 ≥ ([(⟨#[111, 107]⟩ : ByteArray), (⟨#[98, 97, 100]⟩ : ByteArray), (⟨#[108, 111, 110, 103]⟩ : ByteArray), (⟨#[102, 111, 114, 109]⟩ : ByteArray), (⟨#[114, 97, 110, 103, 101]⟩ : ByteArray), (⟨#[110, 111, 110, 101]⟩ : ByteArray), (⟨#[109, 97, 110, 121]⟩ : ByteArray), (⟨#[102, 117, 108, 108]⟩ : ByteArray), (⟨#[115, 105, 122, 101]⟩ : ByteArray), (⟨#[115, 117, 109]⟩ : ByteArray), (⟨#[99, 111, 100, 101]⟩ : ByteArray), (⟨#[97, 108, 105, 103, 110]⟩ : ByteArray), (⟨#[112, 97, 103, 101]⟩ : ByteArray), (⟨#[112, 101, 114, 109]⟩ : ByteArray), (⟨#[115, 116, 97, 99, 107]⟩ : ByteArray), (⟨#[101, 99, 97, 108, 108]⟩ : ByteArray), (⟨#[98, 114, 101, 97, 107]⟩ : ByteArray), (⟨#[102, 114, 97, 109, 101]⟩ : ByteArray), (⟨#[114, 101, 116, 117, 114, 110]⟩ : ByteArray), (⟨#[106, 117, 109, 112]⟩ : ByteArray), (⟨#[99, 97, 108, 108]⟩ : ByteArray), (⟨#[114, 101, 103]⟩ : ByteArray), (⟨#[101, 110, 100]⟩ : ByteArray), (⟨#[115, 121, 109, 98, 111, 108]⟩ : ByteArray), (⟨#[99, 108, 97, 115, 104]⟩ : ByteArray), (⟨#[114, 101, 97, 99, 104]⟩ : ByteArray), (⟨#[107, 105, 110, 100]⟩ : ByteArray), (⟨#[100, 101, 112, 116, 104]⟩ : ByteArray), (⟨#[98, 117, 115, 121]⟩ : ByteArray), (⟨#[116, 111, 112]⟩ : ByteArray), (⟨#[115, 104, 97, 100, 111, 119]⟩ : ByteArray), (⟨#[100, 111, 110, 101]⟩ : ByteArray)].length : Int)))) fun (r2 : Bool) => bif r2 then some (⟨#[]⟩ : ByteArray) else (bif (inL a0 ([(⟨#[111, 107]⟩ : ByteArray), (⟨#[98, 97, 100]⟩ : ByteArray), (⟨#[108, 111, 110, 103]⟩ : ByteArray), (⟨#[102, 111, 114, 109]⟩ : ByteArray), (⟨#[114, 97, 110, 103, 101]⟩ : ByteArray), (⟨#[110, 111, 110, 101]⟩ : ByteArray), (⟨#[109, 97, 110, 121]⟩ : ByteArray), (⟨#[102, 117, 108, 108]⟩ : ByteArray), (⟨#[115, 105, 122, 101]⟩ : ByteArray), (⟨#[115, 117, 109]⟩ : ByteArray), (⟨#[99, 111, 100, 101]⟩ : ByteArray), (⟨#[97, 108, 105, 103, 110]⟩ : ByteArray), (⟨#[112, 97, 103, 101]⟩ : ByteArray), (⟨#[112, 101, 114, 109]⟩ : ByteArray), (⟨#[115, 116, 97, 99, 107]⟩ : ByteArray), (⟨#[101, 99, 97, 108, 108]⟩ : ByteArray), (⟨#[98, 114, 101, 97, 107]⟩ : ByteArray), (⟨#[102, 114, 97, 109, 101]⟩ : ByteArray), (⟨#[114, 101, 116, 117, 114, 110]⟩ : ByteArray), (⟨#[106, 117, 109, 112]⟩ : ByteArray), (⟨#[99, 97, 108, 108]⟩ : ByteArray), (⟨#[114, 101, 103]⟩ : ByteArray), (⟨#[101, 110, 100]⟩ : ByteArray), (⟨#[115, 121, 109, 98, 111, 108]⟩ : ByteArray), (⟨#[99, 108, 97, 115, 104]⟩ : ByteArray), (⟨#[114, 101, 97, 99, 104]⟩ : ByteArray), (⟨#[107, 105, 110, 100]⟩ : ByteArray), (⟨#[100, 101, 112, 116, 104]⟩ : ByteArray), (⟨#[98, 117, 115, 121]⟩ : ByteArray), (⟨#[116, 111, 112]⟩ : ByteArray), (⟨#[115, 104, 97, 100, 111, 119]⟩ : ByteArray), (⟨#[100, 111, 110, 101]⟩ : ByteArray)].length)) then some (rd (τ := .str) [(⟨#[111, 107]⟩ : ByteArray), (⟨#[98, 97, 100]⟩ : ByteArray), (⟨#[108, 111, 110, 103]⟩ : ByteArray), (⟨#[102, 111, 114, 109]⟩ : ByteArray), (⟨#[114, 97, 110, 103, 101]⟩ : ByteArray), (⟨#[110, 111, 110, 101]⟩ : ByteArray), (⟨#[109, 97, 110, 121]⟩ : ByteArray), (⟨#[102, 117, 108, 108]⟩ : ByteArray), (⟨#[115, 105, 122, 101]⟩ : ByteArray), (⟨#[115, 117, 109]⟩ : ByteArray), (⟨#[99, 111, 100, 101]⟩ : ByteArray), (⟨#[97, 108, 105, 103, 110]⟩ : ByteArray), (⟨#[112, 97, 103, 101]⟩ : ByteArray), (⟨#[112, 101, 114, 109]⟩ : ByteArray), (⟨#[115, 116, 97, 99, 107]⟩ : ByteArray), (⟨#[101, 99, 97, 108, 108]⟩ : ByteArray), (⟨#[98, 114, 101, 97, 107]⟩ : ByteArray), (⟨#[102, 114, 97, 109, 101]⟩ : ByteArray), (⟨#[114, 101, 116, 117, 114, 110]⟩ : ByteArray), (⟨#[106, 117, 109, 112]⟩ : ByteArray), (⟨#[99, 97, 108, 108]⟩ : ByteArray), (⟨#[114, 101, 103]⟩ : ByteArray), (⟨#[101, 110, 100]⟩ : ByteArray), (⟨#[115, 121, 109, 98, 111, 108]⟩ : ByteArray), (⟨#[99, 108, 97, 115, 104]⟩ : ByteArray), (⟨#[114, 101, 97, 99, 104]⟩ : ByteArray), (⟨#[107, 105, 110, 100]⟩ : ByteArray), (⟨#[100, 101, 112, 116, 104]⟩ : ByteArray), (⟨#[98, 117, 115, 121]⟩ : ByteArray), (⟨#[116, 111, 112]⟩ : ByteArray), (⟨#[115, 104, 97, 100, 111, 119]⟩ : ByteArray), (⟨#[100, 111, 110, 101]⟩ : ByteArray)] a0) else none) :=
  (Den_eq cfg 68 _).trans (by kernel_rfl)
noncomputable def spec_l00Digits (a0 : Int) : Option ByteArray := Den cfg 69 [.v (.int .i64 a0)]
theorem spec_l00Digits_eq (a0 : Int) : spec_l00Digits a0 = bif (decide (a0 = (-9223372036854775808))) then some (⟨#[45, 57, 50, 50, 51, 51, 55, 50, 48, 51, 54, 56, 53, 52, 55, 55, 53, 56, 48, 56]⟩ : ByteArray) else (bif (decide (a0 < 0)) then ((spec_l00Digits (IntKind.wrap .i64 (0 - a0))).bind fun r1 => bif (decide ((⟨#[45]⟩ : ByteArray).size + r1.size ≤ 9223372036854775807)) then some ((⟨#[45]⟩ : ByteArray) ++ r1) else none) else (bif (decide (a0 < 10)) then some (bytesOf [(IntKind.wrap .u8 ((IntKind.wrap .i64 (48 + a0))))]) else ((spec_l00Digits (IntKind.wrap .i64 (a0.tdiv 10))).bind fun r2 => bif (decide (r2.size + (bytesOf [(IntKind.wrap .u8 ((IntKind.wrap .i64 (48 + (a0.tmod 10)))))]).size ≤ 9223372036854775807)) then some (r2 ++ (bytesOf [(IntKind.wrap .u8 ((IntKind.wrap .i64 (48 + (a0.tmod 10)))))])) else none))) :=
  (Den_eq cfg 69 _).trans (by kernel_rfl)
noncomputable def spec_l17Thread (a0 : D3) (a1 : Int) : Option ByteArray := Den cfg 29 [.agg [.list Y2 a0.1, .list Y1 a0.2.1, .list Y3 a0.2.2.1, .list Y4 a0.2.2.2], .v (.int .i64 a1)]
noncomputable def spec_l17Thread.l11111010 (x5 : D1) (x7 : ByteArray) (x8 : Int) : Option ByteArray := LA 29 Tryz.f29 [1, 1, 1, 1, 1, 0, 1, 0] ⟨66, assocSV [vP 5 703, (7, .v (.str x7)), vI 8 x8], assocB [(703, .box [.int .i64 x5.1, .seg (.int .i64) 32 x5.2.1.1, .int .i64 x5.2.1.2, .list (.int .i64) x5.2.2.1, .int .i64 x5.2.2.2])]⟩
theorem spec_l17Thread_eq (a0 : D3) (a1 : Int) : spec_l17Thread a0 a1 = bif (inL a1 (a0.2.1.length)) then (bif (inL (IntKind.wrap .i64 ((rd (τ := Y1) a0.2.1 a1).1 - 1)) ([(⟨#[114, 117, 110]⟩ : ByteArray), (⟨#[100, 111, 110, 101]⟩ : ByteArray), (⟨#[116, 114, 97, 112]⟩ : ByteArray)].length)) then (joinB (fun kr6 => bif (decide ((rd (τ := Y1) a0.2.1 a1).1 = 3)) then ((spec_CodeWord ((rd (τ := Y1) a0.2.1 a1).2.2.2)).bind fun r1 => bif (decide ((⟨#[32]⟩ : ByteArray).size + r1.size ≤ 9223372036854775807)) then (bif (decide ((rd (τ := .str) [(⟨#[114, 117, 110]⟩ : ByteArray), (⟨#[100, 111, 110, 101]⟩ : ByteArray), (⟨#[116, 114, 97, 112]⟩ : ByteArray)] (IntKind.wrap .i64 ((rd (τ := Y1) a0.2.1 a1).1 - 1))).size + ((⟨#[32]⟩ : ByteArray) ++ r1).size ≤ 9223372036854775807)) then kr6 ((rd (τ := .str) [(⟨#[114, 117, 110]⟩ : ByteArray), (⟨#[100, 111, 110, 101]⟩ : ByteArray), (⟨#[116, 114, 97, 112]⟩ : ByteArray)] (IntKind.wrap .i64 ((rd (τ := Y1) a0.2.1 a1).1 - 1))) ++ ((⟨#[32]⟩ : ByteArray) ++ r1)) else none) else none) else kr6 (rd (τ := .str) [(⟨#[114, 117, 110]⟩ : ByteArray), (⟨#[100, 111, 110, 101]⟩ : ByteArray), (⟨#[116, 114, 97, 112]⟩ : ByteArray)] (IntKind.wrap .i64 ((rd (τ := Y1) a0.2.1 a1).1 - 1)))) fun (r2 : ByteArray) => (spec_l00Digits a1).bind fun r3 => bif (decide ((⟨#[116, 104, 114, 101, 97, 100, 32]⟩ : ByteArray).size + r3.size ≤ 9223372036854775807)) then (bif (decide (((⟨#[116, 104, 114, 101, 97, 100, 32]⟩ : ByteArray) ++ r3).size + (⟨#[32]⟩ : ByteArray).size ≤ 9223372036854775807)) then (bif (decide ((((⟨#[116, 104, 114, 101, 97, 100, 32]⟩ : ByteArray) ++ r3) ++ (⟨#[32]⟩ : ByteArray)).size + r2.size ≤ 9223372036854775807)) then (bif (decide (((((⟨#[116, 104, 114, 101, 97, 100, 32]⟩ : ByteArray) ++ r3) ++ (⟨#[32]⟩ : ByteArray)) ++ r2).size + (⟨#[32, 112, 99, 32]⟩ : ByteArray).size ≤ 9223372036854775807)) then ((spec_l00Digits ((rd (τ := Y1) a0.2.1 a1).2.1.2)).bind fun r4 => bif (decide ((((((⟨#[116, 104, 114, 101, 97, 100, 32]⟩ : ByteArray) ++ r3) ++ (⟨#[32]⟩ : ByteArray)) ++ r2) ++ (⟨#[32, 112, 99, 32]⟩ : ByteArray)).size + r4.size ≤ 9223372036854775807)) then (bif (decide (((((((⟨#[116, 104, 114, 101, 97, 100, 32]⟩ : ByteArray) ++ r3) ++ (⟨#[32]⟩ : ByteArray)) ++ r2) ++ (⟨#[32, 112, 99, 32]⟩ : ByteArray)) ++ r4).size + (⟨#[32, 115, 112, 32]⟩ : ByteArray).size ≤ 9223372036854775807)) then (bif (inL 2 32) then ((spec_l00Digits (rd (τ := (.int .i64)) ((rd (τ := Y1) a0.2.1 a1).2.1.1) 2)).bind fun r5 => bif (decide ((((((((⟨#[116, 104, 114, 101, 97, 100, 32]⟩ : ByteArray) ++ r3) ++ (⟨#[32]⟩ : ByteArray)) ++ r2) ++ (⟨#[32, 112, 99, 32]⟩ : ByteArray)) ++ r4) ++ (⟨#[32, 115, 112, 32]⟩ : ByteArray)).size + r5.size ≤ 9223372036854775807)) then (bif (decide (((((((((⟨#[116, 104, 114, 101, 97, 100, 32]⟩ : ByteArray) ++ r3) ++ (⟨#[32]⟩ : ByteArray)) ++ r2) ++ (⟨#[32, 112, 99, 32]⟩ : ByteArray)) ++ r4) ++ (⟨#[32, 115, 112, 32]⟩ : ByteArray)) ++ r5).size + (⟨#[32, 111, 117, 116]⟩ : ByteArray).size ≤ 9223372036854775807)) then spec_l17Thread.l11111010 (rd (τ := Y1) a0.2.1 a1) (((((((((⟨#[116, 104, 114, 101, 97, 100, 32]⟩ : ByteArray) ++ r3) ++ (⟨#[32]⟩ : ByteArray)) ++ r2) ++ (⟨#[32, 112, 99, 32]⟩ : ByteArray)) ++ r4) ++ (⟨#[32, 115, 112, 32]⟩ : ByteArray)) ++ r5) ++ (⟨#[32, 111, 117, 116]⟩ : ByteArray)) 0 else none) else none) else none) else none) else none) else none) else none) else none) else none) else none) else none :=
  (Den_eq cfg 29 _).trans (by kernel_rfl)
theorem spec_l17Thread.l11111010_eq (x5 : D1) (x7 : ByteArray) (x8 : Int) : spec_l17Thread.l11111010 x5 x7 x8 = bif (decide (x8 < (x5.2.2.1.length : Int))) then (bif (inL x8 (x5.2.2.1.length)) then ((spec_l00Digits (rd (τ := (.int .i64)) x5.2.2.1 x8)).bind fun r7 => bif (decide ((⟨#[32]⟩ : ByteArray).size + r7.size ≤ 9223372036854775807)) then (bif (decide (x7.size + ((⟨#[32]⟩ : ByteArray) ++ r7).size ≤ 9223372036854775807)) then spec_l17Thread.l11111010 x5 (x7 ++ ((⟨#[32]⟩ : ByteArray) ++ r7)) (IntKind.wrap .i64 (x8 + 1)) else none) else none) else none) else some x7 :=
  (Lp_eq cfg 29 _ _ _).trans (by kernel_rfl)
noncomputable def spec_ThreadText (a0 : D3) (a1 : Int) : Option (ByteArray × Int) := Den cfg 7 [.agg [.list Y2 a0.1, .list Y1 a0.2.1, .list Y3 a0.2.2.1, .list Y4 a0.2.2.2], .v (.int .i64 a1)]
theorem spec_ThreadText_eq (a0 : D3) (a1 : Int) : spec_ThreadText a0 a1 = (spec_MachineOK a0).bind fun r1 => bif (!r1) then some ((⟨#[]⟩ : ByteArray), 1) else (bif (decide (a1 < 0)) then some ((⟨#[]⟩ : ByteArray), 5) else (bif (decide (a1 ≥ (a0.2.1.length : Int))) then some ((⟨#[]⟩ : ByteArray), 5) else ((spec_l17Thread a0 a1).bind fun r5 => some (r5, 0)))) :=
  (Den_eq cfg 7 _).trans (by kernel_rfl)
noncomputable def laws_toPage (a0 : D0) : Option D0 := Den cfg 114 [.agg [.int .i64 a0.1, .int .i64 a0.2.1, .str a0.2.2]]
theorem laws_toPage_eq (a0 : D0) : laws_toPage a0 = some a0 :=
  (Den_eq cfg 114 _).trans (by kernel_rfl)
noncomputable def laws_toPageS (a0 : List D0) : Option (List D0) := Den cfg 70 [.v (.list Y2 a0)]
noncomputable def laws_toPageS.l11010 (x0 x3 : List D0) (x4 : Int) : Option (List D0) := LA 70 Tryz.f70 [1, 1, 0, 1, 0] ⟨23, assocSV [vL 0 Y2 x0, (3, .v (.own 416)), vI 4 x4], assocB [(416, .rows 144 Y2 .no x3)]⟩
theorem laws_toPageS_eq (a0 : List D0) : laws_toPageS a0 = bif (decide (0 ≤ (a0.length : Int)) && roomB (Int.toNat (a0.length : Int)) 32) then laws_toPageS.l11010 a0 (List.replicate (Int.toNat (a0.length : Int)) (0, 0, (⟨#[]⟩ : ByteArray))) 0 else none :=
  (Den_eq cfg 70 _).trans (by kernel_rfl)
theorem laws_toPageS.l11010_eq (x0 x3 : List D0) (x4 : Int) : laws_toPageS.l11010 x0 x3 x4 = bif (decide (x4 < (x0.length : Int))) then (bif (inL x4 (x0.length)) then ((laws_toPage (rd (τ := Y2) x0 x4)).bind fun r1 => bif (inL x4 (x3.length)) then laws_toPageS.l11010 x0 (x3.set (Int.toNat x4) r1) (IntKind.wrap .i64 (x4 + 1)) else none) else none) else some x3 :=
  (Lp_eq cfg 70 _ _ _).trans (by kernel_rfl)
noncomputable def laws_toMemory (a0 : List D0) : Option (List D0) := Den cfg 30 [.agg [.list Y2 a0]]
theorem laws_toMemory_eq (a0 : List D0) : laws_toMemory a0 = (laws_toPageS a0).bind fun r1 => some r1 :=
  (Den_eq cfg 30 _).trans (by kernel_rfl)
noncomputable def laws_toIntA32 (a0 : List Int) : Option (List Int) := Den cfg 143 [.agg [.seg (.int .i64) 32 a0]]
noncomputable def laws_toIntA32.l11010 (x1 x2 x3 : List Int) (x4 : Int) : Option (List Int) := LA 143 Tryz.f143 [1, 1, 0, 1, 0] ⟨15, assocSV [vP 1 191, vP 2 319, vP 3 447, vI 4 x4], assocB [(191, .box [.seg (.int .i64) 32 x1]), (319, .box [.seg (.int .i64) 32 x2]), (447, .box [.seg (.int .i64) 32 x3])]⟩
theorem laws_toIntA32_eq (a0 : List Int) : laws_toIntA32 a0 = laws_toIntA32.l11010 a0 [0, 0, 0, 0, 0, 0, 0, 0, 0, 0, 0, 0, 0, 0, 0, 0, 0, 0, 0, 0, 0, 0, 0, 0, 0, 0, 0, 0, 0, 0, 0, 0] [0, 0, 0, 0, 0, 0, 0, 0, 0, 0, 0, 0, 0, 0, 0, 0, 0, 0, 0, 0, 0, 0, 0, 0, 0, 0, 0, 0, 0, 0, 0, 0] 0 :=
  (Den_eq cfg 143 _).trans (by kernel_rfl)
theorem laws_toIntA32.l11010_eq (x1 x2 x3 : List Int) (x4 : Int) : laws_toIntA32.l11010 x1 x2 x3 x4 = bif (decide (x4 < 32)) then (bif (inL x4 32) then (bif (inL x4 32) then laws_toIntA32.l11010 x1 x2 (x3.set (Int.toNat x4) (rd (τ := (.int .i64)) x1 x4)) (IntKind.wrap .i64 (x4 + 1)) else none) else none) else some x3 :=
  (Lp_eq cfg 143 _ _ _).trans (by kernel_rfl)
noncomputable def laws_toHart (a0 : List Int × Int) : Option (List Int × Int) := Den cfg 115 [.agg [.seg (.int .i64) 32 a0.1, .int .i64 a0.2]]
theorem laws_toHart_eq (a0 : List Int × Int) : laws_toHart a0 = (laws_toIntA32 a0.1).bind fun r1 => some (r1, a0.2) :=
  (Den_eq cfg 115 _).trans (by kernel_rfl)
noncomputable def laws_toIntS (a0 : List Int) : Option (List Int) := Den cfg 116 [.v (.list (.int .i64) a0)]
noncomputable def laws_toIntS.l11010 (x0 x3 : List Int) (x4 : Int) : Option (List Int) := LA 116 Tryz.f116 [1, 1, 0, 1, 0] ⟨22, assocSV [vL 0 (.int .i64) x0, (3, .v (.own 416)), vI 4 x4], assocB [(416, .rows 3 (.int .i64) .no x3)]⟩
theorem laws_toIntS_eq (a0 : List Int) : laws_toIntS a0 = bif (decide (0 ≤ (a0.length : Int)) && roomB (Int.toNat (a0.length : Int)) 8) then laws_toIntS.l11010 a0 (List.replicate (Int.toNat (a0.length : Int)) (0 : Int)) 0 else none :=
  (Den_eq cfg 116 _).trans (by kernel_rfl)
theorem laws_toIntS.l11010_eq (x0 x3 : List Int) (x4 : Int) : laws_toIntS.l11010 x0 x3 x4 = bif (decide (x4 < (x0.length : Int))) then (bif (inL x4 (x0.length)) then (bif (inL x4 (x3.length)) then laws_toIntS.l11010 x0 (x3.set (Int.toNat x4) (rd (τ := (.int .i64)) x0 x4)) (IntKind.wrap .i64 (x4 + 1)) else none) else none) else some x3 :=
  (Lp_eq cfg 116 _ _ _).trans (by kernel_rfl)
noncomputable def laws_toThread (a0 : D1) : Option D1 := Den cfg 71 [.agg [.int .i64 a0.1, .seg (.int .i64) 32 a0.2.1.1, .int .i64 a0.2.1.2, .list (.int .i64) a0.2.2.1, .int .i64 a0.2.2.2]]
theorem laws_toThread_eq (a0 : D1) : laws_toThread a0 = (laws_toHart a0.2.1).bind fun r1 => (laws_toIntS a0.2.2.1).bind fun r2 => some (a0.1, r1, r2, a0.2.2.2) :=
  (Den_eq cfg 71 _).trans (by kernel_rfl)
noncomputable def laws_toThreadS (a0 : List D1) : Option (List D1) := Den cfg 31 [.v (.list Y1 a0)]
noncomputable def laws_toThreadS.l11010 (x0 x3 : List D1) (x4 : Int) : Option (List D1) := LA 31 Tryz.f31 [1, 1, 0, 1, 0] ⟨23, assocSV [vL 0 Y1 x0, (3, .v (.own 416)), vI 4 x4], assocB [(416, .rows 77 Y1 (.pair .no (.pair .no (.pair (.own 3 .no) .no))) x3)]⟩
theorem laws_toThreadS_eq (a0 : List D1) : laws_toThreadS a0 = bif (decide (0 ≤ (a0.length : Int)) && roomB (Int.toNat (a0.length : Int)) 304) then laws_toThreadS.l11010 a0 (List.replicate (Int.toNat (a0.length : Int)) (0, ([0, 0, 0, 0, 0, 0, 0, 0, 0, 0, 0, 0, 0, 0, 0, 0, 0, 0, 0, 0, 0, 0, 0, 0, 0, 0, 0, 0, 0, 0, 0, 0], 0), [], 0)) 0 else none :=
  (Den_eq cfg 31 _).trans (by kernel_rfl)
theorem laws_toThreadS.l11010_eq (x0 x3 : List D1) (x4 : Int) : laws_toThreadS.l11010 x0 x3 x4 = bif (decide (x4 < (x0.length : Int))) then (bif (inL x4 (x0.length)) then ((laws_toThread (rd (τ := Y1) x0 x4)).bind fun r1 => bif (inL x4 (x3.length)) then laws_toThreadS.l11010 x0 (x3.set (Int.toNat x4) r1) (IntKind.wrap .i64 (x4 + 1)) else none) else none) else some x3 :=
  (Lp_eq cfg 31 _ _ _).trans (by kernel_rfl)
noncomputable def laws_toEntry (a0 : D2) : Option D2 := Den cfg 72 [.agg [.str a0.1, .int .i64 a0.2.1, .int .i64 a0.2.2.1, .int .i64 a0.2.2.2.1, .int .i64 a0.2.2.2.2.1, .int .i64 a0.2.2.2.2.2]]
theorem laws_toEntry_eq (a0 : D2) : laws_toEntry a0 = some a0 :=
  (Den_eq cfg 72 _).trans (by kernel_rfl)
noncomputable def laws_toEntryS (a0 : List D2) : Option (List D2) := Den cfg 32 [.v (.list Y3 a0)]
noncomputable def laws_toEntryS.l11010 (x0 x3 : List D2) (x4 : Int) : Option (List D2) := LA 32 Tryz.f32 [1, 1, 0, 1, 0] ⟨23, assocSV [vL 0 Y3 x0, (3, .v (.own 416)), vI 4 x4], assocB [(416, .rows 115 Y3 .no x3)]⟩
theorem laws_toEntryS_eq (a0 : List D2) : laws_toEntryS a0 = bif (decide (0 ≤ (a0.length : Int)) && roomB (Int.toNat (a0.length : Int)) 56) then laws_toEntryS.l11010 a0 (List.replicate (Int.toNat (a0.length : Int)) ((⟨#[]⟩ : ByteArray), 0, 0, 0, 0, 0)) 0 else none :=
  (Den_eq cfg 32 _).trans (by kernel_rfl)
theorem laws_toEntryS.l11010_eq (x0 x3 : List D2) (x4 : Int) : laws_toEntryS.l11010 x0 x3 x4 = bif (decide (x4 < (x0.length : Int))) then (bif (inL x4 (x0.length)) then ((laws_toEntry (rd (τ := Y3) x0 x4)).bind fun r1 => bif (inL x4 (x3.length)) then laws_toEntryS.l11010 x0 (x3.set (Int.toNat x4) r1) (IntKind.wrap .i64 (x4 + 1)) else none) else none) else some x3 :=
  (Lp_eq cfg 32 _ _ _).trans (by kernel_rfl)
noncomputable def laws_toShadow (a0 : Int × Int × Int) : Option (Int × Int × Int) := Den cfg 73 [.agg [.int .i64 a0.1, .int .i64 a0.2.1, .int .i64 a0.2.2]]
theorem laws_toShadow_eq (a0 : Int × Int × Int) : laws_toShadow a0 = some a0 :=
  (Den_eq cfg 73 _).trans (by kernel_rfl)
noncomputable def laws_toShadowS (a0 : List (Int × Int × Int)) : Option (List (Int × Int × Int)) := Den cfg 33 [.v (.list Y4 a0)]
noncomputable def laws_toShadowS.l11010 (x0 x3 : List (Int × Int × Int)) (x4 : Int) : Option (List (Int × Int × Int)) := LA 33 Tryz.f33 [1, 1, 0, 1, 0] ⟨23, assocSV [vL 0 Y4 x0, (3, .v (.own 416)), vI 4 x4], assocB [(416, .rows 85 Y4 .no x3)]⟩
theorem laws_toShadowS_eq (a0 : List (Int × Int × Int)) : laws_toShadowS a0 = bif (decide (0 ≤ (a0.length : Int)) && roomB (Int.toNat (a0.length : Int)) 24) then laws_toShadowS.l11010 a0 (List.replicate (Int.toNat (a0.length : Int)) (0, 0, 0)) 0 else none :=
  (Den_eq cfg 33 _).trans (by kernel_rfl)
theorem laws_toShadowS.l11010_eq (x0 x3 : List (Int × Int × Int)) (x4 : Int) : laws_toShadowS.l11010 x0 x3 x4 = bif (decide (x4 < (x0.length : Int))) then (bif (inL x4 (x0.length)) then ((laws_toShadow (rd (τ := Y4) x0 x4)).bind fun r1 => bif (inL x4 (x3.length)) then laws_toShadowS.l11010 x0 (x3.set (Int.toNat x4) r1) (IntKind.wrap .i64 (x4 + 1)) else none) else none) else some x3 :=
  (Lp_eq cfg 33 _ _ _).trans (by kernel_rfl)
noncomputable def laws_toMachine (a0 : D3) : Option D3 := Den cfg 8 [.agg [.list Y2 a0.1, .list Y1 a0.2.1, .list Y3 a0.2.2.1, .list Y4 a0.2.2.2]]
theorem laws_toMachine_eq (a0 : D3) : laws_toMachine a0 = (laws_toMemory a0.1).bind fun r1 => (laws_toThreadS a0.2.1).bind fun r2 => (laws_toEntryS a0.2.2.1).bind fun r3 => (laws_toShadowS a0.2.2.2).bind fun r4 => some (r1, r2, r3, r4) :=
  (Den_eq cfg 8 _).trans (by kernel_rfl)
noncomputable def impl_within (a0 a1 a2 : Int) : Option Bool := Den cfg 35 [.v (.int .i64 a0), .v (.int .i64 a1), .v (.int .i64 a2)]
theorem impl_within_eq (a0 a1 a2 : Int) : impl_within a0 a1 a2 = bif (decide (a1 ≤ a0)) then some (decide (a0 ≤ a2)) else some false :=
  (Den_eq cfg 35 _).trans (by kernel_rfl)
noncomputable def impl_isBase (a0 : Int) : Option Bool := Den cfg 117 [.v (.int .i64 a0)]
theorem impl_isBase_eq (a0 : Int) : impl_isBase a0 = (impl_within a0 0 1048575).bind fun r1 => bif r1 then some (decide ((a0.tmod 128) = 0)) else some false :=
  (Den_eq cfg 117 _).trans (by kernel_rfl)
noncomputable def impl_isPerm (a0 : Int) : Option Bool := Den cfg 118 [.v (.int .i64 a0)]
theorem impl_isPerm_eq (a0 : Int) : impl_isPerm a0 = (impl_within a0 0 15).bind fun r1 => some r1 :=
  (Den_eq cfg 118 _).trans (by kernel_rfl)
noncomputable def impl_MemoryOK (a0 : List D0) : Option Bool := Den cfg 74 [.agg [.list Y2 a0]]
noncomputable def impl_MemoryOK.l11010 (x1 x10 : List D0) (x11 x12 : Int) : Option Bool := LA 74 Tryz.f74 [1, 1, 0, 1, 0] ⟨50, assocSV [vP 1 191, vL 10 Y2 x10, vI 11 x11, vI 12 x12], assocB [(191, .box [.list Y2 x1])]⟩
theorem impl_MemoryOK_eq (a0 : List D0) : impl_MemoryOK a0 = bif (decide ((a0.length : Int) > 64)) then some false else impl_MemoryOK.l11010 a0 a0 (a0.length : Int) 0 :=
  (Den_eq cfg 74 _).trans (by kernel_rfl)
theorem impl_MemoryOK.l11010_eq (x1 x10 : List D0) (x11 x12 : Int) : impl_MemoryOK.l11010 x1 x10 x11 x12 = bif (decide (x12 < x11)) then (bif (inL x12 (x10.length)) then ((impl_isBase ((rd (τ := Y2) x10 x12).1)).bind fun r1 => bif (!r1) then some false else ((impl_isPerm ((rd (τ := Y2) x10 x12).2.1)).bind fun r2 => bif (!r2) then some false else (bif (!decide ((((rd (τ := Y2) x10 x12).2.2).size : Int) = 128)) then some false else (bif (decide (x12 > 0)) then (bif (inL (IntKind.wrap .i64 (x12 - 1)) (x1.length)) then (bif (decide ((rd (τ := Y2) x1 (IntKind.wrap .i64 (x12 - 1))).1 ≥ (rd (τ := Y2) x10 x12).1)) then some false else impl_MemoryOK.l11010 x1 x10 x11 (IntKind.wrap .i64 (x12 + 1))) else none) else impl_MemoryOK.l11010 x1 x10 x11 (IntKind.wrap .i64 (x12 + 1)))))) else none) else some true :=
  (Lp_eq cfg 74 _ _ _).trans (by kernel_rfl)
noncomputable def impl_isLetter (a0 : Int) : Option Bool := Den cfg 104 [.v (.int .u8 a0)]
theorem impl_isLetter_eq (a0 : Int) : impl_isLetter a0 = bif (decide (a0 ≥ 97)) then (bif (decide (a0 ≤ 122)) then some true else (bif (decide (a0 ≥ 65)) then (bif (decide (a0 ≤ 90)) then some true else some (decide (a0 = 95))) else some (decide (a0 = 95)))) else (bif (decide (a0 ≥ 65)) then (bif (decide (a0 ≤ 90)) then some true else some (decide (a0 = 95))) else some (decide (a0 = 95))) :=
  (Den_eq cfg 104 _).trans (by kernel_rfl)
noncomputable def impl_isDigit (a0 : Int) : Option Bool := Den cfg 105 [.v (.int .u8 a0)]
theorem impl_isDigit_eq (a0 : Int) : impl_isDigit a0 = bif (decide (a0 ≥ 48)) then some (decide (a0 ≤ 57)) else some false :=
  (Den_eq cfg 105 _).trans (by kernel_rfl)
noncomputable def impl_NameOK (a0 : ByteArray) : Option Bool := Den cfg 60 [.v (.str a0)]
noncomputable def impl_NameOK.l11010 (x0 : ByteArray) (x3 : Int) : Option Bool := LA 60 Tryz.f60 [1, 1, 0, 1, 0] ⟨32, assocSV [(0, .v (.str x0)), vI 3 x3], assocB []⟩
theorem impl_NameOK_eq (a0 : ByteArray) : impl_NameOK a0 = (impl_within (a0.size : Int) 1 20).bind fun r1 => bif (!r1) then some false else (bif (inL 0 a0.size) then ((impl_isLetter (bt a0 0)).bind fun r2 => bif (!r2) then some false else impl_NameOK.l11010 a0 1) else none) :=
  (Den_eq cfg 60 _).trans (by kernel_rfl)
theorem impl_NameOK.l11010_eq (x0 : ByteArray) (x3 : Int) : impl_NameOK.l11010 x0 x3 = bif (decide (x3 < (x0.size : Int))) then (bif (inL x3 x0.size) then ((impl_isLetter (bt x0 x3)).bind fun r5 => bif (!r5) then (bif (inL x3 x0.size) then ((impl_isDigit (bt x0 x3)).bind fun r6 => bif (!r6) then some false else impl_NameOK.l11010 x0 (IntKind.wrap .i64 (x3 + 1))) else none) else impl_NameOK.l11010 x0 (IntKind.wrap .i64 (x3 + 1))) else none) else some true :=
  (Lp_eq cfg 60 _ _ _).trans (by kernel_rfl)
noncomputable def impl_isCodeAt (a0 : Int) : Option Bool := Den cfg 144 [.v (.int .i64 a0)]
theorem impl_isCodeAt_eq (a0 : Int) : impl_isCodeAt a0 = (impl_within a0 0 1048575).bind fun r1 => bif r1 then some (decide ((a0.tmod 4) = 0)) else some false :=
  (Den_eq cfg 144 _).trans (by kernel_rfl)
noncomputable def impl_FrameOK (a0 : Int) : Option Bool := Den cfg 145 [.v (.int .i64 a0)]
theorem impl_FrameOK_eq (a0 : Int) : impl_FrameOK a0 = (impl_within a0 16 128).bind fun r1 => bif r1 then some (decide ((a0.tmod 16) = 0)) else some false :=
  (Den_eq cfg 145 _).trans (by kernel_rfl)
noncomputable def impl_Entry_ok (a0 : D2) : Option Bool := Den cfg 119 [.agg [.str a0.1, .int .i64 a0.2.1, .int .i64 a0.2.2.1, .int .i64 a0.2.2.2.1, .int .i64 a0.2.2.2.2.1, .int .i64 a0.2.2.2.2.2]]
theorem impl_Entry_ok_eq (a0 : D2) : impl_Entry_ok a0 = (impl_NameOK a0.1).bind fun r1 => bif r1 then ((impl_isCodeAt a0.2.2.1).bind fun r2 => bif r2 then ((impl_within a0.2.2.2.1 1 1024).bind fun r3 => bif r3 then ((impl_within a0.2.2.2.2.2 0 6).bind fun r4 => bif r4 then (bif (decide (a0.2.1 = 1)) then ((impl_FrameOK a0.2.2.2.2.1).bind fun r5 => bif r5 then some true else (bif (decide (a0.2.1 = 2)) then some (decide (a0.2.2.2.2.1 = 0)) else some false)) else (bif (decide (a0.2.1 = 2)) then some (decide (a0.2.2.2.2.1 = 0)) else some false)) else some false) else some false) else some false) else some false :=
  (Den_eq cfg 119 _).trans (by kernel_rfl)
noncomputable def impl_entryNamed_1 (a0 : D2) (a1 : ByteArray) : Option Bool := Den cfg 147 [.agg [.str a0.1, .int .i64 a0.2.1, .int .i64 a0.2.2.1, .int .i64 a0.2.2.2.1, .int .i64 a0.2.2.2.2.1, .int .i64 a0.2.2.2.2.2], .v (.cptr .str a1 0)]
theorem impl_entryNamed_1_eq (a0 : D2) (a1 : ByteArray) : impl_entryNamed_1 a0 a1 = some (strEq a0.1 a1) :=
  (Den_eq cfg 147 _).trans (by kernel_rfl)
noncomputable def slices_IndexFunc_impl_Entry_impl_entryNamed_1 (c1_0 : ByteArray) (a0 : List D2) : Option Int := Den cfg 146 [.v (.list Y3 a0), .v (.fn 147 [.cref .str c1_0])]
noncomputable def slices_IndexFunc_impl_Entry_impl_entryNamed_1.l1010 (c1_0 : ByteArray) (x0 : List D2) (x7 x8 : Int) : Option Int := LA 146 Tryz.f146 [1, 0, 1, 0] ⟨19, assocSV [vL 0 Y3 x0, (1, .v (.fn 147 [.cref .str c1_0])), vI 7 x7, vI 8 x8], assocB []⟩
theorem slices_IndexFunc_impl_Entry_impl_entryNamed_1_eq (c1_0 : ByteArray) (a0 : List D2) : slices_IndexFunc_impl_Entry_impl_entryNamed_1 c1_0 a0 = slices_IndexFunc_impl_Entry_impl_entryNamed_1.l1010 c1_0 a0 (a0.length : Int) 0 :=
  (Den_eq cfg 146 _).trans (by kernel_rfl)
theorem slices_IndexFunc_impl_Entry_impl_entryNamed_1.l1010_eq (c1_0 : ByteArray) (x0 : List D2) (x7 x8 : Int) : slices_IndexFunc_impl_Entry_impl_entryNamed_1.l1010 c1_0 x0 x7 x8 = bif (decide (x8 < x7)) then (bif (inL x8 (x0.length)) then ((impl_entryNamed_1 (rd (τ := Y3) x0 x8) c1_0).bind fun r1 => bif r1 then some x8 else slices_IndexFunc_impl_Entry_impl_entryNamed_1.l1010 c1_0 x0 x7 (IntKind.wrap .i64 (x8 + 1))) else none) else some (-1) :=
  (Lp_eq cfg 146 _ _ _).trans (by kernel_rfl)
noncomputable def impl_entryNamed (a0 : List D2) (a1 : ByteArray) : Option Int := Den cfg 120 [.v (.list Y3 a0), .v (.str a1)]
theorem impl_entryNamed_eq (a0 : List D2) (a1 : ByteArray) : impl_entryNamed a0 a1 = (slices_IndexFunc_impl_Entry_impl_entryNamed_1 a1 a0).bind fun r1 => some r1 :=
  (Den_eq cfg 120 _).trans (by kernel_rfl)
noncomputable def impl_TableOK (a0 : List D2) : Option Bool := Den cfg 75 [.v (.list Y3 a0)]
noncomputable def impl_TableOK.l11010 (x0 x8 : List D2) (x9 x10 : Int) : Option Bool := LA 75 Tryz.f75 [1, 1, 0, 1, 0] ⟨28, assocSV [vL 0 Y3 x0, vL 8 Y3 x8, vI 9 x9, vI 10 x10], assocB []⟩
theorem impl_TableOK_eq (a0 : List D2) : impl_TableOK a0 = bif (decide ((a0.length : Int) > 64)) then some false else impl_TableOK.l11010 a0 a0 (a0.length : Int) 0 :=
  (Den_eq cfg 75 _).trans (by kernel_rfl)
theorem impl_TableOK.l11010_eq (x0 x8 : List D2) (x9 x10 : Int) : impl_TableOK.l11010 x0 x8 x9 x10 = bif (decide (x10 < x9)) then (bif (inL x10 (x8.length)) then ((impl_Entry_ok (rd (τ := Y3) x8 x10)).bind fun r1 => bif (!r1) then some false else (bif (decide (0 ≤ 0) && decide (0 ≤ x10) && decide (x10 ≤ (x0.length : Int))) then ((impl_entryNamed ((x0.take (Int.toNat x10)).drop (Int.toNat 0)) ((rd (τ := Y3) x8 x10).1)).bind fun r2 => bif (decide (r2 ≥ 0)) then some false else impl_TableOK.l11010 x0 x8 x9 (IntKind.wrap .i64 (x10 + 1))) else none)) else none) else some true :=
  (Lp_eq cfg 75 _ _ _).trans (by kernel_rfl)
noncomputable def cmp_Or_int (a0 : List Int) : Option Int := Den cfg 148 [.v (.list (.int .i64) a0)]
noncomputable def cmp_Or_int.l11010 (x3 : Int) (x6 : List Int) (x7 x8 : Int) : Option Int := LA 148 Tryz.f148 [1, 1, 0, 1, 0] ⟨18, assocSV [vI 3 x3, vL 6 (.int .i64) x6, vI 7 x7, vI 8 x8], assocB []⟩
theorem cmp_Or_int_eq (a0 : List Int) : cmp_Or_int a0 = cmp_Or_int.l11010 0 a0 (a0.length : Int) 0 :=
  (Den_eq cfg 148 _).trans (by kernel_rfl)
theorem cmp_Or_int.l11010_eq (x3 : Int) (x6 : List Int) (x7 x8 : Int) : cmp_Or_int.l11010 x3 x6 x7 x8 = bif (decide (x8 < x7)) then (bif (inL x8 (x6.length)) then (bif (!decide ((rd (τ := (.int .i64)) x6 x8) = x3)) then some (rd (τ := (.int .i64)) x6 x8) else cmp_Or_int.l11010 x3 x6 x7 (IntKind.wrap .i64 (x8 + 1))) else none) else some x3 :=
  (Lp_eq cfg 148 _ _ _).trans (by kernel_rfl)
noncomputable def cmp_isNaN_int (a0 : Int) : Option Bool := Den cfg 162 [.v (.int .i64 a0)]
theorem cmp_isNaN_int_eq (a0 : Int) : cmp_isNaN_int a0 = some (!decide (a0 = a0)) :=
  (Den_eq cfg 162 _).trans (by kernel_rfl)
noncomputable def cmp_Compare_int (a0 a1 : Int) : Option Int := Den cfg 149 [.v (.int .i64 a0), .v (.int .i64 a1)]
theorem cmp_Compare_int_eq (a0 a1 : Int) : cmp_Compare_int a0 a1 = (cmp_isNaN_int a0).bind fun r1 => (cmp_isNaN_int a1).bind fun r2 => bif r1 then (bif r2 then some 0 else some (-1)) else (bif r2 then some 1 else (bif (decide (a0 < a1)) then some (-1) else (bif (decide (a0 > a1)) then some 1 else some 0))) :=
  (Den_eq cfg 149 _).trans (by kernel_rfl)
noncomputable def impl_compareShadows (a0 a1 : Int × Int × Int) : Option Int := Den cfg 121 [.agg [.int .i64 a0.1, .int .i64 a0.2.1, .int .i64 a0.2.2], .agg [.int .i64 a1.1, .int .i64 a1.2.1, .int .i64 a1.2.2]]
theorem impl_compareShadows_eq (a0 a1 : Int × Int × Int) : impl_compareShadows a0 a1 = (cmp_Compare_int a0.1 a1.1).bind fun r1 => (cmp_Compare_int a0.2.1 a1.2.1).bind fun r2 => (cmp_Or_int [r1, r2]).bind fun r3 => some r3 :=
  (Den_eq cfg 121 _).trans (by kernel_rfl)
noncomputable def impl_ShadowsOK (a0 : List (Int × Int × Int)) : Option Bool := Den cfg 76 [.v (.list Y4 a0)]
noncomputable def impl_ShadowsOK.l11010 (x0 x8 : List (Int × Int × Int)) (x9 x10 : Int) : Option Bool := LA 76 Tryz.f76 [1, 1, 0, 1, 0] ⟨34, assocSV [vL 0 Y4 x0, vL 8 Y4 x8, vI 9 x9, vI 10 x10], assocB []⟩
theorem impl_ShadowsOK_eq (a0 : List (Int × Int × Int)) : impl_ShadowsOK a0 = bif (decide ((a0.length : Int) > 16)) then some false else impl_ShadowsOK.l11010 a0 a0 (a0.length : Int) 0 :=
  (Den_eq cfg 76 _).trans (by kernel_rfl)
theorem impl_ShadowsOK.l11010_eq (x0 x8 : List (Int × Int × Int)) (x9 x10 : Int) : impl_ShadowsOK.l11010 x0 x8 x9 x10 = bif (decide (x10 < x9)) then (bif (inL x10 (x8.length)) then ((impl_within ((rd (τ := Y4) x8 x10).2.1) 0 255).bind fun r1 => bif (!r1) then some false else (bif (decide (x10 > 0)) then (bif (inL (IntKind.wrap .i64 (x10 - 1)) (x0.length)) then ((impl_compareShadows (rd (τ := Y4) x0 (IntKind.wrap .i64 (x10 - 1))) (rd (τ := Y4) x8 x10)).bind fun r2 => bif (decide (r2 ≥ 0)) then some false else impl_ShadowsOK.l11010 x0 x8 x9 (IntKind.wrap .i64 (x10 + 1))) else none) else impl_ShadowsOK.l11010 x0 x8 x9 (IntKind.wrap .i64 (x10 + 1)))) else none) else some true :=
  (Lp_eq cfg 76 _ _ _).trans (by kernel_rfl)
noncomputable def impl_HartOK (a0 : List Int × Int) : Option Bool := Den cfg 151 [.agg [.seg (.int .i64) 32 a0.1, .int .i64 a0.2]]
theorem impl_HartOK_eq (a0 : List Int × Int) : impl_HartOK a0 = bif (inL 0 32) then some (decide ((rd (τ := (.int .i64)) a0.1 0) = 0)) else none :=
  (Den_eq cfg 151 _).trans (by kernel_rfl)
noncomputable def impl_Thread_ok (a0 : D1) : Option Bool := Den cfg 124 [.agg [.int .i64 a0.1, .seg (.int .i64) 32 a0.2.1.1, .int .i64 a0.2.1.2, .list (.int .i64) a0.2.2.1, .int .i64 a0.2.2.2]]
theorem impl_Thread_ok_eq (a0 : D1) : impl_Thread_ok a0 = joinB (fun kr11 => bif (decide (a0.1 = 3)) then ((impl_within a0.2.2.2 1 31).bind fun r1 => kr11 r1) else kr11 (decide (a0.2.2.2 = 0))) fun (r2 : Bool) => (impl_within a0.1 1 3).bind fun r3 => bif r3 then ((impl_HartOK a0.2.1).bind fun r4 => bif r4 then (bif (decide ((a0.2.2.1.length : Int) ≤ 32)) then some r2 else some false) else some false) else some false :=
  (Den_eq cfg 124 _).trans (by kernel_rfl)
noncomputable def impl_threadsOK_1 (a0 : D1) : Option Bool := Den cfg 123 [.agg [.int .i64 a0.1, .seg (.int .i64) 32 a0.2.1.1, .int .i64 a0.2.1.2, .list (.int .i64) a0.2.2.1, .int .i64 a0.2.2.2]]
theorem impl_threadsOK_1_eq (a0 : D1) : impl_threadsOK_1 a0 = (impl_Thread_ok a0).bind fun r1 => some (!r1) :=
  (Den_eq cfg 123 _).trans (by kernel_rfl)
noncomputable def slices_IndexFunc_impl_Thread_impl_threadsOK_1 (a0 : List D1) : Option Int := Den cfg 150 [.v (.list Y1 a0), .v (.fn 123 [])]
noncomputable def slices_IndexFunc_impl_Thread_impl_threadsOK_1.l1010 (x0 : List D1) (x7 x8 : Int) : Option Int := LA 150 Tryz.f150 [1, 0, 1, 0] ⟨19, assocSV [vL 0 Y1 x0, (1, .v (.fn 123 [])), vI 7 x7, vI 8 x8], assocB []⟩
theorem slices_IndexFunc_impl_Thread_impl_threadsOK_1_eq (a0 : List D1) : slices_IndexFunc_impl_Thread_impl_threadsOK_1 a0 = slices_IndexFunc_impl_Thread_impl_threadsOK_1.l1010 a0 (a0.length : Int) 0 :=
  (Den_eq cfg 150 _).trans (by kernel_rfl)
theorem slices_IndexFunc_impl_Thread_impl_threadsOK_1.l1010_eq (x0 : List D1) (x7 x8 : Int) : slices_IndexFunc_impl_Thread_impl_threadsOK_1.l1010 x0 x7 x8 = bif (decide (x8 < x7)) then (bif (inL x8 (x0.length)) then ((impl_threadsOK_1 (rd (τ := Y1) x0 x8)).bind fun r1 => bif r1 then some x8 else slices_IndexFunc_impl_Thread_impl_threadsOK_1.l1010 x0 x7 (IntKind.wrap .i64 (x8 + 1))) else none) else some (-1) :=
  (Lp_eq cfg 150 _ _ _).trans (by kernel_rfl)
noncomputable def slices_ContainsFunc_impl_Thread_impl_threadsOK_1 (a0 : List D1) : Option Bool := Den cfg 122 [.v (.list Y1 a0), .v (.fn 123 [])]
theorem slices_ContainsFunc_impl_Thread_impl_threadsOK_1_eq (a0 : List D1) : slices_ContainsFunc_impl_Thread_impl_threadsOK_1 a0 = (slices_IndexFunc_impl_Thread_impl_threadsOK_1 a0).bind fun r1 => some (decide (r1 ≥ 0)) :=
  (Den_eq cfg 122 _).trans (by kernel_rfl)
noncomputable def impl_threadsOK (a0 : List D1) : Option Bool := Den cfg 77 [.v (.list Y1 a0)]
theorem impl_threadsOK_eq (a0 : List D1) : impl_threadsOK a0 = (impl_within (a0.length : Int) 1 4).bind fun r1 => bif r1 then ((slices_ContainsFunc_impl_Thread_impl_threadsOK_1 a0).bind fun r2 => some (!r2)) else some false :=
  (Den_eq cfg 77 _).trans (by kernel_rfl)
noncomputable def impl_MachineOK (a0 : D3) : Option Bool := Den cfg 34 [.agg [.list Y2 a0.1, .list Y1 a0.2.1, .list Y3 a0.2.2.1, .list Y4 a0.2.2.2]]
theorem impl_MachineOK_eq (a0 : D3) : impl_MachineOK a0 = (impl_MemoryOK a0.1).bind fun r1 => bif r1 then ((impl_TableOK a0.2.2.1).bind fun r2 => bif r2 then ((impl_ShadowsOK a0.2.2.2).bind fun r3 => bif r3 then ((impl_threadsOK a0.2.1).bind fun r4 => some r4) else some false) else some false) else some false :=
  (Den_eq cfg 34 _).trans (by kernel_rfl)
noncomputable def internal_strconv_Itoa (a0 : Int) : Option ByteArray := Den cfg 129 [.v (.int .i64 a0)]
theorem internal_strconv_Itoa_eq (a0 : Int) : internal_strconv_Itoa a0 = (internal_strconv_FormatInt a0 10).bind fun r1 => some r1 :=
  (Den_eq cfg 129 _).trans (by kernel_rfl)
noncomputable def strconv_Itoa (a0 : Int) : Option ByteArray := Den cfg 84 [.v (.int .i64 a0)]
theorem strconv_Itoa_eq (a0 : Int) : strconv_Itoa a0 = (internal_strconv_Itoa a0).bind fun r1 => some r1 :=
  (Den_eq cfg 84 _).trans (by kernel_rfl)
noncomputable def impl_intText (a0 : Int) : Option ByteArray := Den cfg 42 [.v (.int .i64 a0)]
theorem impl_intText_eq (a0 : Int) : impl_intText a0 = (strconv_Itoa a0).bind fun r1 => some r1 :=
  (Den_eq cfg 42 _).trans (by kernel_rfl)
noncomputable def impl_codeWords : Option (List ByteArray) := Den cfg 125 []
theorem impl_codeWords_eq : impl_codeWords = some [(⟨#[111, 107]⟩ : ByteArray), (⟨#[98, 97, 100]⟩ : ByteArray), (⟨#[108, 111, 110, 103]⟩ : ByteArray), (⟨#[102, 111, 114, 109]⟩ : ByteArray), (⟨#[114, 97, 110, 103, 101]⟩ : ByteArray), (⟨#[110, 111, 110, 101]⟩ : ByteArray), (⟨#[109, 97, 110, 121]⟩ : ByteArray), (⟨#[102, 117, 108, 108]⟩ : ByteArray), (⟨#[115, 105, 122, 101]⟩ : ByteArray), (⟨#[115, 117, 109]⟩ : ByteArray), (⟨#[99, 111, 100, 101]⟩ : ByteArray), (⟨#[97, 108, 105, 103, 110]⟩ : ByteArray), (⟨#[112, 97, 103, 101]⟩ : ByteArray), (⟨#[112, 101, 114, 109]⟩ : ByteArray), (⟨#[115, 116, 97, 99, 107]⟩ : ByteArray), (⟨#[101, 99, 97, 108, 108]⟩ : ByteArray), (⟨#[98, 114, 101, 97, 107]⟩ : ByteArray), (⟨#[102, 114, 97, 109, 101]⟩ : ByteArray), (⟨#[114, 101, 116, 117, 114, 110]⟩ : ByteArray), (⟨#[106, 117, 109, 112]⟩ : ByteArray), (⟨#[99, 97, 108, 108]⟩ : ByteArray), (⟨#[114, 101, 103]⟩ : ByteArray), (⟨#[101, 110, 100]⟩ : ByteArray), (⟨#[115, 121, 109, 98, 111, 108]⟩ : ByteArray), (⟨#[99, 108, 97, 115, 104]⟩ : ByteArray), (⟨#[114, 101, 97, 99, 104]⟩ : ByteArray), (⟨#[107, 105, 110, 100]⟩ : ByteArray), (⟨#[100, 101, 112, 116, 104]⟩ : ByteArray), (⟨#[98, 117, 115, 121]⟩ : ByteArray), (⟨#[116, 111, 112]⟩ : ByteArray), (⟨#[115, 104, 97, 100, 111, 119]⟩ : ByteArray), (⟨#[100, 111, 110, 101]⟩ : ByteArray)] :=
  (Den_eq cfg 125 _).trans (by kernel_rfl)
noncomputable def impl_CodeWord (a0 : Int) : Option ByteArray := Den cfg 78 [.v (.int .i64 a0)]
theorem impl_CodeWord_eq (a0 : Int) : impl_CodeWord a0 = (impl_within a0 0 31).bind fun r1 => bif (!r1) then some (⟨#[]⟩ : ByteArray) else ((impl_codeWords).bind fun r2 => bif (inL a0 (r2.length)) then some (rd (τ := .str) r2 a0) else none) :=
  (Den_eq cfg 78 _).trans (by kernel_rfl)
noncomputable def impl_numberText (a0 : ByteArray) (a1 : Int) : Option ByteArray := Den cfg 79 [.v (.str a0), .v (.int .i64 a1)]
theorem impl_numberText_eq (a0 : ByteArray) (a1 : Int) : impl_numberText a0 a1 = bif (decide ((⟨#[32]⟩ : ByteArray).size + a0.size ≤ 9223372036854775807)) then (bif (decide (((⟨#[32]⟩ : ByteArray) ++ a0).size + (⟨#[32]⟩ : ByteArray).size ≤ 9223372036854775807)) then ((impl_intText a1).bind fun r1 => bif (decide ((((⟨#[32]⟩ : ByteArray) ++ a0) ++ (⟨#[32]⟩ : ByteArray)).size + r1.size ≤ 9223372036854775807)) then some ((((⟨#[32]⟩ : ByteArray) ++ a0) ++ (⟨#[32]⟩ : ByteArray)) ++ r1) else none) else none) else none :=
  (Den_eq cfg 79 _).trans (by kernel_rfl)
noncomputable def impl_Thread_text (a0 : D1) (a1 : Int) : Option ByteArray := Den cfg 36 [.agg [.int .i64 a0.1, .seg (.int .i64) 32 a0.2.1.1, .int .i64 a0.2.1.2, .list (.int .i64) a0.2.2.1, .int .i64 a0.2.2.2], .v (.int .i64 a1)]
noncomputable def impl_Thread_text.l1111010 (x6 : ByteArray) (x37 : List Int) (x38 x39 : Int) : Option ByteArray := LA 36 Tryz.f36 [1, 1, 1, 1, 0, 1, 0] ⟨50, assocSV [(6, .v (.str x6)), vL 37 (.int .i64) x37, vI 38 x38, vI 39 x39], assocB []⟩
theorem impl_Thread_text_eq (a0 : D1) (a1 : Int) : impl_Thread_text a0 a1 = joinB (fun kr8 => bif (decide (a0.1 = 2)) then kr8 (⟨#[32, 100, 111, 110, 101]⟩ : ByteArray) else (bif (decide (a0.1 = 3)) then ((impl_CodeWord a0.2.2.2).bind fun r1 => bif (decide ((⟨#[32, 116, 114, 97, 112, 32]⟩ : ByteArray).size + r1.size ≤ 9223372036854775807)) then kr8 ((⟨#[32, 116, 114, 97, 112, 32]⟩ : ByteArray) ++ r1) else none) else kr8 (⟨#[32, 114, 117, 110]⟩ : ByteArray))) fun (r4 : ByteArray) => (impl_intText a1).bind fun r5 => bif (decide ((⟨#[116, 104, 114, 101, 97, 100, 32]⟩ : ByteArray).size + r5.size ≤ 9223372036854775807)) then (bif (decide (((⟨#[116, 104, 114, 101, 97, 100, 32]⟩ : ByteArray) ++ r5).size + r4.size ≤ 9223372036854775807)) then ((impl_numberText (⟨#[112, 99]⟩ : ByteArray) a0.2.1.2).bind fun r6 => bif (decide ((((⟨#[116, 104, 114, 101, 97, 100, 32]⟩ : ByteArray) ++ r5) ++ r4).size + r6.size ≤ 9223372036854775807)) then (bif (inL 2 32) then ((impl_numberText (⟨#[115, 112]⟩ : ByteArray) (rd (τ := (.int .i64)) a0.2.1.1 2)).bind fun r7 => bif (decide (((((⟨#[116, 104, 114, 101, 97, 100, 32]⟩ : ByteArray) ++ r5) ++ r4) ++ r6).size + r7.size ≤ 9223372036854775807)) then (bif (decide ((((((⟨#[116, 104, 114, 101, 97, 100, 32]⟩ : ByteArray) ++ r5) ++ r4) ++ r6) ++ r7).size + (⟨#[32, 111, 117, 116]⟩ : ByteArray).size ≤ 9223372036854775807)) then impl_Thread_text.l1111010 ((((((⟨#[116, 104, 114, 101, 97, 100, 32]⟩ : ByteArray) ++ r5) ++ r4) ++ r6) ++ r7) ++ (⟨#[32, 111, 117, 116]⟩ : ByteArray)) a0.2.2.1 (a0.2.2.1.length : Int) 0 else none) else none) else none) else none) else none) else none :=
  (Den_eq cfg 36 _).trans (by kernel_rfl)
theorem impl_Thread_text.l1111010_eq (x6 : ByteArray) (x37 : List Int) (x38 x39 : Int) : impl_Thread_text.l1111010 x6 x37 x38 x39 = bif (decide (x39 < x38)) then (bif (inL x39 (x37.length)) then ((impl_intText (rd (τ := (.int .i64)) x37 x39)).bind fun r9 => bif (decide ((⟨#[32]⟩ : ByteArray).size + r9.size ≤ 9223372036854775807)) then (bif (decide (x6.size + ((⟨#[32]⟩ : ByteArray) ++ r9).size ≤ 9223372036854775807)) then impl_Thread_text.l1111010 (x6 ++ ((⟨#[32]⟩ : ByteArray) ++ r9)) x37 x38 (IntKind.wrap .i64 (x39 + 1)) else none) else none) else none) else some x6 :=
  (Lp_eq cfg 36 _ _ _).trans (by kernel_rfl)
noncomputable def impl_ThreadText (a0 : D3) (a1 : Int) : Option (ByteArray × Int) := Den cfg 9 [.agg [.list Y2 a0.1, .list Y1 a0.2.1, .list Y3 a0.2.2.1, .list Y4 a0.2.2.2], .v (.int .i64 a1)]
theorem impl_ThreadText_eq (a0 : D3) (a1 : Int) : impl_ThreadText a0 a1 = (impl_MachineOK a0).bind fun r1 => bif (!r1) then some ((⟨#[]⟩ : ByteArray), 1) else ((impl_within a1 0 (IntKind.wrap .i64 ((a0.2.1.length : Int) - 1))).bind fun r2 => bif (!r2) then some ((⟨#[]⟩ : ByteArray), 5) else (bif (inL a1 (a0.2.1.length)) then ((impl_Thread_text (rd (τ := Y1) a0.2.1 a1) a1).bind fun r3 => some (r3, 0)) else none)) :=
  (Den_eq cfg 9 _).trans (by kernel_rfl)
noncomputable def laws_eqPage (a0 a1 : D0) : Option Bool := Den cfg 126 [.agg [.int .i64 a0.1, .int .i64 a0.2.1, .str a0.2.2], .agg [.int .i64 a1.1, .int .i64 a1.2.1, .str a1.2.2]]
theorem laws_eqPage_eq (a0 a1 : D0) : laws_eqPage a0 a1 = bif (!decide (a0.1 = a1.1)) then some false else (bif (!decide (a0.2.1 = a1.2.1)) then some false else (bif (!strEq a0.2.2 a1.2.2) then some false else some true)) :=
  (Den_eq cfg 126 _).trans (by kernel_rfl)
noncomputable def laws_eqPageS (a0 a1 : List D0) : Option Bool := Den cfg 80 [.v (.list Y2 a0), .v (.list Y2 a1)]
noncomputable def laws_eqPageS.l11010 (x0 x1 : List D0) (x5 : Int) : Option Bool := LA 80 Tryz.f80 [1, 1, 0, 1, 0] ⟨27, assocSV [vL 0 Y2 x0, vL 1 Y2 x1, vI 5 x5], assocB []⟩
theorem laws_eqPageS_eq (a0 a1 : List D0) : laws_eqPageS a0 a1 = bif (!decide ((a0.length : Int) = (a1.length : Int))) then some false else laws_eqPageS.l11010 a0 a1 0 :=
  (Den_eq cfg 80 _).trans (by kernel_rfl)
theorem laws_eqPageS.l11010_eq (x0 x1 : List D0) (x5 : Int) : laws_eqPageS.l11010 x0 x1 x5 = bif (decide (x5 < (x0.length : Int))) then (bif (inL x5 (x0.length)) then (bif (inL x5 (x1.length)) then ((laws_eqPage (rd (τ := Y2) x0 x5) (rd (τ := Y2) x1 x5)).bind fun r1 => bif (!r1) then some false else laws_eqPageS.l11010 x0 x1 (IntKind.wrap .i64 (x5 + 1))) else none) else none) else some true :=
  (Lp_eq cfg 80 _ _ _).trans (by kernel_rfl)
noncomputable def laws_eqMemory (a0 a1 : List D0) : Option Bool := Den cfg 37 [.agg [.list Y2 a0], .agg [.list Y2 a1]]
theorem laws_eqMemory_eq (a0 a1 : List D0) : laws_eqMemory a0 a1 = (laws_eqPageS a0 a1).bind fun r1 => bif (!r1) then some false else some true :=
  (Den_eq cfg 37 _).trans (by kernel_rfl)
noncomputable def laws_eqIntA32 (a0 a1 : List Int) : Option Bool := Den cfg 152 [.agg [.seg (.int .i64) 32 a0], .agg [.seg (.int .i64) 32 a1]]
noncomputable def laws_eqIntA32.l1010 (x2 x3 : List Int) (x5 : Int) : Option Bool := LA 152 Tryz.f152 [1, 0, 1, 0] ⟨17, assocSV [vP 2 319, vP 3 447, vI 5 x5], assocB [(319, .box [.seg (.int .i64) 32 x2]), (447, .box [.seg (.int .i64) 32 x3])]⟩
theorem laws_eqIntA32_eq (a0 a1 : List Int) : laws_eqIntA32 a0 a1 = laws_eqIntA32.l1010 a0 a1 0 :=
  (Den_eq cfg 152 _).trans (by kernel_rfl)
theorem laws_eqIntA32.l1010_eq (x2 x3 : List Int) (x5 : Int) : laws_eqIntA32.l1010 x2 x3 x5 = bif (decide (x5 < 32)) then (bif (inL x5 32) then (bif (inL x5 32) then (bif (!decide ((rd (τ := (.int .i64)) x2 x5) = (rd (τ := (.int .i64)) x3 x5))) then some false else laws_eqIntA32.l1010 x2 x3 (IntKind.wrap .i64 (x5 + 1))) else none) else none) else some true :=
  (Lp_eq cfg 152 _ _ _).trans (by kernel_rfl)
noncomputable def laws_eqHart (a0 a1 : List Int × Int) : Option Bool := Den cfg 127 [.agg [.seg (.int .i64) 32 a0.1, .int .i64 a0.2], .agg [.seg (.int .i64) 32 a1.1, .int .i64 a1.2]]
theorem laws_eqHart_eq (a0 a1 : List Int × Int) : laws_eqHart a0 a1 = (laws_eqIntA32 a0.1 a1.1).bind fun r1 => bif (!r1) then some false else (bif (!decide (a0.2 = a1.2)) then some false else some true) :=
  (Den_eq cfg 127 _).trans (by kernel_rfl)
noncomputable def laws_eqIntS (a0 a1 : List Int) : Option Bool := Den cfg 128 [.v (.list (.int .i64) a0), .v (.list (.int .i64) a1)]
noncomputable def laws_eqIntS.l11010 (x0 x1 : List Int) (x5 : Int) : Option Bool := LA 128 Tryz.f128 [1, 1, 0, 1, 0] ⟨26, assocSV [vL 0 (.int .i64) x0, vL 1 (.int .i64) x1, vI 5 x5], assocB []⟩
theorem laws_eqIntS_eq (a0 a1 : List Int) : laws_eqIntS a0 a1 = bif (!decide ((a0.length : Int) = (a1.length : Int))) then some false else laws_eqIntS.l11010 a0 a1 0 :=
  (Den_eq cfg 128 _).trans (by kernel_rfl)
theorem laws_eqIntS.l11010_eq (x0 x1 : List Int) (x5 : Int) : laws_eqIntS.l11010 x0 x1 x5 = bif (decide (x5 < (x0.length : Int))) then (bif (inL x5 (x0.length)) then (bif (inL x5 (x1.length)) then (bif (!decide ((rd (τ := (.int .i64)) x0 x5) = (rd (τ := (.int .i64)) x1 x5))) then some false else laws_eqIntS.l11010 x0 x1 (IntKind.wrap .i64 (x5 + 1))) else none) else none) else some true :=
  (Lp_eq cfg 128 _ _ _).trans (by kernel_rfl)
noncomputable def laws_eqThread (a0 a1 : D1) : Option Bool := Den cfg 81 [.agg [.int .i64 a0.1, .seg (.int .i64) 32 a0.2.1.1, .int .i64 a0.2.1.2, .list (.int .i64) a0.2.2.1, .int .i64 a0.2.2.2], .agg [.int .i64 a1.1, .seg (.int .i64) 32 a1.2.1.1, .int .i64 a1.2.1.2, .list (.int .i64) a1.2.2.1, .int .i64 a1.2.2.2]]
theorem laws_eqThread_eq (a0 a1 : D1) : laws_eqThread a0 a1 = bif (!decide (a0.1 = a1.1)) then some false else ((laws_eqHart a0.2.1 a1.2.1).bind fun r1 => bif (!r1) then some false else ((laws_eqIntS a0.2.2.1 a1.2.2.1).bind fun r2 => bif (!r2) then some false else (bif (!decide (a0.2.2.2 = a1.2.2.2)) then some false else some true))) :=
  (Den_eq cfg 81 _).trans (by kernel_rfl)
noncomputable def laws_eqThreadS (a0 a1 : List D1) : Option Bool := Den cfg 38 [.v (.list Y1 a0), .v (.list Y1 a1)]
noncomputable def laws_eqThreadS.l11010 (x0 x1 : List D1) (x5 : Int) : Option Bool := LA 38 Tryz.f38 [1, 1, 0, 1, 0] ⟨27, assocSV [vL 0 Y1 x0, vL 1 Y1 x1, vI 5 x5], assocB []⟩
theorem laws_eqThreadS_eq (a0 a1 : List D1) : laws_eqThreadS a0 a1 = bif (!decide ((a0.length : Int) = (a1.length : Int))) then some false else laws_eqThreadS.l11010 a0 a1 0 :=
  (Den_eq cfg 38 _).trans (by kernel_rfl)
theorem laws_eqThreadS.l11010_eq (x0 x1 : List D1) (x5 : Int) : laws_eqThreadS.l11010 x0 x1 x5 = bif (decide (x5 < (x0.length : Int))) then (bif (inL x5 (x0.length)) then (bif (inL x5 (x1.length)) then ((laws_eqThread (rd (τ := Y1) x0 x5) (rd (τ := Y1) x1 x5)).bind fun r1 => bif (!r1) then some false else laws_eqThreadS.l11010 x0 x1 (IntKind.wrap .i64 (x5 + 1))) else none) else none) else some true :=
  (Lp_eq cfg 38 _ _ _).trans (by kernel_rfl)
noncomputable def laws_eqEntry (a0 a1 : D2) : Option Bool := Den cfg 82 [.agg [.str a0.1, .int .i64 a0.2.1, .int .i64 a0.2.2.1, .int .i64 a0.2.2.2.1, .int .i64 a0.2.2.2.2.1, .int .i64 a0.2.2.2.2.2], .agg [.str a1.1, .int .i64 a1.2.1, .int .i64 a1.2.2.1, .int .i64 a1.2.2.2.1, .int .i64 a1.2.2.2.2.1, .int .i64 a1.2.2.2.2.2]]
theorem laws_eqEntry_eq (a0 a1 : D2) : laws_eqEntry a0 a1 = bif (!strEq a0.1 a1.1) then some false else (bif (!decide (a0.2.1 = a1.2.1)) then some false else (bif (!decide (a0.2.2.1 = a1.2.2.1)) then some false else (bif (!decide (a0.2.2.2.1 = a1.2.2.2.1)) then some false else (bif (!decide (a0.2.2.2.2.1 = a1.2.2.2.2.1)) then some false else (bif (!decide (a0.2.2.2.2.2 = a1.2.2.2.2.2)) then some false else some true))))) :=
  (Den_eq cfg 82 _).trans (by kernel_rfl)
noncomputable def laws_eqEntryS (a0 a1 : List D2) : Option Bool := Den cfg 39 [.v (.list Y3 a0), .v (.list Y3 a1)]
noncomputable def laws_eqEntryS.l11010 (x0 x1 : List D2) (x5 : Int) : Option Bool := LA 39 Tryz.f39 [1, 1, 0, 1, 0] ⟨27, assocSV [vL 0 Y3 x0, vL 1 Y3 x1, vI 5 x5], assocB []⟩
theorem laws_eqEntryS_eq (a0 a1 : List D2) : laws_eqEntryS a0 a1 = bif (!decide ((a0.length : Int) = (a1.length : Int))) then some false else laws_eqEntryS.l11010 a0 a1 0 :=
  (Den_eq cfg 39 _).trans (by kernel_rfl)
theorem laws_eqEntryS.l11010_eq (x0 x1 : List D2) (x5 : Int) : laws_eqEntryS.l11010 x0 x1 x5 = bif (decide (x5 < (x0.length : Int))) then (bif (inL x5 (x0.length)) then (bif (inL x5 (x1.length)) then ((laws_eqEntry (rd (τ := Y3) x0 x5) (rd (τ := Y3) x1 x5)).bind fun r1 => bif (!r1) then some false else laws_eqEntryS.l11010 x0 x1 (IntKind.wrap .i64 (x5 + 1))) else none) else none) else some true :=
  (Lp_eq cfg 39 _ _ _).trans (by kernel_rfl)
noncomputable def laws_eqShadow (a0 a1 : Int × Int × Int) : Option Bool := Den cfg 83 [.agg [.int .i64 a0.1, .int .i64 a0.2.1, .int .i64 a0.2.2], .agg [.int .i64 a1.1, .int .i64 a1.2.1, .int .i64 a1.2.2]]
theorem laws_eqShadow_eq (a0 a1 : Int × Int × Int) : laws_eqShadow a0 a1 = bif (!decide (a0.1 = a1.1)) then some false else (bif (!decide (a0.2.1 = a1.2.1)) then some false else (bif (!decide (a0.2.2 = a1.2.2)) then some false else some true)) :=
  (Den_eq cfg 83 _).trans (by kernel_rfl)
noncomputable def laws_eqShadowS (a0 a1 : List (Int × Int × Int)) : Option Bool := Den cfg 40 [.v (.list Y4 a0), .v (.list Y4 a1)]
noncomputable def laws_eqShadowS.l11010 (x0 x1 : List (Int × Int × Int)) (x5 : Int) : Option Bool := LA 40 Tryz.f40 [1, 1, 0, 1, 0] ⟨27, assocSV [vL 0 Y4 x0, vL 1 Y4 x1, vI 5 x5], assocB []⟩
theorem laws_eqShadowS_eq (a0 a1 : List (Int × Int × Int)) : laws_eqShadowS a0 a1 = bif (!decide ((a0.length : Int) = (a1.length : Int))) then some false else laws_eqShadowS.l11010 a0 a1 0 :=
  (Den_eq cfg 40 _).trans (by kernel_rfl)
theorem laws_eqShadowS.l11010_eq (x0 x1 : List (Int × Int × Int)) (x5 : Int) : laws_eqShadowS.l11010 x0 x1 x5 = bif (decide (x5 < (x0.length : Int))) then (bif (inL x5 (x0.length)) then (bif (inL x5 (x1.length)) then ((laws_eqShadow (rd (τ := Y4) x0 x5) (rd (τ := Y4) x1 x5)).bind fun r1 => bif (!r1) then some false else laws_eqShadowS.l11010 x0 x1 (IntKind.wrap .i64 (x5 + 1))) else none) else none) else some true :=
  (Lp_eq cfg 40 _ _ _).trans (by kernel_rfl)
noncomputable def laws_eqMachine (a0 a1 : D3) : Option Bool := Den cfg 10 [.agg [.list Y2 a0.1, .list Y1 a0.2.1, .list Y3 a0.2.2.1, .list Y4 a0.2.2.2], .agg [.list Y2 a1.1, .list Y1 a1.2.1, .list Y3 a1.2.2.1, .list Y4 a1.2.2.2]]
theorem laws_eqMachine_eq (a0 a1 : D3) : laws_eqMachine a0 a1 = (laws_eqMemory a0.1 a1.1).bind fun r1 => bif (!r1) then some false else ((laws_eqThreadS a0.2.1 a1.2.1).bind fun r2 => bif (!r2) then some false else ((laws_eqEntryS a0.2.2.1 a1.2.2.1).bind fun r3 => bif (!r3) then some false else ((laws_eqShadowS a0.2.2.2 a1.2.2.2).bind fun r4 => bif (!r4) then some false else some true))) :=
  (Den_eq cfg 10 _).trans (by kernel_rfl)
noncomputable def laws_FnExactThreadText (a0 : D3) (a1 : Int) : Option Bool := Den cfg 3 [.agg [.list Y2 a0.1, .list Y1 a0.2.1, .list Y3 a0.2.2.1, .list Y4 a0.2.2.2], .v (.int .i64 a1)]
theorem laws_FnExactThreadText_eq (a0 : D3) (a1 : Int) : laws_FnExactThreadText a0 a1 = (laws_szMachine a0 1048576).bind fun r1 => bif (decide (r1 < 0)) then some true else ((laws_toMachine a0).bind fun r2 => (spec_ThreadText r2 a1).bind fun r3 => (laws_toMachine a0).bind fun r4 => (impl_ThreadText r4 a1).bind fun r5 => joinB (fun kr10 => bif (!strEq r5.1 r3.1) then kr10 true else kr10 (!decide (r5.2 = r3.2))) fun (r7 : Bool) => bif r7 then some false else ((laws_toMachine a0).bind fun r8 => (laws_eqMachine r4 r8).bind fun r9 => bif (!r9) then some false else some true)) :=
  (Den_eq cfg 3 _).trans (by kernel_rfl)
noncomputable def spec_l17Machine (a0 : D3) : Option (List ByteArray) := Den cfg 41 [.agg [.list Y2 a0.1, .list Y1 a0.2.1, .list Y3 a0.2.2.1, .list Y4 a0.2.2.2]]
noncomputable def spec_l17Machine.l11010 (x1 : D3) (x3 : List ByteArray) (x4 : Int) : Option (List ByteArray) := LA 41 Tryz.f41 [1, 1, 0, 1, 0] ⟨51, assocSV [vP 1 191, (3, .v (.own 416)), vI 4 x4], assocB [(191, .box [.list Y2 x1.1, .list Y1 x1.2.1, .list Y3 x1.2.2.1, .list Y4 x1.2.2.2]), (416, .rows 9 .str .no x3)]⟩
noncomputable def spec_l17Machine.l111010 (x1 : D3) (x3 : List ByteArray) (x5 : Int) : Option (List ByteArray) := LA 41 Tryz.f41 [1, 1, 1, 0, 1, 0] ⟨51, assocSV [vP 1 191, (3, .v (.own 416)), vI 5 x5], assocB [(191, .box [.list Y2 x1.1, .list Y1 x1.2.1, .list Y3 x1.2.2.1, .list Y4 x1.2.2.2]), (416, .rows 9 .str .no x3)]⟩
theorem spec_l17Machine_eq (a0 : D3) : spec_l17Machine a0 = spec_l17Machine.l11010 a0 [] 0 :=
  (Den_eq cfg 41 _).trans (by kernel_rfl)
theorem spec_l17Machine.l11010_eq (x1 : D3) (x3 : List ByteArray) (x4 : Int) : spec_l17Machine.l11010 x1 x3 x4 = bif (decide (x4 < (x1.2.1.length : Int))) then ((spec_l17Thread x1 x4).bind fun r1 => bif (roomB ((x3.length) + ([r1].length)) 16) then spec_l17Machine.l11010 x1 (x3 ++ [r1]) (IntKind.wrap .i64 (x4 + 1)) else none) else spec_l17Machine.l111010 x1 x3 0 :=
  (Lp_eq cfg 41 _ _ _).trans (by kernel_rfl)
theorem spec_l17Machine.l111010_eq (x1 : D3) (x3 : List ByteArray) (x5 : Int) : spec_l17Machine.l111010 x1 x3 x5 = bif (decide (x5 < (x1.2.2.2.length : Int))) then (bif (inL x5 (x1.2.2.2.length)) then ((spec_l00Digits ((rd (τ := Y4) x1.2.2.2 x5).1)).bind fun r2 => bif (decide ((⟨#[115, 104, 97, 100, 111, 119, 32]⟩ : ByteArray).size + r2.size ≤ 9223372036854775807)) then (bif (decide (((⟨#[115, 104, 97, 100, 111, 119, 32]⟩ : ByteArray) ++ r2).size + (⟨#[32]⟩ : ByteArray).size ≤ 9223372036854775807)) then ((spec_l00Digits ((rd (τ := Y4) x1.2.2.2 x5).2.1)).bind fun r3 => bif (decide ((((⟨#[115, 104, 97, 100, 111, 119, 32]⟩ : ByteArray) ++ r2) ++ (⟨#[32]⟩ : ByteArray)).size + r3.size ≤ 9223372036854775807)) then (bif (decide (((((⟨#[115, 104, 97, 100, 111, 119, 32]⟩ : ByteArray) ++ r2) ++ (⟨#[32]⟩ : ByteArray)) ++ r3).size + (⟨#[32]⟩ : ByteArray).size ≤ 9223372036854775807)) then ((spec_l00Digits ((rd (τ := Y4) x1.2.2.2 x5).2.2)).bind fun r4 => bif (decide ((((((⟨#[115, 104, 97, 100, 111, 119, 32]⟩ : ByteArray) ++ r2) ++ (⟨#[32]⟩ : ByteArray)) ++ r3) ++ (⟨#[32]⟩ : ByteArray)).size + r4.size ≤ 9223372036854775807)) then (bif (roomB ((x3.length) + ([((((((⟨#[115, 104, 97, 100, 111, 119, 32]⟩ : ByteArray) ++ r2) ++ (⟨#[32]⟩ : ByteArray)) ++ r3) ++ (⟨#[32]⟩ : ByteArray)) ++ r4)].length)) 16) then spec_l17Machine.l111010 x1 (x3 ++ [((((((⟨#[115, 104, 97, 100, 111, 119, 32]⟩ : ByteArray) ++ r2) ++ (⟨#[32]⟩ : ByteArray)) ++ r3) ++ (⟨#[32]⟩ : ByteArray)) ++ r4)]) (IntKind.wrap .i64 (x5 + 1)) else none) else none) else none) else none) else none) else none) else none) else some x3 :=
  (Lp_eq cfg 41 _ _ _).trans (by kernel_rfl)
noncomputable def spec_MachineLines (a0 : D3) : Option D4 := Den cfg 11 [.agg [.list Y2 a0.1, .list Y1 a0.2.1, .list Y3 a0.2.2.1, .list Y4 a0.2.2.2]]
theorem spec_MachineLines_eq (a0 : D3) : spec_MachineLines a0 = (spec_MachineOK a0).bind fun r1 => bif (!r1) then some ([], 1) else ((spec_l17Machine a0).bind fun r2 => some (r2, 0)) :=
  (Den_eq cfg 11 _).trans (by kernel_rfl)
noncomputable def impl_MachineLines (a0 : D3) : Option D4 := Den cfg 12 [.agg [.list Y2 a0.1, .list Y1 a0.2.1, .list Y3 a0.2.2.1, .list Y4 a0.2.2.2]]
noncomputable def impl_MachineLines.l111010 (x1 : D3) (x4 : List ByteArray) (x13 : List D1) (x14 x15 : Int) : Option D4 := LA 12 Tryz.f12 [1, 1, 1, 0, 1, 0] ⟨53, assocSV [vP 1 191, (4, .v (.own 544)), vL 13 Y1 x13, vI 14 x14, vI 15 x15], assocB [(191, .box [.list Y2 x1.1, .list Y1 x1.2.1, .list Y3 x1.2.2.1, .list Y4 x1.2.2.2]), (544, .rows 9 .str .no x4)]⟩
noncomputable def impl_MachineLines.l1111010 (x4 : List ByteArray) (x28 : List (Int × Int × Int)) (x29 x30 : Int) : Option D4 := LA 12 Tryz.f12 [1, 1, 1, 1, 0, 1, 0] ⟨53, assocSV [(4, .v (.own 544)), vL 28 Y4 x28, vI 29 x29, vI 30 x30], assocB [(544, .rows 9 .str .no x4)]⟩
theorem impl_MachineLines_eq (a0 : D3) : impl_MachineLines a0 = (impl_MachineOK a0).bind fun r1 => bif (!r1) then some ([], 1) else impl_MachineLines.l111010 a0 [] a0.2.1 (a0.2.1.length : Int) 0 :=
  (Den_eq cfg 12 _).trans (by kernel_rfl)
theorem impl_MachineLines.l111010_eq (x1 : D3) (x4 : List ByteArray) (x13 : List D1) (x14 x15 : Int) : impl_MachineLines.l111010 x1 x4 x13 x14 x15 = bif (decide (x15 < x14)) then (bif (inL x15 (x13.length)) then ((impl_Thread_text (rd (τ := Y1) x13 x15) x15).bind fun r2 => bif (roomB ((x4.length) + ([r2].length)) 16) then impl_MachineLines.l111010 x1 (x4 ++ [r2]) x13 x14 (IntKind.wrap .i64 (x15 + 1)) else none) else none) else impl_MachineLines.l1111010 x4 x1.2.2.2 (x1.2.2.2.length : Int) 0 :=
  (Lp_eq cfg 12 _ _ _).trans (by kernel_rfl)
theorem impl_MachineLines.l1111010_eq (x4 : List ByteArray) (x28 : List (Int × Int × Int)) (x29 x30 : Int) : impl_MachineLines.l1111010 x4 x28 x29 x30 = bif (decide (x30 < x29)) then (bif (inL x30 (x28.length)) then ((impl_intText ((rd (τ := Y4) x28 x30).1)).bind fun r3 => bif (decide ((⟨#[115, 104, 97, 100, 111, 119, 32]⟩ : ByteArray).size + r3.size ≤ 9223372036854775807)) then (bif (decide (((⟨#[115, 104, 97, 100, 111, 119, 32]⟩ : ByteArray) ++ r3).size + (⟨#[32]⟩ : ByteArray).size ≤ 9223372036854775807)) then ((impl_intText ((rd (τ := Y4) x28 x30).2.1)).bind fun r4 => bif (decide ((((⟨#[115, 104, 97, 100, 111, 119, 32]⟩ : ByteArray) ++ r3) ++ (⟨#[32]⟩ : ByteArray)).size + r4.size ≤ 9223372036854775807)) then (bif (decide (((((⟨#[115, 104, 97, 100, 111, 119, 32]⟩ : ByteArray) ++ r3) ++ (⟨#[32]⟩ : ByteArray)) ++ r4).size + (⟨#[32]⟩ : ByteArray).size ≤ 9223372036854775807)) then ((impl_intText ((rd (τ := Y4) x28 x30).2.2)).bind fun r5 => bif (decide ((((((⟨#[115, 104, 97, 100, 111, 119, 32]⟩ : ByteArray) ++ r3) ++ (⟨#[32]⟩ : ByteArray)) ++ r4) ++ (⟨#[32]⟩ : ByteArray)).size + r5.size ≤ 9223372036854775807)) then (bif (roomB ((x4.length) + ([((((((⟨#[115, 104, 97, 100, 111, 119, 32]⟩ : ByteArray) ++ r3) ++ (⟨#[32]⟩ : ByteArray)) ++ r4) ++ (⟨#[32]⟩ : ByteArray)) ++ r5)].length)) 16) then impl_MachineLines.l1111010 (x4 ++ [((((((⟨#[115, 104, 97, 100, 111, 119, 32]⟩ : ByteArray) ++ r3) ++ (⟨#[32]⟩ : ByteArray)) ++ r4) ++ (⟨#[32]⟩ : ByteArray)) ++ r5)]) x28 x29 (IntKind.wrap .i64 (x30 + 1)) else none) else none) else none) else none) else none) else none) else none) else some (x4, 0) :=
  (Lp_eq cfg 12 _ _ _).trans (by kernel_rfl)
noncomputable def laws_eqStringS (a0 a1 : List ByteArray) : Option Bool := Den cfg 13 [.v (.list .str a0), .v (.list .str a1)]
noncomputable def laws_eqStringS.l11010 (x0 x1 : List ByteArray) (x5 : Int) : Option Bool := LA 13 Tryz.f13 [1, 1, 0, 1, 0] ⟨26, assocSV [vL 0 .str x0, vL 1 .str x1, vI 5 x5], assocB []⟩
theorem laws_eqStringS_eq (a0 a1 : List ByteArray) : laws_eqStringS a0 a1 = bif (!decide ((a0.length : Int) = (a1.length : Int))) then some false else laws_eqStringS.l11010 a0 a1 0 :=
  (Den_eq cfg 13 _).trans (by kernel_rfl)
theorem laws_eqStringS.l11010_eq (x0 x1 : List ByteArray) (x5 : Int) : laws_eqStringS.l11010 x0 x1 x5 = bif (decide (x5 < (x0.length : Int))) then (bif (inL x5 (x0.length)) then (bif (inL x5 (x1.length)) then (bif (!strEq (rd (τ := .str) x0 x5) (rd (τ := .str) x1 x5)) then some false else laws_eqStringS.l11010 x0 x1 (IntKind.wrap .i64 (x5 + 1))) else none) else none) else some true :=
  (Lp_eq cfg 13 _ _ _).trans (by kernel_rfl)
noncomputable def laws_markText (a0 : Int) : Option ByteArray := Den cfg 47 [.v (.int .i64 a0)]
noncomputable def laws_markText.l11100 (x0 : Int) (x3 : ByteArray) : Option ByteArray := LA 47 Tryz.f47 [1, 1, 1, 0, 0] ⟨20, assocSV [vI 0 x0, (3, .v (.str x3))], assocB []⟩
theorem laws_markText_eq (a0 : Int) : laws_markText a0 = bif (decide (a0 ≤ 0)) then some (⟨#[109, 48]⟩ : ByteArray) else laws_markText.l11100 a0 (⟨#[]⟩ : ByteArray) :=
  (Den_eq cfg 47 _).trans (by kernel_rfl)
theorem laws_markText.l11100_eq (x0 : Int) (x3 : ByteArray) : laws_markText.l11100 x0 x3 = bif (decide (x0 > 0)) then (bif (decide ((bytesOf [(IntKind.wrap .u8 ((IntKind.wrap .i64 (48 + (x0.tmod 10)))))]).size + x3.size ≤ 9223372036854775807)) then laws_markText.l11100 (IntKind.wrap .i64 (x0.tdiv 10)) ((bytesOf [(IntKind.wrap .u8 ((IntKind.wrap .i64 (48 + (x0.tmod 10)))))]) ++ x3) else none) else (bif (decide ((⟨#[109]⟩ : ByteArray).size + x3.size ≤ 9223372036854775807)) then some ((⟨#[109]⟩ : ByteArray) ++ x3) else none) :=
  (Lp_eq cfg 47 _ _ _).trans (by kernel_rfl)
noncomputable def laws_markPageS (a0 : List D0) (a1 : Int) : Option (Int × List D0) := Den cfg 85 [.v (.list Y2 a0), .v (.int .i64 a1)]
noncomputable def laws_markPageS.l1010 (x0 : List D0) (x1 x5 : Int) : Option (Int × List D0) := LA 85 Tryz.f85 [1, 0, 1, 0] ⟨35, assocSV [(0, .v (.own 64)), vI 1 x1, vI 5 x5], assocB [(64, .rows 144 Y2 .no x0)]⟩
theorem laws_markPageS_eq (a0 : List D0) (a1 : Int) : laws_markPageS a0 a1 = laws_markPageS.l1010 a0 a1 0 :=
  (Den_eq cfg 85 _).trans (by kernel_rfl)
theorem laws_markPageS.l1010_eq (x0 : List D0) (x1 x5 : Int) : laws_markPageS.l1010 x0 x1 x5 = bif (decide (x5 < (x0.length : Int))) then (bif (inL x5 (x0.length)) then (bif (inL x5 ((x0.set (Int.toNat x5) (x1, (rd (τ := Y2) x0 x5).2)).length)) then (letB ((x0.set (Int.toNat x5) (x1, (rd (τ := Y2) x0 x5).2)).set (Int.toNat x5) ((rd (τ := Y2) (x0.set (Int.toNat x5) (x1, (rd (τ := Y2) x0 x5).2)) x5).1, (IntKind.wrap .i64 (x1 + 1)), (rd (τ := Y2) (x0.set (Int.toNat x5) (x1, (rd (τ := Y2) x0 x5).2)) x5).2.2)) fun r1 => (laws_markText (IntKind.wrap .i64 ((IntKind.wrap .i64 (x1 + 1)) + 1))).bind fun r2 => bif (inL x5 (r1.length)) then laws_markPageS.l1010 (r1.set (Int.toNat x5) ((rd (τ := Y2) r1 x5).1, (rd (τ := Y2) r1 x5).2.1, r2)) (IntKind.wrap .i64 ((IntKind.wrap .i64 ((IntKind.wrap .i64 (x1 + 1)) + 1)) + 1)) (IntKind.wrap .i64 (x5 + 1)) else none) else none) else none) else some (x1, x0) :=
  (Lp_eq cfg 85 _ _ _).trans (by kernel_rfl)
noncomputable def laws_markMemory (a0 : List D0) (a1 : Int) : Option (Int × List D0) := Den cfg 43 [.agg [.list Y2 a0], .v (.int .i64 a1)]
theorem laws_markMemory_eq (a0 : List D0) (a1 : Int) : laws_markMemory a0 a1 = (laws_markPageS a0 a1).bind fun r1 => some r1 :=
  (Den_eq cfg 43 _).trans (by kernel_rfl)
noncomputable def laws_markIntS (a0 : List Int) (a1 : Int) : Option (Int × List Int) := Den cfg 86 [.v (.list (.int .i64) a0), .v (.int .i64 a1)]
noncomputable def laws_markIntS.l1010 (x0 : List Int) (x1 x5 : Int) : Option (Int × List Int) := LA 86 Tryz.f86 [1, 0, 1, 0] ⟨19, assocSV [(0, .v (.own 64)), vI 1 x1, vI 5 x5], assocB [(64, .rows 3 (.int .i64) .no x0)]⟩
theorem laws_markIntS_eq (a0 : List Int) (a1 : Int) : laws_markIntS a0 a1 = laws_markIntS.l1010 a0 a1 0 :=
  (Den_eq cfg 86 _).trans (by kernel_rfl)
theorem laws_markIntS.l1010_eq (x0 : List Int) (x1 x5 : Int) : laws_markIntS.l1010 x0 x1 x5 = bif (decide (x5 < (x0.length : Int))) then (bif (inL x5 (x0.length)) then laws_markIntS.l1010 (x0.set (Int.toNat x5) x1) (IntKind.wrap .i64 (x1 + 1)) (IntKind.wrap .i64 (x5 + 1)) else none) else some (x1, x0) :=
  (Lp_eq cfg 86 _ _ _).trans (by kernel_rfl)
noncomputable def laws_markThreadS (a0 : List D1) (a1 : Int) : Option (Int × List D1) := Den cfg 44 [.v (.list Y1 a0), .v (.int .i64 a1)]
noncomputable def laws_markThreadS.l1010 (x0 : List D1) (x1 x5 : Int) : Option (Int × List D1) := LA 44 Tryz.f44 [1, 0, 1, 0] ⟨57, assocSV [(0, .v (.own 64)), vI 1 x1, vI 5 x5], assocB [(64, .rows 77 Y1 (.pair .no (.pair .no (.pair (.own 3 .no) .no))) x0)]⟩
noncomputable def laws_markThreadS.l1010010011010 (x0 : List D1) (x1 x5 x6 : Int) : Option (Int × List D1) := LA 44 Tryz.f44 [1, 0, 1, 0, 0, 1, 0, 0, 1, 1, 0, 1, 0] ⟨57, assocSV [(0, .v (.own 64)), vI 1 x1, vI 5 x5, vI 6 x6], assocB [(64, .rows 77 Y1 (.pair .no (.pair .no (.pair (.own 3 .no) .no))) x0)]⟩
theorem laws_markThreadS_eq (a0 : List D1) (a1 : Int) : laws_markThreadS a0 a1 = laws_markThreadS.l1010 a0 a1 0 :=
  (Den_eq cfg 44 _).trans (by kernel_rfl)
theorem laws_markThreadS.l1010_eq (x0 : List D1) (x1 x5 : Int) : laws_markThreadS.l1010 x0 x1 x5 = bif (decide (x5 < (x0.length : Int))) then (bif (inL x5 (x0.length)) then laws_markThreadS.l1010010011010 (x0.set (Int.toNat x5) (x1, (rd (τ := Y1) x0 x5).2)) (IntKind.wrap .i64 (x1 + 1)) x5 0 else none) else some (x1, x0) :=
  (Lp_eq cfg 44 _ _ _).trans (by kernel_rfl)
theorem laws_markThreadS.l1010010011010_eq (x0 : List D1) (x1 x5 x6 : Int) : laws_markThreadS.l1010010011010 x0 x1 x5 x6 = bif (decide (x6 < 32)) then (bif (inL x5 (x0.length)) then (bif (inL x6 32) then (letB (x0.set (Int.toNat x5) ((rd (τ := Y1) x0 x5).1, ((((rd (τ := Y1) x0 x5).2.1.1).set (Int.toNat x6) x1), (rd (τ := Y1) x0 x5).2.1.2), (rd (τ := Y1) x0 x5).2.2)) fun r3 => laws_markThreadS.l1010010011010 r3 (IntKind.wrap .i64 (x1 + 1)) x5 (IntKind.wrap .i64 (x6 + 1))) else none) else none) else (bif (inL x5 (x0.length)) then (letB (x0.set (Int.toNat x5) ((rd (τ := Y1) x0 x5).1, ((rd (τ := Y1) x0 x5).2.1.1, x1), (rd (τ := Y1) x0 x5).2.2)) fun r1 => bif (inL x5 (r1.length)) then ((laws_markIntS ((rd (τ := Y1) r1 x5).2.2.1) (IntKind.wrap .i64 (x1 + 1))).bind fun r2 => bif (inL x5 (r1.length)) then (bif (decide (x5 = x5)) then laws_markThreadS.l1010 (r1.set (Int.toNat x5) ((rd (τ := Y1) r1 x5).1, (rd (τ := Y1) r1 x5).2.1, r2.2, r2.1)) (IntKind.wrap .i64 (r2.1 + 1)) (IntKind.wrap .i64 (x5 + 1)) else none) else none) else none) else none) :=
  (Lp_eq cfg 44 _ _ _).trans (by kernel_rfl)
noncomputable def laws_markEntryS (a0 : List D2) (a1 : Int) : Option (Int × List D2) := Den cfg 45 [.v (.list Y3 a0), .v (.int .i64 a1)]
noncomputable def laws_markEntryS.l1010 (x0 : List D2) (x1 x5 : Int) : Option (Int × List D2) := LA 45 Tryz.f45 [1, 0, 1, 0] ⟨56, assocSV [(0, .v (.own 64)), vI 1 x1, vI 5 x5], assocB [(64, .rows 115 Y3 .no x0)]⟩
theorem laws_markEntryS_eq (a0 : List D2) (a1 : Int) : laws_markEntryS a0 a1 = laws_markEntryS.l1010 a0 a1 0 :=
  (Den_eq cfg 45 _).trans (by kernel_rfl)
theorem laws_markEntryS.l1010_eq (x0 : List D2) (x1 x5 : Int) : laws_markEntryS.l1010 x0 x1 x5 = bif (decide (x5 < (x0.length : Int))) then ((laws_markText x1).bind fun r1 => bif (inL x5 (x0.length)) then (bif (inL x5 ((x0.set (Int.toNat x5) (r1, (rd (τ := Y3) x0 x5).2)).length)) then (letB ((x0.set (Int.toNat x5) (r1, (rd (τ := Y3) x0 x5).2)).set (Int.toNat x5) ((rd (τ := Y3) (x0.set (Int.toNat x5) (r1, (rd (τ := Y3) x0 x5).2)) x5).1, (IntKind.wrap .i64 (x1 + 1)), (rd (τ := Y3) (x0.set (Int.toNat x5) (r1, (rd (τ := Y3) x0 x5).2)) x5).2.2)) fun r2 => bif (inL x5 (r2.length)) then (letB (r2.set (Int.toNat x5) ((rd (τ := Y3) r2 x5).1, (rd (τ := Y3) r2 x5).2.1, (IntKind.wrap .i64 ((IntKind.wrap .i64 (x1 + 1)) + 1)), (rd (τ := Y3) r2 x5).2.2.2)) fun r3 => bif (inL x5 (r3.length)) then (letB (r3.set (Int.toNat x5) ((rd (τ := Y3) r3 x5).1, (rd (τ := Y3) r3 x5).2.1, (rd (τ := Y3) r3 x5).2.2.1, (IntKind.wrap .i64 ((IntKind.wrap .i64 ((IntKind.wrap .i64 (x1 + 1)) + 1)) + 1)), (rd (τ := Y3) r3 x5).2.2.2.2)) fun r4 => bif (inL x5 (r4.length)) then (letB (r4.set (Int.toNat x5) ((rd (τ := Y3) r4 x5).1, (rd (τ := Y3) r4 x5).2.1, (rd (τ := Y3) r4 x5).2.2.1, (rd (τ := Y3) r4 x5).2.2.2.1, (IntKind.wrap .i64 ((IntKind.wrap .i64 ((IntKind.wrap .i64 ((IntKind.wrap .i64 (x1 + 1)) + 1)) + 1)) + 1)), (rd (τ := Y3) r4 x5).2.2.2.2.2)) fun r5 => bif (inL x5 (r5.length)) then (letB (r5.set (Int.toNat x5) ((rd (τ := Y3) r5 x5).1, (rd (τ := Y3) r5 x5).2.1, (rd (τ := Y3) r5 x5).2.2.1, (rd (τ := Y3) r5 x5).2.2.2.1, (rd (τ := Y3) r5 x5).2.2.2.2.1, (IntKind.wrap .i64 ((IntKind.wrap .i64 ((IntKind.wrap .i64 ((IntKind.wrap .i64 ((IntKind.wrap .i64 (x1 + 1)) + 1)) + 1)) + 1)) + 1)))) fun r6 => laws_markEntryS.l1010 r6 (IntKind.wrap .i64 ((IntKind.wrap .i64 ((IntKind.wrap .i64 ((IntKind.wrap .i64 ((IntKind.wrap .i64 ((IntKind.wrap .i64 (x1 + 1)) + 1)) + 1)) + 1)) + 1)) + 1)) (IntKind.wrap .i64 (x5 + 1))) else none) else none) else none) else none) else none) else none) else some (x1, x0) :=
  (Lp_eq cfg 45 _ _ _).trans (by kernel_rfl)
noncomputable def laws_markShadowS (a0 : List (Int × Int × Int)) (a1 : Int) : Option D5 := Den cfg 46 [.v (.list Y4 a0), .v (.int .i64 a1)]
noncomputable def laws_markShadowS.l1010 (x0 : List (Int × Int × Int)) (x1 x5 : Int) : Option D5 := LA 46 Tryz.f46 [1, 0, 1, 0] ⟨34, assocSV [(0, .v (.own 64)), vI 1 x1, vI 5 x5], assocB [(64, .rows 85 Y4 .no x0)]⟩
theorem laws_markShadowS_eq (a0 : List (Int × Int × Int)) (a1 : Int) : laws_markShadowS a0 a1 = laws_markShadowS.l1010 a0 a1 0 :=
  (Den_eq cfg 46 _).trans (by kernel_rfl)
theorem laws_markShadowS.l1010_eq (x0 : List (Int × Int × Int)) (x1 x5 : Int) : laws_markShadowS.l1010 x0 x1 x5 = bif (decide (x5 < (x0.length : Int))) then (bif (inL x5 (x0.length)) then (bif (inL x5 ((x0.set (Int.toNat x5) (x1, (rd (τ := Y4) x0 x5).2)).length)) then (letB ((x0.set (Int.toNat x5) (x1, (rd (τ := Y4) x0 x5).2)).set (Int.toNat x5) ((rd (τ := Y4) (x0.set (Int.toNat x5) (x1, (rd (τ := Y4) x0 x5).2)) x5).1, (IntKind.wrap .i64 (x1 + 1)), (rd (τ := Y4) (x0.set (Int.toNat x5) (x1, (rd (τ := Y4) x0 x5).2)) x5).2.2)) fun r1 => bif (inL x5 (r1.length)) then (letB (r1.set (Int.toNat x5) ((rd (τ := Y4) r1 x5).1, (rd (τ := Y4) r1 x5).2.1, (IntKind.wrap .i64 ((IntKind.wrap .i64 (x1 + 1)) + 1)))) fun r2 => laws_markShadowS.l1010 r2 (IntKind.wrap .i64 ((IntKind.wrap .i64 ((IntKind.wrap .i64 (x1 + 1)) + 1)) + 1)) (IntKind.wrap .i64 (x5 + 1))) else none) else none) else none) else some (x1, x0) :=
  (Lp_eq cfg 46 _ _ _).trans (by kernel_rfl)
noncomputable def laws_markMachine (a0 : D3) (a1 : Int) : Option D6 := Den cfg 14 [.agg [.list Y2 a0.1, .list Y1 a0.2.1, .list Y3 a0.2.2.1, .list Y4 a0.2.2.2], .v (.int .i64 a1)]
theorem laws_markMachine_eq (a0 : D3) (a1 : Int) : laws_markMachine a0 a1 = (laws_markMemory a0.1 a1).bind fun r1 => (laws_markThreadS a0.2.1 r1.1).bind fun r2 => (laws_markEntryS a0.2.2.1 r2.1).bind fun r3 => (laws_markShadowS a0.2.2.2 r3.1).bind fun r4 => some (r4.1, r1.2, r2.2, r3.2, r4.2) :=
  (Den_eq cfg 14 _).trans (by kernel_rfl)
noncomputable def laws_markStringS (a0 : List ByteArray) (a1 : Int) : Option D7 := Den cfg 15 [.v (.list .str a0), .v (.int .i64 a1)]
noncomputable def laws_markStringS.l1010 (x0 : List ByteArray) (x1 x5 : Int) : Option D7 := LA 15 Tryz.f15 [1, 0, 1, 0] ⟨20, assocSV [(0, .v (.own 64)), vI 1 x1, vI 5 x5], assocB [(64, .rows 9 .str .no x0)]⟩
theorem laws_markStringS_eq (a0 : List ByteArray) (a1 : Int) : laws_markStringS a0 a1 = laws_markStringS.l1010 a0 a1 0 :=
  (Den_eq cfg 15 _).trans (by kernel_rfl)
theorem laws_markStringS.l1010_eq (x0 : List ByteArray) (x1 x5 : Int) : laws_markStringS.l1010 x0 x1 x5 = bif (decide (x5 < (x0.length : Int))) then ((laws_markText x1).bind fun r1 => bif (inL x5 (x0.length)) then laws_markStringS.l1010 (x0.set (Int.toNat x5) r1) (IntKind.wrap .i64 (x1 + 1)) (IntKind.wrap .i64 (x5 + 1)) else none) else some (x1, x0) :=
  (Lp_eq cfg 15 _ _ _).trans (by kernel_rfl)
noncomputable def laws_heldStringS (a0 : List ByteArray) (a1 : Int) : Option Int := Den cfg 16 [.v (.list .str a0), .v (.int .i64 a1)]
noncomputable def laws_heldStringS.l1010 (x0 : List ByteArray) (x1 x5 : Int) : Option Int := LA 16 Tryz.f16 [1, 0, 1, 0] ⟨22, assocSV [vL 0 .str x0, vI 1 x1, vI 5 x5], assocB []⟩
theorem laws_heldStringS_eq (a0 : List ByteArray) (a1 : Int) : laws_heldStringS a0 a1 = laws_heldStringS.l1010 a0 a1 0 :=
  (Den_eq cfg 16 _).trans (by kernel_rfl)
theorem laws_heldStringS.l1010_eq (x0 : List ByteArray) (x1 x5 : Int) : laws_heldStringS.l1010 x0 x1 x5 = bif (decide (x5 < (x0.length : Int))) then (bif (inL x5 (x0.length)) then ((laws_markText x1).bind fun r1 => bif (!strEq (rd (τ := .str) x0 x5) r1) then some (-1) else laws_heldStringS.l1010 x0 (IntKind.wrap .i64 (x1 + 1)) (IntKind.wrap .i64 (x5 + 1))) else none) else some x1 :=
  (Lp_eq cfg 16 _ _ _).trans (by kernel_rfl)
noncomputable def laws_FnExactMachineLines (a0 : D3) : Option Bool := Den cfg 4 [.agg [.list Y2 a0.1, .list Y1 a0.2.1, .list Y3 a0.2.2.1, .list Y4 a0.2.2.2]]
theorem laws_FnExactMachineLines_eq (a0 : D3) : laws_FnExactMachineLines a0 = (laws_szMachine a0 1048576).bind fun r1 => bif (decide (r1 < 0)) then some true else ((laws_toMachine a0).bind fun r2 => (spec_MachineLines r2).bind fun r3 => (laws_toMachine a0).bind fun r4 => (impl_MachineLines r4).bind fun r5 => joinB (fun kr27 => (laws_eqStringS r5.1 r3.1).bind fun r6 => bif (!r6) then kr27 true else kr27 (!decide (r5.2 = r3.2))) fun (r8 : Bool) => bif r8 then some false else ((laws_toMachine a0).bind fun r9 => (laws_eqMachine r4 r9).bind fun r10 => bif (!r10) then some false else ((laws_markMachine r4 1).bind fun r11 => joinB (fun kr26 => bif (decide (r11.1 < 0)) then kr26 true else ((laws_eqStringS r5.1 r3.1).bind fun r12 => bif (!r12) then kr26 true else kr26 (!decide (r5.2 = r3.2)))) fun (r16 : Bool) => bif r16 then some false else ((laws_markStringS r5.1 1).bind fun r17 => (laws_heldStringS r17.2 1).bind fun r18 => bif (decide (r18 < 0)) then some false else (bif (!decide (r18 = r17.1)) then some false else ((laws_toMachine a0).bind fun r19 => (impl_MachineLines r19).bind fun r20 => joinB (fun kr25 => (laws_eqStringS r20.1 r3.1).bind fun r21 => bif (!r21) then kr25 true else kr25 (!decide (r20.2 = r3.2))) fun (r23 : Bool) => bif r23 then some false else ((laws_heldStringS r17.2 1).bind fun r24 => bif (decide (r24 < 0)) then some false else (bif (!decide (r24 = r17.1)) then some false else some true)))))))) :=
  (Den_eq cfg 4 _).trans (by kernel_rfl)
end Go.Proofs.YtoikigjhiohopaaGreatDoor.S
