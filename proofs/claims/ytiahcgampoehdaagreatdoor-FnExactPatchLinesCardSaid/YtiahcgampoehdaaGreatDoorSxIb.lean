import Derived.Test.YtiahcgampoehdaaGreatDoorSxIa
import Derived.Test.YtiahcgampoehdaaGreatDoorProg
namespace Go.Proofs.YtiahcgampoehdaaGreatDoor.S
open Go.Ps
set_option linter.unusedVariables false
set_option maxRecDepth 100000
set_option maxHeartbeats 0
noncomputable def Z1 (a0 a1:Int):Option ByteArray:=au cfg 219 [.v (.int .i64 a0),.v (.int .i64 a1)]
noncomputable def Z2 (a0:ByteArray) (a1:Int):Option ByteArray:=au cfg 331 [.v (.str a0),.v (.int .i64 a1)]
noncomputable def Z3 (a0:List D0):Option (List D0):=au cfg 341 [.v (.list Y1 a0)]
noncomputable def Z4 (a0:List D1) (a1:Int) (a2:List D1):Option (List D1):=au cfg 367 [.v (.list Y0 a0),.v (.int .i64 a1),.v (.list Y0 a2)]
noncomputable def Z5 (a0:List D1):Option (List D1):=au cfg 368 [.v (.list Y0 a0)]
theorem O7 (a0 a1:Int):Z1 a0 a1=bif (decide (a1=10)&&decide (-9223372036854775808≤a0)&&decide (a0≤9223372036854775807))then some (fP a0)else none:=by
 refine(aa cfg 219 _).trans ?_
 show Option.bind (bif (decide (a1=10)&&decide (-9223372036854775808≤a0)&&decide (a0≤9223372036854775807))then some _ else none) _=_
 cases (decide (a1=10)&&decide (-9223372036854775808≤a0)&&decide (a0≤9223372036854775807))
 ·exact(by kernel_rfl)
 ·exact(by kernel_rfl)
theorem IR (a0:ByteArray) (a1:Int):Z2 a0 a1=bif (decide (0≤a1)&&decide (a1≤9223372036854775807)&&decide (a0.size*a1.toNat≤140737488355328))then some (q8 a0 a1)else none:=by
 refine(aa cfg 331 _).trans ?_
 show Option.bind (bif (decide (0≤a1)&&decide (a1≤9223372036854775807)&&decide (a0.size*a1.toNat≤140737488355328))then some _ else none) _=_
 cases (decide (0≤a1)&&decide (a1≤9223372036854775807)&&decide (a0.size*a1.toNat≤140737488355328))
 ·exact(by kernel_rfl)
 ·exact(by kernel_rfl)
theorem O8 (a0:List D0):Z3 a0=bif (ar a0.length 56)then some a0 else none:=by
 refine(aa cfg 341 _).trans ?_
 show Option.bind (bif (ar a0.length 56)then some _ else none) _=_
 cases (ar a0.length 56)
 ·exact(by kernel_rfl)
 ·exact(by kernel_rfl)
theorem O9 (a0:List D1) (a1:Int) (a2:List D1):Z4 a0 a1 a2=bif (decide (a1=(a0.length:Int))&&ar (a0.length+a2.length) 32)then some (a0++a2)else none:=by
 refine(aa cfg 367 _).trans ?_
 show Option.bind (bif (decide (a1=(a0.length:Int))&&ar (a0.length+a2.length) 32)then some _ else none) _=_
 cases (decide (a1=(a0.length:Int))&&ar (a0.length+a2.length) 32)
 ·exact(by kernel_rfl)
 ·exact(by kernel_rfl)
theorem Pa (a0:List D1):Z5 a0=bif (ar a0.length 32)then some a0 else none:=by
 refine(aa cfg 368 _).trans ?_
 show Option.bind (bif (ar a0.length 32)then some _ else none) _=_
 cases (ar a0.length 32)
 ·exact(by kernel_rfl)
 ·exact(by kernel_rfl)
noncomputable def Z6 (a0:D2) (a1:Int):Option Int:=au cfg 89 [.agg [.str a0.1,.int .i64 a0.2.1,.int .i64 a0.2.2.1,.int .i64 a0.2.2.2.1,.int .i64 a0.2.2.2.2],.v (.int .i64 a1)]
theorem Pb (a0:D2) (a1:Int):Z6 a0 a1=bif (decide ((IntKind.wrap .i64 (a1-(a0.1.size:Int)))<0))then some (-1)else some (IntKind.wrap .i64 (a1-(a0.1.size:Int))):=
 (aa cfg 89 _).trans (by kernel_rfl)
noncomputable def Z7 (a0:List D2) (a1:Int):Option Int:=au cfg 43 [.v (.list Y4 a0),.v (.int .i64 a1)]
noncomputable def Z7.a (x0:List D2) (x1 x5:Int):Option Int:=LA 43 Tryz.f43 [1,1,1,0,1,0] ⟨27,af [vL 0 Y4 x0,vI 1 x1,vI 5 x5],ai []⟩
theorem Pd (a0:List D2) (a1:Int):Z7 a0 a1=bif (decide ((IntKind.wrap .i64 (a1-(a0.length:Int)))<0))then some (-1)else Z7.a a0 (IntKind.wrap .i64 (a1-(a0.length:Int))) 0:=
 (aa cfg 43 _).trans (by kernel_rfl)
theorem Z7.a_eq (x0:List D2) (x1 x5:Int):Z7.a x0 x1 x5=bif (decide (x5< (x0.length:Int)))then(bif (ao x5 (x0.length))then((Z6 (rd (τ:=Y4) x0 x5) x1).bind fun r1=>bif (decide (r1<0))then some (-1)else Z7.a x0 r1 (IntKind.wrap .i64 (x5+1)))else none)else some x1:=
 (ak cfg 43 _ _ _).trans (by kernel_rfl)
noncomputable def Z8 (a0:D3) (a1:Int):Option Int:=au cfg 19 [.agg [.str a0.1,.str a0.2.1,.list Y4 a0.2.2],.v (.int .i64 a1)]
theorem Pe (a0:D3) (a1:Int):Z8 a0 a1=bif (decide ((IntKind.wrap .i64 (a1-(a0.1.size:Int)))<0))then some (-1)else(bif (decide ((IntKind.wrap .i64 ((IntKind.wrap .i64 (a1-(a0.1.size:Int)))-(a0.2.1.size:Int)))<0))then some (-1)else((Z7 a0.2.2 (IntKind.wrap .i64 ((IntKind.wrap .i64 (a1-(a0.1.size:Int)))-(a0.2.1.size:Int)))).bind fun r1=>bif (decide (r1<0))then some (-1)else some r1)):=
 (aa cfg 19 _).trans (by kernel_rfl)
noncomputable def Z9 (a0:D1) (a1:Int):Option Int:=au cfg 151 [.agg [.int .i64 a0.1,.int .i64 a0.2.1,.str a0.2.2],.v (.int .i64 a1)]
theorem Pf (a0:D1) (a1:Int):Z9 a0 a1=bif (decide ((IntKind.wrap .i64 (a1-(a0.2.2.size:Int)))<0))then some (-1)else some (IntKind.wrap .i64 (a1-(a0.2.2.size:Int))):=
 (aa cfg 151 _).trans (by kernel_rfl)
noncomputable def Za (a0:List D1) (a1:Int):Option Int:=au cfg 90 [.v (.list Y0 a0),.v (.int .i64 a1)]
noncomputable def Za.a (x0:List D1) (x1 x5:Int):Option Int:=LA 90 Tryz.f90 [1,1,1,0,1,0] ⟨27,af [vL 0 Y0 x0,vI 1 x1,vI 5 x5],ai []⟩
theorem Pg (a0:List D1) (a1:Int):Za a0 a1=bif (decide ((IntKind.wrap .i64 (a1-(a0.length:Int)))<0))then some (-1)else Za.a a0 (IntKind.wrap .i64 (a1-(a0.length:Int))) 0:=
 (aa cfg 90 _).trans (by kernel_rfl)
theorem Za.a_eq (x0:List D1) (x1 x5:Int):Za.a x0 x1 x5=bif (decide (x5< (x0.length:Int)))then(bif (ao x5 (x0.length))then((Z9 (rd (τ:=Y0) x0 x5) x1).bind fun r1=>bif (decide (r1<0))then some (-1)else Za.a x0 r1 (IntKind.wrap .i64 (x5+1)))else none)else some x1:=
 (ak cfg 90 _ _ _).trans (by kernel_rfl)
noncomputable def Zb (a0:List D1) (a1:Int):Option Int:=au cfg 44 [.agg [.list Y0 a0],.v (.int .i64 a1)]
theorem Ph (a0:List D1) (a1:Int):Zb a0 a1=(Za a0 a1).bind fun r1=>bif (decide (r1<0))then some (-1)else some r1:=
 (aa cfg 44 _).trans (by kernel_rfl)
noncomputable def Zc (a0:List Int) (a1:Int):Option Int:=au cfg 152 [.v (.list (.int .i64) a0),.v (.int .i64 a1)]
theorem Pi (a0:List Int) (a1:Int):Zc a0 a1=bif (decide ((IntKind.wrap .i64 (a1-(a0.length:Int)))<0))then some (-1)else some (IntKind.wrap .i64 (a1-(a0.length:Int))):=
 (aa cfg 152 _).trans (by kernel_rfl)
noncomputable def Zd (a0:D4) (a1:Int):Option Int:=au cfg 91 [.agg [.int .i64 a0.1,.seg (.int .i64) 32 a0.2.1.1,.int .i64 a0.2.1.2,.list (.int .i64) a0.2.2.1,.int .i64 a0.2.2.2],.v (.int .i64 a1)]
theorem Pj (a0:D4) (a1:Int):Zd a0 a1=(Zc a0.2.2.1 a1).bind fun r1=>bif (decide (r1<0))then some (-1)else some r1:=
 (aa cfg 91 _).trans (by kernel_rfl)
noncomputable def Ze (a0:List D4) (a1:Int):Option Int:=au cfg 45 [.v (.list Y3 a0),.v (.int .i64 a1)]
noncomputable def Ze.a (x0:List D4) (x1 x5:Int):Option Int:=LA 45 Tryz.f45 [1,1,1,0,1,0] ⟨27,af [vL 0 Y3 x0,vI 1 x1,vI 5 x5],ai []⟩
theorem Pk (a0:List D4) (a1:Int):Ze a0 a1=bif (decide ((IntKind.wrap .i64 (a1-(a0.length:Int)))<0))then some (-1)else Ze.a a0 (IntKind.wrap .i64 (a1-(a0.length:Int))) 0:=
 (aa cfg 45 _).trans (by kernel_rfl)
theorem Ze.a_eq (x0:List D4) (x1 x5:Int):Ze.a x0 x1 x5=bif (decide (x5< (x0.length:Int)))then(bif (ao x5 (x0.length))then((Zd (rd (τ:=Y3) x0 x5) x1).bind fun r1=>bif (decide (r1<0))then some (-1)else Ze.a x0 r1 (IntKind.wrap .i64 (x5+1)))else none)else some x1:=
 (ak cfg 45 _ _ _).trans (by kernel_rfl)
noncomputable def Zf (a0:D0) (a1:Int):Option Int:=au cfg 92 [.agg [.str a0.1,.int .i64 a0.2.1,.int .i64 a0.2.2.1,.int .i64 a0.2.2.2.1,.int .i64 a0.2.2.2.2.1,.int .i64 a0.2.2.2.2.2],.v (.int .i64 a1)]
theorem Pm (a0:D0) (a1:Int):Zf a0 a1=bif (decide ((IntKind.wrap .i64 (a1-(a0.1.size:Int)))<0))then some (-1)else some (IntKind.wrap .i64 (a1-(a0.1.size:Int))):=
 (aa cfg 92 _).trans (by kernel_rfl)
noncomputable def Zg (a0:List D0) (a1:Int):Option Int:=au cfg 46 [.v (.list Y1 a0),.v (.int .i64 a1)]
noncomputable def Zg.a (x0:List D0) (x1 x5:Int):Option Int:=LA 46 Tryz.f46 [1,1,1,0,1,0] ⟨27,af [vL 0 Y1 x0,vI 1 x1,vI 5 x5],ai []⟩
theorem Pn (a0:List D0) (a1:Int):Zg a0 a1=bif (decide ((IntKind.wrap .i64 (a1-(a0.length:Int)))<0))then some (-1)else Zg.a a0 (IntKind.wrap .i64 (a1-(a0.length:Int))) 0:=
 (aa cfg 46 _).trans (by kernel_rfl)
theorem Zg.a_eq (x0:List D0) (x1 x5:Int):Zg.a x0 x1 x5=bif (decide (x5< (x0.length:Int)))then(bif (ao x5 (x0.length))then((Zf (rd (τ:=Y1) x0 x5) x1).bind fun r1=>bif (decide (r1<0))then some (-1)else Zg.a x0 r1 (IntKind.wrap .i64 (x5+1)))else none)else some x1:=
 (ak cfg 46 _ _ _).trans (by kernel_rfl)
noncomputable def Zh (a0:List (Int×Int×Int)) (a1:Int):Option Int:=au cfg 47 [.v (.list aV a0),.v (.int .i64 a1)]
theorem Po (a0:List (Int×Int×Int)) (a1:Int):Zh a0 a1=bif (decide ((IntKind.wrap .i64 (a1-(a0.length:Int)))<0))then some (-1)else some (IntKind.wrap .i64 (a1-(a0.length:Int))):=
 (aa cfg 47 _).trans (by kernel_rfl)
noncomputable def Zi (a0:D5) (a1:Int):Option Int:=au cfg 20 [.agg [.list Y0 a0.1,.list Y3 a0.2.1,.list Y1 a0.2.2.1,.list aV a0.2.2.2],.v (.int .i64 a1)]
theorem Pp (a0:D5) (a1:Int):Zi a0 a1=(Zb a0.1 a1).bind fun r1=>bif (decide (r1<0))then some (-1)else((Ze a0.2.1 r1).bind fun r2=>bif (decide (r2<0))then some (-1)else((Zg a0.2.2.1 r2).bind fun r3=>bif (decide (r3<0))then some (-1)else((Zh a0.2.2.2 r3).bind fun r4=>bif (decide (r4<0))then some (-1)else some r4))):=
 (aa cfg 20 _).trans (by kernel_rfl)
noncomputable def Zj (a0:D6) (a1:Int):Option Int:=au cfg 231 [.agg [.str a0.1,.bool a0.2.1,.int .i64 a0.2.2.1,.str a0.2.2.2],.v (.int .i64 a1)]
theorem Pq (a0:D6) (a1:Int):Zj a0 a1=bif (decide ((IntKind.wrap .i64 (a1-(a0.1.size:Int)))<0))then some (-1)else(bif (decide ((IntKind.wrap .i64 ((IntKind.wrap .i64 (a1-(a0.1.size:Int)))-(a0.2.2.2.size:Int)))<0))then some (-1)else some (IntKind.wrap .i64 ((IntKind.wrap .i64 (a1-(a0.1.size:Int)))-(a0.2.2.2.size:Int)))):=
 (aa cfg 231 _).trans (by kernel_rfl)
noncomputable def Zk (a0:List D6) (a1:Int):Option Int:=au cfg 153 [.v (.list Y5 a0),.v (.int .i64 a1)]
noncomputable def Zk.a (x0:List D6) (x1 x5:Int):Option Int:=LA 153 Tryz.f153 [1,1,1,0,1,0] ⟨27,af [vL 0 Y5 x0,vI 1 x1,vI 5 x5],ai []⟩
theorem Pr (a0:List D6) (a1:Int):Zk a0 a1=bif (decide ((IntKind.wrap .i64 (a1-(a0.length:Int)))<0))then some (-1)else Zk.a a0 (IntKind.wrap .i64 (a1-(a0.length:Int))) 0:=
 (aa cfg 153 _).trans (by kernel_rfl)
theorem Zk.a_eq (x0:List D6) (x1 x5:Int):Zk.a x0 x1 x5=bif (decide (x5< (x0.length:Int)))then(bif (ao x5 (x0.length))then((Zj (rd (τ:=Y5) x0 x5) x1).bind fun r1=>bif (decide (r1<0))then some (-1)else Zk.a x0 r1 (IntKind.wrap .i64 (x5+1)))else none)else some x1:=
 (ak cfg 153 _ _ _).trans (by kernel_rfl)
noncomputable def Zl (a0:D7) (a1:Int):Option Int:=au cfg 232 [.agg [.str a0.1,.str a0.2],.v (.int .i64 a1)]
theorem Pt (a0:D7) (a1:Int):Zl a0 a1=bif (decide ((IntKind.wrap .i64 (a1-(a0.1.size:Int)))<0))then some (-1)else(bif (decide ((IntKind.wrap .i64 ((IntKind.wrap .i64 (a1-(a0.1.size:Int)))-(a0.2.size:Int)))<0))then some (-1)else some (IntKind.wrap .i64 ((IntKind.wrap .i64 (a1-(a0.1.size:Int)))-(a0.2.size:Int)))):=
 (aa cfg 232 _).trans (by kernel_rfl)
noncomputable def Zm (a0:List D7) (a1:Int):Option Int:=au cfg 154 [.v (.list (.pair .str .str) a0),.v (.int .i64 a1)]
noncomputable def Zm.a (x0:List D7) (x1 x5:Int):Option Int:=LA 154 Tryz.f154 [1,1,1,0,1,0] ⟨27,af [vL 0 (.pair .str .str) x0,vI 1 x1,vI 5 x5],ai []⟩
theorem Pu (a0:List D7) (a1:Int):Zm a0 a1=bif (decide ((IntKind.wrap .i64 (a1-(a0.length:Int)))<0))then some (-1)else Zm.a a0 (IntKind.wrap .i64 (a1-(a0.length:Int))) 0:=
 (aa cfg 154 _).trans (by kernel_rfl)
theorem Zm.a_eq (x0:List D7) (x1 x5:Int):Zm.a x0 x1 x5=bif (decide (x5< (x0.length:Int)))then(bif (ao x5 (x0.length))then((Zl (rd (τ:=(.pair .str .str)) x0 x5) x1).bind fun r1=>bif (decide (r1<0))then some (-1)else Zm.a x0 r1 (IntKind.wrap .i64 (x5+1)))else none)else some x1:=
 (ak cfg 154 _ _ _).trans (by kernel_rfl)
noncomputable def Zn (a0:D8) (a1:Int):Option Int:=au cfg 233 [.agg [.int .i64 a0.1,.int .i64 a0.2.1,.int .i64 a0.2.2.1,.str a0.2.2.2.1,.int .i64 a0.2.2.2.2],.v (.int .i64 a1)]
theorem Pv (a0:D8) (a1:Int):Zn a0 a1=bif (decide ((IntKind.wrap .i64 (a1-(a0.2.2.2.1.size:Int)))<0))then some (-1)else some (IntKind.wrap .i64 (a1-(a0.2.2.2.1.size:Int))):=
 (aa cfg 233 _).trans (by kernel_rfl)
noncomputable def Zo (a0:List D8) (a1:Int):Option Int:=au cfg 155 [.v (.list Y6 a0),.v (.int .i64 a1)]
noncomputable def Zo.a (x0:List D8) (x1 x5:Int):Option Int:=LA 155 Tryz.f155 [1,1,1,0,1,0] ⟨27,af [vL 0 Y6 x0,vI 1 x1,vI 5 x5],ai []⟩
theorem Pw (a0:List D8) (a1:Int):Zo a0 a1=bif (decide ((IntKind.wrap .i64 (a1-(a0.length:Int)))<0))then some (-1)else Zo.a a0 (IntKind.wrap .i64 (a1-(a0.length:Int))) 0:=
 (aa cfg 155 _).trans (by kernel_rfl)
theorem Zo.a_eq (x0:List D8) (x1 x5:Int):Zo.a x0 x1 x5=bif (decide (x5< (x0.length:Int)))then(bif (ao x5 (x0.length))then((Zn (rd (τ:=Y6) x0 x5) x1).bind fun r1=>bif (decide (r1<0))then some (-1)else Zo.a x0 r1 (IntKind.wrap .i64 (x5+1)))else none)else some x1:=
 (ak cfg 155 _ _ _).trans (by kernel_rfl)
noncomputable def Zp (a0:List (Int×Bool)) (a1:Int):Option Int:=au cfg 156 [.v (.list (.pair (.int .i64) .bool) a0),.v (.int .i64 a1)]
theorem Px (a0:List (Int×Bool)) (a1:Int):Zp a0 a1=bif (decide ((IntKind.wrap .i64 (a1-(a0.length:Int)))<0))then some (-1)else some (IntKind.wrap .i64 (a1-(a0.length:Int))):=
 (aa cfg 156 _).trans (by kernel_rfl)
noncomputable def Zq (a0:D9) (a1:Int):Option Int:=au cfg 93 [.agg [.str a0.1,.int .i64 a0.2.1,.list Y5 a0.2.2.1,.list (.pair .str .str) a0.2.2.2.1,.list Y6 a0.2.2.2.2.1,.list (.pair (.int .i64) .bool) a0.2.2.2.2.2],.v (.int .i64 a1)]
theorem Py (a0:D9) (a1:Int):Zq a0 a1=bif (decide ((IntKind.wrap .i64 (a1-(a0.1.size:Int)))<0))then some (-1)else((Zk a0.2.2.1 (IntKind.wrap .i64 (a1-(a0.1.size:Int)))).bind fun r1=>bif (decide (r1<0))then some (-1)else((Zm a0.2.2.2.1 r1).bind fun r2=>bif (decide (r2<0))then some (-1)else((Zo a0.2.2.2.2.1 r2).bind fun r3=>bif (decide (r3<0))then some (-1)else((Zp a0.2.2.2.2.2 r3).bind fun r4=>bif (decide (r4<0))then some (-1)else some r4)))):=
 (aa cfg 93 _).trans (by kernel_rfl)
noncomputable def Zr (a0:List ByteArray) (a1:Int):Option Int:=au cfg 157 [.v (.list .str a0),.v (.int .i64 a1)]
noncomputable def Zr.a (x0:List ByteArray) (x1 x5:Int):Option Int:=LA 157 Tryz.f157 [1,1,1,0,1,0] ⟨28,af [vL 0 .str x0,vI 1 x1,vI 5 x5],ai []⟩
theorem Pz (a0:List ByteArray) (a1:Int):Zr a0 a1=bif (decide ((IntKind.wrap .i64 (a1-(a0.length:Int)))<0))then some (-1)else Zr.a a0 (IntKind.wrap .i64 (a1-(a0.length:Int))) 0:=
 (aa cfg 157 _).trans (by kernel_rfl)
theorem Zr.a_eq (x0:List ByteArray) (x1 x5:Int):Zr.a x0 x1 x5=bif (decide (x5< (x0.length:Int)))then(bif (ao x5 (x0.length))then(bif (decide ((IntKind.wrap .i64 (x1-((rd (τ:= .str) x0 x5).size:Int)))<0))then some (-1)else Zr.a x0 (IntKind.wrap .i64 (x1-((rd (τ:= .str) x0 x5).size:Int))) (IntKind.wrap .i64 (x5+1)))else none)else some x1:=
 (ak cfg 157 _ _ _).trans (by kernel_rfl)
noncomputable def Zs (a0:bY) (a1:Int):Option Int:=au cfg 94 [.agg [.list (.int .i64) a0.1,.list .str a0.2.1,.list (.int .i64) a0.2.2.1,.list .str a0.2.2.2],.v (.int .i64 a1)]
theorem PA (a0:bY) (a1:Int):Zs a0 a1=(Zc a0.1 a1).bind fun r1=>bif (decide (r1<0))then some (-1)else((Zr a0.2.1 r1).bind fun r2=>bif (decide (r2<0))then some (-1)else((Zc a0.2.2.1 r2).bind fun r3=>bif (decide (r3<0))then some (-1)else((Zr a0.2.2.2 r3).bind fun r4=>bif (decide (r4<0))then some (-1)else some r4))):=
 (aa cfg 94 _).trans (by kernel_rfl)
noncomputable def Zt (a0:List (Int×Int)) (a1:Int):Option Int:=au cfg 95 [.v (.list Y9 a0),.v (.int .i64 a1)]
theorem PB (a0:List (Int×Int)) (a1:Int):Zt a0 a1=bif (decide ((IntKind.wrap .i64 (a1-(a0.length:Int)))<0))then some (-1)else some (IntKind.wrap .i64 (a1-(a0.length:Int))):=
 (aa cfg 95 _).trans (by kernel_rfl)
noncomputable def Zu (a0:cV) (a1:Int):Option Int:=au cfg 48 [.agg [.str a0.1.1,.int .i64 a0.1.2.1,.list Y5 a0.1.2.2.1,.list (.pair .str .str) a0.1.2.2.2.1,.list Y6 a0.1.2.2.2.2.1,.list (.pair (.int .i64) .bool) a0.1.2.2.2.2.2,.list (.int .i64) a0.2.1.1,.list .str a0.2.1.2.1,.list (.int .i64) a0.2.1.2.2.1,.list .str a0.2.1.2.2.2,.list Y9 a0.2.2],.v (.int .i64 a1)]
theorem PC (a0:cV) (a1:Int):Zu a0 a1=(Zq a0.1 a1).bind fun r1=>bif (decide (r1<0))then some (-1)else((Zs a0.2.1 r1).bind fun r2=>bif (decide (r2<0))then some (-1)else((Zt a0.2.2 r2).bind fun r3=>bif (decide (r3<0))then some (-1)else some r3)):=
 (aa cfg 48 _).trans (by kernel_rfl)
noncomputable def Zv (a0:List cV) (a1:Int):Option Int:=au cfg 21 [.v (.list bl a0),.v (.int .i64 a1)]
noncomputable def Zv.a (x0:List cV) (x1 x5:Int):Option Int:=LA 21 Tryz.f21 [1,1,1,0,1,0] ⟨27,af [vL 0 bl x0,vI 1 x1,vI 5 x5],ai []⟩
theorem PD (a0:List cV) (a1:Int):Zv a0 a1=bif (decide ((IntKind.wrap .i64 (a1-(a0.length:Int)))<0))then some (-1)else Zv.a a0 (IntKind.wrap .i64 (a1-(a0.length:Int))) 0:=
 (aa cfg 21 _).trans (by kernel_rfl)
theorem Zv.a_eq (x0:List cV) (x1 x5:Int):Zv.a x0 x1 x5=bif (decide (x5< (x0.length:Int)))then(bif (ao x5 (x0.length))then((Zu (rd (τ:=bl) x0 x5) x1).bind fun r1=>bif (decide (r1<0))then some (-1)else Zv.a x0 r1 (IntKind.wrap .i64 (x5+1)))else none)else some x1:=
 (ak cfg 21 _ _ _).trans (by kernel_rfl)
noncomputable def Zw (a0:mh) (a1:Int):Option Int:=au cfg 6 [.agg [.str a0.1.1,.str a0.1.2.1,.list Y4 a0.1.2.2,.list Y0 a0.2.1.1,.list Y3 a0.2.1.2.1,.list Y1 a0.2.1.2.2.1,.list aV a0.2.1.2.2.2,.list bl a0.2.2],.v (.int .i64 a1)]
theorem PE (a0:mh) (a1:Int):Zw a0 a1=(Z8 a0.1 a1).bind fun r1=>bif (decide (r1<0))then some (-1)else((Zi a0.2.1 r1).bind fun r2=>bif (decide (r2<0))then some (-1)else((Zv a0.2.2 r2).bind fun r3=>bif (decide (r3<0))then some (-1)else some r3)):=
 (aa cfg 6 _).trans (by kernel_rfl)
noncomputable def Zx (a0:Int):Option Bool:=au cfg 311 [.v (.int .u8 a0)]
theorem PF (a0:Int):Zx a0=bif (decide (a0≥97))then(bif (decide (a0≤122))then some true else(bif (decide (a0≥65))then(bif (decide (a0≤90))then some true else some (decide (a0=95)))else some (decide (a0=95))))else(bif (decide (a0≥65))then(bif (decide (a0≤90))then some true else some (decide (a0=95)))else some (decide (a0=95))):=
 (aa cfg 311 _).trans (by kernel_rfl)
noncomputable def Zy (a0:Int):Option Bool:=au cfg 312 [.v (.int .u8 a0)]
theorem PG (a0:Int):Zy a0=bif (decide (a0≥48))then some (decide (a0≤57))else some false:=
 (aa cfg 312 _).trans (by kernel_rfl)
noncomputable def Zz (a0:ByteArray):Option Bool:=au cfg 234 [.v (.str a0)]
noncomputable def Zz.a (x0:ByteArray) (x3:Int):Option Bool:=LA 234 Tryz.f234 [1,1,0,1,0] ⟨36,af [(0,.v (.str x0)),vI 3 x3],ai []⟩
theorem IS (a0:ByteArray):Zz a0=bif (decide ((a0.size:Int)<1))then some false else(bif (decide ((a0.size:Int)>20))then some false else(bif (ao 0 a0.size)then((Zx (bt a0 0)).bind fun r1=>bif (!r1)then some false else Zz.a a0 1)else none)):=
 (aa cfg 234 _).trans (by kernel_rfl)
theorem Zz.a_eq (x0:ByteArray) (x3:Int):Zz.a x0 x3=bif (decide (x3< (x0.size:Int)))then(bif (ao x3 x0.size)then((Zx (bt x0 x3)).bind fun r6=>bif (!r6)then(bif (ao x3 x0.size)then((Zy (bt x0 x3)).bind fun r7=>bif (!r7)then some false else Zz.a x0 (IntKind.wrap .i64 (x3+1)))else none)else Zz.a x0 (IntKind.wrap .i64 (x3+1)))else none)else some true:=
 (ak cfg 234 _ _ _).trans (by kernel_rfl)
noncomputable def nX (a0:D3):Option (Int×Int):=au cfg 158 [.agg [.str a0.1,.str a0.2.1,.list Y4 a0.2.2]]
noncomputable def nX.a (x1:D3) (x4 x5 x6:Int):Option (Int×Int):=LA 158 Tryz.f158 [1,1,1,0,1,0] ⟨139,af [vP 1 191,vI 4 x4,vI 5 x5,vI 6 x6],ai [(191,.box [.str x1.1,.str x1.2.1,.list Y4 x1.2.2])]⟩
noncomputable def nX.b (x1:D3) (x4 x5 x6:Int) (x7:D2) (x8:Int):Option (Int×Int):=LA 158 Tryz.f158 [1,1,1,0,1,0,0,1,0,0,1,1,0,1,0] ⟨139,af [vP 1 191,vI 4 x4,vI 5 x5,vI 6 x6,vP 7 959,vI 8 x8],ai [(191,.box [.str x1.1,.str x1.2.1,.list Y4 x1.2.2]),(959,.box [.str x7.1,.int .i64 x7.2.1,.int .i64 x7.2.2.1,.int .i64 x7.2.2.2.1,.int .i64 x7.2.2.2.2])]⟩
theorem JA (a0:D3):nX a0=nX.a a0 0 0 0:=
 (aa cfg 158 _).trans (by kernel_rfl)
theorem nX.a_eq (x1:D3) (x4 x5 x6:Int):nX.a x1 x4 x5 x6=bif (decide (x6< (x1.2.2.length:Int)))then(bif (ao x6 (x1.2.2.length))then((Zz ((rd (τ:=Y4) x1.2.2 x6).1)).bind fun r3=>bif (!r3)then some (x6,3)else nX.b x1 x4 x5 x6 (rd (τ:=Y4) x1.2.2 x6) 0)else none)else(bif (decide ((x1.2.2.length:Int)=0))then some (0,23)else(bif (ao 0 (x1.2.2.length))then(bif (!decide ((rd (τ:=Y4) x1.2.2 0).2.1=1))then some (0,23)else(bif (!decide (x4=(x1.1.size:Int)))then some (0,22)else some (0,0)))else none)):=
 (ak cfg 158 _ _ _).trans (by kernel_rfl)
theorem nX.b_eq (x1:D3) (x4 x5 x6:Int) (x7:D2) (x8:Int):nX.b x1 x4 x5 x6 x7 x8=bif (decide (x8<x6))then(bif (ao x8 (x1.2.2.length))then(bif (bo ((rd (τ:=Y4) x1.2.2 x8).1) x7.1)then some (x6,24)else nX.b x1 x4 x5 x6 x7 (IntKind.wrap .i64 (x8+1)))else none)else(bif (decide (x7.2.1=1))then(bif (!decide (x7.2.2.1=x4))then some (x6,4)else(bif (decide (x7.2.2.2.1<1))then some (x6,4)else(bif (decide (x7.2.2.2.1>(IntKind.wrap .i64 ((x1.1.size:Int)-x4))))then some (x6,4)else nX.a x1 (IntKind.wrap .i64 (x4+x7.2.2.2.1)) x5 (IntKind.wrap .i64 (x6+1)))))else(bif (decide (x7.2.1=2))then(bif (decide (x7.2.2.1<x5))then some (x6,4)else(bif (decide (x7.2.2.1>(x1.2.1.size:Int)))then some (x6,4)else(bif (decide (x7.2.2.2.1<1))then some (x6,4)else(bif (decide (x7.2.2.2.1>(IntKind.wrap .i64 ((x1.2.1.size:Int)-x7.2.2.1))))then some (x6,4)else(bif (!decide ((x7.2.2.1.tmod 8)=0))then some (x6,4)else(bif (!decide ((x7.2.2.2.1.tmod 8)=0))then some (x6,4)else(bif (!decide (x7.2.2.2.2=0))then some (x6,17)else nX.a x1 x4 (IntKind.wrap .i64 (x7.2.2.1+x7.2.2.2.1)) (IntKind.wrap .i64 (x6+1)))))))))else some (x6,26))):=
 (ak cfg 158 _ _ _).trans (by kernel_rfl)
noncomputable def JB (a0:D2):Option Int:=au cfg 161 [.agg [.str a0.1,.int .i64 a0.2.1,.int .i64 a0.2.2.1,.int .i64 a0.2.2.2.1,.int .i64 a0.2.2.2.2]]
theorem GA (a0:D2):JB a0=bif (decide (a0.2.1=1))then some (IntKind.wrap .i64 (4096+a0.2.2.1))else some (IntKind.wrap .i64 (16384+a0.2.2.1)):=
 (aa cfg 161 _).trans (by kernel_rfl)
noncomputable def C5 (a0:List D2):Option (List Int):=au cfg 159 [.v (.list Y4 a0)]
noncomputable def C5.a (x0:List D2) (x3:List Int) (x4:Int):Option (List Int):=LA 159 Tryz.f159 [1,1,0,1,0] ⟨27,af [vL 0 Y4 x0,(3,.v (.own 416)),vI 4 x4],ai [(416,.rows 3 (.int .i64) .no x3)]⟩
theorem JC (a0:List D2):C5 a0=C5.a a0 [] 0:=
 (aa cfg 159 _).trans (by kernel_rfl)
theorem C5.a_eq (x0:List D2) (x3:List Int) (x4:Int):C5.a x0 x3 x4=bif (decide (x4< (x0.length:Int)))then(bif (ao x4 (x0.length))then(bif (decide ((rd (τ:=Y4) x0 x4).2.1=1))then(bif (ao x4 (x0.length))then((JB (rd (τ:=Y4) x0 x4)).bind fun r1=>bif (ar ((x3.length)+([r1].length)) 8)then C5.a x0 (x3++[r1]) (IntKind.wrap .i64 (x4+1))else none)else none)else C5.a x0 x3 (IntKind.wrap .i64 (x4+1)))else none)else some x3:=
 (ak cfg 159 _ _ _).trans (by kernel_rfl)
noncomputable def nK (a0 a1 a2:Int):Option Bool:=au cfg 168 [.v (.int .i64 a0),.v (.int .i64 a1),.v (.int .i64 a2)]
theorem zh (a0 a1 a2:Int):nK a0 a1 a2=bif (decide (a0≥a1))then some (decide (a0≤a2))else some false:=
 (aa cfg 168 _).trans (by kernel_rfl)
noncomputable def PH (a0:Int):Option Bool:=au cfg 235 [.v (.int .i64 a0)]
theorem JD (a0:Int):PH a0=(nK a0 16 128).bind fun r1=>bif r1 then some (decide ((a0.tmod 16)=0))else some false:=
 (aa cfg 235 _).trans (by kernel_rfl)
noncomputable def Q8 (a0:ByteArray):Option Bool:=au cfg 236 [.v (.str a0)]
theorem JE (a0:ByteArray):Q8 a0=bif (decide (((a0.size:Int).tmod 4)=0))then some (decide ((a0.size:Int)≤256))else some false:=
 (aa cfg 236 _).trans (by kernel_rfl)
noncomputable def IT (a0:Int):Option OB:=au cfg 301 [.v (.int .i64 a0)]
theorem JF (a0:Int):IT a0=bif (decide (a0=1))then some (1,55,0,0)else(bif (decide (a0=2))then some (1,23,0,0)else(bif (decide (a0=3))then some (2,111,0,0)else(bif (decide (a0=4))then some (3,103,0,0)else(bif (decide (a0=5))then some (4,99,0,0)else(bif (decide (a0=6))then some (4,99,1,0)else(bif (decide (a0=7))then some (4,99,4,0)else(bif (decide (a0=8))then some (4,99,5,0)else(bif (decide (a0=9))then some (4,99,6,0)else(bif (decide (a0=10))then some (4,99,7,0)else(bif (decide (a0=11))then some (3,3,0,0)else(bif (decide (a0=12))then some (3,3,1,0)else(bif (decide (a0=13))then some (3,3,2,0)else(bif (decide (a0=14))then some (3,3,3,0)else(bif (decide (a0=15))then some (3,3,4,0)else(bif (decide (a0=16))then some (3,3,5,0)else(bif (decide (a0=17))then some (3,3,6,0)else(bif (decide (a0=18))then some (5,35,0,0)else(bif (decide (a0=19))then some (5,35,1,0)else(bif (decide (a0=20))then some (5,35,2,0)else(bif (decide (a0=21))then some (5,35,3,0)else(bif (decide (a0=22))then some (3,19,0,0)else(bif (decide (a0=23))then some (3,19,2,0)else(bif (decide (a0=24))then some (3,19,3,0)else(bif (decide (a0=25))then some (3,19,4,0)else(bif (decide (a0=26))then some (3,19,6,0)else(bif (decide (a0=27))then some (3,19,7,0)else(bif (decide (a0=28))then some (6,19,1,0)else(bif (decide (a0=29))then some (6,19,5,0)else(bif (decide (a0=30))then some (6,19,5,32)else(bif (decide (a0=31))then some (8,51,0,0)else(bif (decide (a0=32))then some (8,51,0,32)else(bif (decide (a0=33))then some (8,51,1,0)else(bif (decide (a0=34))then some (8,51,2,0)else(bif (decide (a0=35))then some (8,51,3,0)else(bif (decide (a0=36))then some (8,51,4,0)else(bif (decide (a0=37))then some (8,51,5,0)else(bif (decide (a0=38))then some (8,51,5,32)else(bif (decide (a0=39))then some (8,51,6,0)else(bif (decide (a0=40))then some (8,51,7,0)else(bif (decide (a0=41))then some (3,27,0,0)else(bif (decide (a0=42))then some (7,27,1,0)else(bif (decide (a0=43))then some (7,27,5,0)else(bif (decide (a0=44))then some (7,27,5,32)else(bif (decide (a0=45))then some (8,59,0,0)else(bif (decide (a0=46))then some (8,59,0,32)else(bif (decide (a0=47))then some (8,59,1,0)else(bif (decide (a0=48))then some (8,59,5,0)else(bif (decide (a0=49))then some (8,59,5,32)else(bif (decide (a0=50))then some (8,51,0,1)else(bif (decide (a0=51))then some (8,51,1,1)else(bif (decide (a0=52))then some (8,51,2,1)else(bif (decide (a0=53))then some (8,51,3,1)else(bif (decide (a0=54))then some (8,51,4,1)else(bif (decide (a0=55))then some (8,51,5,1)else(bif (decide (a0=56))then some (8,51,6,1)else(bif (decide (a0=57))then some (8,51,7,1)else(bif (decide (a0=58))then some (8,59,0,1)else(bif (decide (a0=59))then some (8,59,4,1)else(bif (decide (a0=60))then some (8,59,5,1)else(bif (decide (a0=61))then some (8,59,6,1)else(bif (decide (a0=62))then some (8,59,7,1)else(bif (decide (a0=63))then some (9,115,0,0)else(bif (decide (a0=64))then some (9,115,0,1)else some (0,0,0,0)))))))))))))))))))))))))))))))))))))))))))))))))))))))))))))))):=
 (aa cfg 301 _).trans (by kernel_rfl)
noncomputable def wV (a0 a1:Int):Option Int:=au cfg 324 [.v (.int .i64 a0),.v (.int .i64 a1)]
theorem JG (a0 a1:Int):wV a0 a1=bif (decide ((IntKind.wrap .u64 (a1))<0))then none else(bif (decide (((lH .u64 (IntKind.wrap .u64 (a0)) (IntKind.wrap .u64 (a1))).tmod 2)=1))then some 1 else some 0):=
 (aa cfg 324 _).trans (by kernel_rfl)
noncomputable def gb (a0 a1 a2 a3:Int):Option Int:=au cfg 323 [.v (.int .i64 a0),.v (.int .i64 a1),.v (.int .i64 a2),.v (.int .i64 a3)]
noncomputable def gb.a (x0 x1 x2 x3 x9 x10:Int):Option Int:=LA 323 Tryz.f323 [1,1,0,1,0] ⟨39,af [vI 0 x0,vI 1 x1,vI 2 x2,vI 3 x3,vI 9 x9,vI 10 x10],ai []⟩
theorem JH (a0 a1 a2 a3:Int):gb a0 a1 a2 a3=gb.a a0 a1 a2 a3 0 31:=
 (aa cfg 323 _).trans (by kernel_rfl)
theorem gb.a_eq (x0 x1 x2 x3 x9 x10:Int):gb.a x0 x1 x2 x3 x9 x10=bif (decide (x10≥0))then((wV x0 x10).bind fun r1=>bif (decide (x10≥x1))then(bif (decide (x10< (IntKind.wrap .i64 (x1+x2))))then((wV x3 (IntKind.wrap .i64 (x10-x1))).bind fun r6=>gb.a x0 x1 x2 x3 (IntKind.wrap .i64 ((IntKind.wrap .i64 (2*x9))+r6)) (IntKind.wrap .i64 (x10-1)))else gb.a x0 x1 x2 x3 (IntKind.wrap .i64 ((IntKind.wrap .i64 (2*x9))+r1)) (IntKind.wrap .i64 (x10-1)))else gb.a x0 x1 x2 x3 (IntKind.wrap .i64 ((IntKind.wrap .i64 (2*x9))+r1)) (IntKind.wrap .i64 (x10-1)))else some x9:=
 (ak cfg 323 _ _ _).trans (by kernel_rfl)
noncomputable def gX (a0:cz):Option Int:=au cfg 252 [.agg [.int .i64 a0.1,.int .i64 a0.2.1,.int .i64 a0.2.2.1,.int .i64 a0.2.2.2.1,.int .i64 a0.2.2.2.2]]
noncomputable def gX.a (x1:cz) (x4 x5:Int):Option Int:=LA 252 Tryz.f252 [1,1,1,0,1,0,1,1,1,0,1,1,0] ⟨184,af [vP 1 191,vI 4 x4,vI 5 x5],ai [(191,.box [.int .i64 x1.1,.int .i64 x1.2.1,.int .i64 x1.2.2.1,.int .i64 x1.2.2.2.1,.int .i64 x1.2.2.2.2])]⟩
noncomputable def gX.b (x1:cz) (x4 x7:Int):Option Int:=LA 252 Tryz.f252 [1,1,1,0,1,0,1,1,1,1,1,1,1,0,1,1,1,1,0] ⟨184,af [vP 1 191,vI 4 x4,vI 7 x7],ai [(191,.box [.int .i64 x1.1,.int .i64 x1.2.1,.int .i64 x1.2.2.1,.int .i64 x1.2.2.2.1,.int .i64 x1.2.2.2.2])]⟩
noncomputable def gX.c (x1:cz) (x4 x9:Int):Option Int:=LA 252 Tryz.f252 [1,1,1,0,1,0,1,1,1,1,1,1,1,1,1,0,1,1,1,1,1,0] ⟨184,af [vP 1 191,vI 4 x4,vI 9 x9],ai [(191,.box [.int .i64 x1.1,.int .i64 x1.2.1,.int .i64 x1.2.2.1,.int .i64 x1.2.2.2.1,.int .i64 x1.2.2.2.2])]⟩
theorem JI (a0:cz):gX a0=(IT a0.1).bind fun r1=>bif (decide (r1.1=1))then((gb r1.2.1 7 5 a0.2.1).bind fun r2=>(gb r2 12 20 (IntKind.wrap .i64 (a0.2.2.2.2.tdiv 4096))).bind fun r3=>some r3)else(bif (decide (r1.1=2))then((gb r1.2.1 7 5 a0.2.1).bind fun r4=>gX.a a0 r4 1)else(bif (decide (r1.1=3))then((gb r1.2.1 7 5 a0.2.1).bind fun r5=>(gb r5 12 3 r1.2.2.1).bind fun r6=>(gb r6 15 5 a0.2.2.1).bind fun r7=>(gb r7 20 12 a0.2.2.2.2).bind fun r8=>some r8)else(bif (decide (r1.1=4))then((gb r1.2.1 12 3 r1.2.2.1).bind fun r9=>(gb r9 15 5 a0.2.2.1).bind fun r10=>(gb r10 20 5 a0.2.2.2.1).bind fun r11=>gX.b a0 r11 1)else(bif (decide (r1.1=5))then((gb r1.2.1 7 5 a0.2.2.2.2).bind fun r12=>(gb r12 12 3 r1.2.2.1).bind fun r13=>(gb r13 15 5 a0.2.2.1).bind fun r14=>(gb r14 20 5 a0.2.2.2.1).bind fun r15=>gX.c a0 r15 5)else(av (fun kr30=>bif (decide (r1.1=6))then kr30 (decide (r1.1=6))else(bif (decide (r1.1=7))then kr30 (decide (r1.1=7))else kr30 (decide (r1.1=8)))) fun(r17:Bool)=>bif r17 then((gb r1.2.1 7 5 a0.2.1).bind fun r18=>(gb r18 12 3 r1.2.2.1).bind fun r19=>(gb r19 15 5 a0.2.2.1).bind fun r20=>(gb r20 25 7 r1.2.2.2).bind fun r21=>bif (decide (r1.1=6))then((gb r21 20 6 a0.2.2.2.2).bind fun r22=>some r22)else(bif (decide (r1.1=7))then((gb r21 20 5 a0.2.2.2.2).bind fun r23=>some r23)else((gb r21 20 5 a0.2.2.2.1).bind fun r24=>some r24)))else(bif (decide (r1.1=9))then((gb r1.2.1 20 12 r1.2.2.2).bind fun r27=>some r27)else some r1.2.1)))))):=
 (aa cfg 252 _).trans (by kernel_rfl)
theorem gX.a_eq (x1:cz) (x4 x5:Int):gX.a x1 x4 x5=bif (decide (x5<21))then(av (fun kr47=>bif (decide (x5>10))then kr47 (IntKind.wrap .i64 (9+x5))else kr47 (IntKind.wrap .i64 (20+x5))) fun(r37:Int)=>av (fun kr46=>bif (decide (x5>11))then kr46 x5 else kr46 r37) fun(r38:Int)=>bif (decide (x5=20))then((wV x1.2.2.2.2 x5).bind fun r42=>(gb x4 31 1 r42).bind fun r43=>gX.a x1 r43 (IntKind.wrap .i64 (x5+1)))else((wV x1.2.2.2.2 x5).bind fun r44=>(gb x4 r38 1 r44).bind fun r45=>gX.a x1 r45 (IntKind.wrap .i64 (x5+1))))else some x4:=
 (ak cfg 252 _ _ _).trans (by kernel_rfl)
theorem gX.b_eq (x1:cz) (x4 x7:Int):gX.b x1 x4 x7=bif (decide (x7<13))then(av (fun kr61=>bif (decide (x7>4))then kr61 (IntKind.wrap .i64 (20+x7))else kr61 (IntKind.wrap .i64 (7+x7))) fun(r51:Int)=>av (fun kr60=>bif (decide (x7=11))then kr60 7 else kr60 r51) fun(r52:Int)=>bif (decide (x7=12))then((wV x1.2.2.2.2 x7).bind fun r56=>(gb x4 31 1 r56).bind fun r57=>gX.b x1 r57 (IntKind.wrap .i64 (x7+1)))else((wV x1.2.2.2.2 x7).bind fun r58=>(gb x4 r52 1 r58).bind fun r59=>gX.b x1 r59 (IntKind.wrap .i64 (x7+1))))else some x4:=
 (ak cfg 252 _ _ _).trans (by kernel_rfl)
theorem gX.c_eq (x1:cz) (x4 x9:Int):gX.c x1 x4 x9=bif (decide (x9<12))then((wV x1.2.2.2.2 x9).bind fun r65=>(gb x4 (IntKind.wrap .i64 (20+x9)) 1 r65).bind fun r66=>gX.c x1 r66 (IntKind.wrap .i64 (x9+1)))else some x4:=
 (ak cfg 252 _ _ _).trans (by kernel_rfl)
noncomputable def qM (a0 a1 a2:Int):Option Int:=au cfg 350 [.v (.int .i64 a0),.v (.int .i64 a1),.v (.int .i64 a2)]
noncomputable def qM.a (x0 x1 x7 x8:Int):Option Int:=LA 350 Tryz.f350 [1,1,0,1,0] ⟨24,af [vI 0 x0,vI 1 x1,vI 7 x7,vI 8 x8],ai []⟩
theorem JJ (a0 a1 a2:Int):qM a0 a1 a2=qM.a a0 a1 0 (IntKind.wrap .i64 (a2-1)):=
 (aa cfg 350 _).trans (by kernel_rfl)
theorem qM.a_eq (x0 x1 x7 x8:Int):qM.a x0 x1 x7 x8=bif (decide (x8≥0))then((wV x0 (IntKind.wrap .i64 (x1+x8))).bind fun r1=>qM.a x0 x1 (IntKind.wrap .i64 ((IntKind.wrap .i64 (2*x7))+r1)) (IntKind.wrap .i64 (x8-1)))else some x7:=
 (ak cfg 350 _ _ _).trans (by kernel_rfl)
noncomputable def wW (a0 a1:Int):Option Int:=au cfg 351 [.v (.int .i64 a0),.v (.int .i64 a1)]
noncomputable def wW.a (x0 x1 x5 x6:Int):Option Int:=LA 351 Tryz.f351 [1,1,0,1,0] ⟨23,af [vI 0 x0,vI 1 x1,(5,.v (.int .u64 x5)),vI 6 x6],ai []⟩
theorem JK (a0 a1:Int):wW a0 a1=wW.a a0 a1 0 63:=
 (aa cfg 351 _).trans (by kernel_rfl)
theorem wW.a_eq (x0 x1 x5 x6:Int):wW.a x0 x1 x5 x6=bif (decide (x6≥0))then((wV x0 (if(IntKind.wrap .i64 (x1-1))<x6 then(IntKind.wrap .i64 (x1-1))else x6)).bind fun r1=>wW.a x0 x1 (IntKind.wrap .u64 ((IntKind.wrap .u64 (2*x5))+(IntKind.wrap .u64 (r1)))) (IntKind.wrap .i64 (x6-1)))else some (IntKind.wrap .i64 (x5)):=
 (ak cfg 351 _ _ _).trans (by kernel_rfl)
noncomputable def Q9 (a0 a1:Int):Option cz:=au cfg 302 [.v (.int .i64 a0),.v (.int .i64 a1)]
theorem JL (a0 a1:Int):Q9 a0 a1=(qM a1 7 5).bind fun r1=>(qM a1 15 5).bind fun r2=>(qM a1 20 5).bind fun r3=>(IT a0).bind fun r4=>bif (decide (r4.1=1))then((qM a1 12 20).bind fun r5=>(wW r5 20).bind fun r6=>some (a0,r1,0,0,(IntKind.wrap .i64 (r6*4096))))else(bif (decide (r4.1=2))then((qM a1 21 10).bind fun r7=>(wV a1 20).bind fun r8=>(qM a1 12 8).bind fun r9=>(wV a1 31).bind fun r10=>(wW (IntKind.wrap .i64 ((IntKind.wrap .i64 ((IntKind.wrap .i64 ((IntKind.wrap .i64 (r7*2))+(IntKind.wrap .i64 (r8*2048))))+(IntKind.wrap .i64 (r9*4096))))+(IntKind.wrap .i64 (r10*1048576)))) 21).bind fun r11=>some (a0,r1,0,0,r11))else(bif (decide (r4.1=3))then((qM a1 20 12).bind fun r12=>(wW r12 12).bind fun r13=>some (a0,r1,r2,0,r13))else(bif (decide (r4.1=4))then((qM a1 8 4).bind fun r14=>(qM a1 25 6).bind fun r15=>(wV a1 7).bind fun r16=>(wV a1 31).bind fun r17=>(wW (IntKind.wrap .i64 ((IntKind.wrap .i64 ((IntKind.wrap .i64 ((IntKind.wrap .i64 (r14*2))+(IntKind.wrap .i64 (r15*32))))+(IntKind.wrap .i64 (r16*2048))))+(IntKind.wrap .i64 (r17*4096)))) 13).bind fun r18=>some (a0,0,r2,r3,r18))else(bif (decide (r4.1=5))then((qM a1 25 7).bind fun r19=>(wW (IntKind.wrap .i64 (r1+(IntKind.wrap .i64 (r19*32)))) 12).bind fun r20=>some (a0,0,r2,r3,r20))else(bif (decide (r4.1=6))then((qM a1 20 6).bind fun r21=>some (a0,r1,r2,0,r21))else(bif (decide (r4.1=7))then some (a0,r1,r2,0,r3)else(bif (decide (r4.1=8))then some (a0,r1,r2,r3,0)else some (a0,0,0,0,0)))))))):=
 (aa cfg 302 _).trans (by kernel_rfl)
noncomputable def Ra (a0:Int):Option Bool:=au cfg 352 [.v (.int .i64 a0)]
theorem JM (a0:Int):Ra a0=(nK a0 1 64).bind fun r1=>some r1:=
 (aa cfg 352 _).trans (by kernel_rfl)
noncomputable def PI (a0:Int):Option Bool:=au cfg 353 [.v (.int .i64 a0)]
theorem JN (a0:Int):PI a0=(nK a0 0 31).bind fun r1=>some r1:=
 (aa cfg 353 _).trans (by kernel_rfl)
noncomputable def PZ (a0:cz):Option Bool:=au cfg 303 [.agg [.int .i64 a0.1,.int .i64 a0.2.1,.int .i64 a0.2.2.1,.int .i64 a0.2.2.2.1,.int .i64 a0.2.2.2.2]]
theorem JO (a0:cz):PZ a0=av (fun kr47=>(Ra a0.1).bind fun r1=>bif (!r1)then kr47 true else((PI a0.2.1).bind fun r2=>bif (!r2)then kr47 true else((PI a0.2.2.1).bind fun r3=>bif (!r3)then kr47 true else((PI a0.2.2.2.1).bind fun r4=>kr47 (!r4))))) fun(r10:Bool)=>bif r10 then some false else((IT a0.1).bind fun r11=>av (fun kr46=>bif (decide (r11.1=4))then kr46 (!decide (a0.2.1=0))else(bif (decide (r11.1=5))then kr46 (!decide (a0.2.1=0))else(bif (decide (r11.1=9))then kr46 (!decide (a0.2.1=0))else kr46 false))) fun(r17:Bool)=>bif r17 then some false else(av (fun kr45=>bif (decide (r11.1=1))then kr45 (!decide (a0.2.2.1=0))else(bif (decide (r11.1=2))then kr45 (!decide (a0.2.2.1=0))else(bif (decide (r11.1=9))then kr45 (!decide (a0.2.2.1=0))else kr45 false))) fun(r23:Bool)=>bif r23 then some false else(av (fun kr44=>bif (!decide (r11.1=4))then(bif (!decide (r11.1=5))then(bif (!decide (r11.1=8))then kr44 (!decide (a0.2.2.2.1=0))else kr44 false)else kr44 false)else kr44 false) fun(r29:Bool)=>bif r29 then some false else(bif (decide (r11.1=1))then((nK a0.2.2.2.2 (-2147483648) 2147479552).bind fun r30=>bif r30 then some (decide ((a0.2.2.2.2.tmod 4096)=0))else some false)else(bif (decide (r11.1=2))then((nK a0.2.2.2.2 (-1048576) 1048574).bind fun r33=>bif r33 then some (decide ((a0.2.2.2.2.tmod 2)=0))else some false)else(av (fun kr43=>bif (decide (r11.1=3))then kr43 (decide (r11.1=3))else kr43 (decide (r11.1=5))) fun(r36:Bool)=>bif r36 then((nK a0.2.2.2.2 (-2048) 2047).bind fun r37=>some r37)else(bif (decide (r11.1=4))then((nK a0.2.2.2.2 (-4096) 4094).bind fun r38=>bif r38 then some (decide ((a0.2.2.2.2.tmod 2)=0))else some false)else(bif (decide (r11.1=6))then((nK a0.2.2.2.2 0 63).bind fun r41=>some r41)else(bif (decide (r11.1=7))then((nK a0.2.2.2.2 0 31).bind fun r42=>some r42)else some (decide (a0.2.2.2.2=0))))))))))):=
 (aa cfg 303 _).trans (by kernel_rfl)
noncomputable def wX (a0:Int):Option (cz×Bool):=au cfg 224 [.v (.int .i64 a0)]
noncomputable def wX.a (x0:Int) (x2:cz) (x4:Int):Option (cz×Bool):=LA 224 Tryz.f224 [1,0,1,0] ⟨44,af [vI 0 x0,vP 2 319,vI 4 x4],ai [(319,.box [.int .i64 x2.1,.int .i64 x2.2.1,.int .i64 x2.2.2.1,.int .i64 x2.2.2.2.1,.int .i64 x2.2.2.2.2])]⟩
theorem JP (a0:Int):wX a0=wX.a a0 (0,0,0,0,0) 1:=
 (aa cfg 224 _).trans (by kernel_rfl)
theorem wX.a_eq (x0:Int) (x2:cz) (x4:Int):wX.a x0 x2 x4=bif (decide (x4≤64))then((IT x4).bind fun r1=>av (fun kr10=>bif (!decide (r1.2.1=(x0.tmod 128)))then kr10 true else((nK r1.1 3 8).bind fun r2=>bif r2 then kr10 (!decide (r1.2.2.1=((IntKind.wrap .i64 (x0.tdiv 4096)).tmod 8)))else kr10 false)) fun(r4:Bool)=>bif r4 then wX.a x0 x2 (IntKind.wrap .i64 (x4+1))else((Q9 x4 x0).bind fun r5=>(PZ r5).bind fun r6=>bif r6 then((gX r5).bind fun r7=>bif (decide (r7=x0))then some (r5,true)else wX.a x0 x2 (IntKind.wrap .i64 (x4+1)))else wX.a x0 x2 (IntKind.wrap .i64 (x4+1))))else some ((0,0,0,0,0),false):=
 (ak cfg 224 _ _ _).trans (by kernel_rfl)
noncomputable def wY (a0:ByteArray) (a1 a2:Int):Option Int:=au cfg 250 [.v (.str a0),.v (.int .i64 a1),.v (.int .i64 a2)]
noncomputable def wY.a (x0:ByteArray) (x1 x7 x8:Int):Option Int:=LA 250 Tryz.f250 [1,1,0,1,0] ⟨26,af [(0,.v (.str x0)),vI 1 x1,(7,.v (.int .u64 x7)),vI 8 x8],ai []⟩
theorem JQ (a0:ByteArray) (a1 a2:Int):wY a0 a1 a2=wY.a a0 a1 0 (IntKind.wrap .i64 (a2-1)):=
 (aa cfg 250 _).trans (by kernel_rfl)
theorem wY.a_eq (x0:ByteArray) (x1 x7 x8:Int):wY.a x0 x1 x7 x8=bif (decide (x8≥0))then(bif (ao (IntKind.wrap .i64 (x1+x8)) x0.size)then wY.a x0 x1 (IntKind.wrap .u64 ((IntKind.wrap .u64 (256*x7))+(IntKind.wrap .u64 ((bt x0 (IntKind.wrap .i64 (x1+x8))))))) (IntKind.wrap .i64 (x8-1))else none)else some (IntKind.wrap .i64 (x7)):=
 (ak cfg 250 _ _ _).trans (by kernel_rfl)
noncomputable def CO (a0:ByteArray):Option (List cz×Int):=au cfg 237 [.v (.str a0)]
noncomputable def CO.a (x0:ByteArray) (x4:List cz) (x5:Int):Option (List cz×Int):=LA 237 Tryz.f237 [1,1,0,1,0] ⟨33,af [(0,.v (.str x0)),(4,.v (.own 544)),vI 5 x5],ai [(544,.rows 238 ba .no x4)]⟩
theorem GB (a0:ByteArray):CO a0=CO.a a0 [] 0:=
 (aa cfg 237 _).trans (by kernel_rfl)
theorem CO.a_eq (x0:ByteArray) (x4:List cz) (x5:Int):CO.a x0 x4 x5=bif (decide ((IntKind.wrap .i64 (4*x5))< (x0.size:Int)))then((wY x0 (IntKind.wrap .i64 (4*x5)) 4).bind fun r1=>(wX r1).bind fun r2=>bif (!r2.2)then some ([],x5)else(bif (ar ((x4.length)+([r2.1].length)) 40)then CO.a x0 (x4++[r2.1]) (IntKind.wrap .i64 (x5+1))else none))else some (x4,(-1)):=
 (ak cfg 237 _ _ _).trans (by kernel_rfl)
noncomputable def Sa (a0:Int):Option (List cz):=au cfg 238 [.v (.int .i64 a0)]
theorem JR (a0:Int):Sa a0=some [(22,2,2,0,(IntKind.wrap .i64 (0-a0))),(21,0,2,1,(IntKind.wrap .i64 (a0-8)))]:=
 (aa cfg 238 _).trans (by kernel_rfl)
noncomputable def Rb (a0:Int):Option (Int×Bool):=au cfg 313 [.v (.int .i64 a0)]
theorem JS (a0:Int):Rb a0=bif (decide (a0=11))then some (1,true)else(av (fun kr6=>bif (decide (a0=15))then kr6 (decide (a0=15))else kr6 (decide (a0=18))) fun(r1:Bool)=>bif r1 then some (1,false)else(bif (decide (a0=12))then some (2,true)else(av (fun kr5=>bif (decide (a0=16))then kr5 (decide (a0=16))else kr5 (decide (a0=19))) fun(r2:Bool)=>bif r2 then some (2,false)else(bif (decide (a0=13))then some (4,true)else(av (fun kr4=>bif (decide (a0=17))then kr4 (decide (a0=17))else kr4 (decide (a0=20))) fun(r3:Bool)=>bif r3 then some (4,false)else(bif (decide (a0=14))then some (8,true)else(bif (decide (a0=21))then some (8,false)else some (0,false)))))))):=
 (aa cfg 313 _).trans (by kernel_rfl)
noncomputable def Rc (a0:Int):Option (List cz):=au cfg 356 [.v (.int .i64 a0)]
theorem JT (a0:Int):Rc a0=some [(14,1,2,0,(IntKind.wrap .i64 (a0-8))),(22,2,2,0,a0),(4,0,1,0,0)]:=
 (aa cfg 356 _).trans (by kernel_rfl)
noncomputable def Iv (a0:List cz) (a1 a2:Int):Option Bool:=au cfg 314 [.v (.list ba a0),.v (.int .i64 a1),.v (.int .i64 a2)]
theorem JU (a0:List cz) (a1 a2:Int):Iv a0 a1 a2=(Rc a2).bind fun r1=>bif (decide (a1≥2))then(bif (decide ((IntKind.wrap .i64 (a1+2))< (a0.length:Int)))then(bif (ao a1 (a0.length))then(bif (ao 0 (r1.length))then(bif (ka ba (rd (τ:=ba) a0 a1) (rd (τ:=ba) r1 0))then(bif (ao (IntKind.wrap .i64 (a1+1)) (a0.length))then(bif (ao 1 (r1.length))then(bif (ka ba (rd (τ:=ba) a0 (IntKind.wrap .i64 (a1+1))) (rd (τ:=ba) r1 1))then(bif (ao (IntKind.wrap .i64 (a1+2)) (a0.length))then(bif (ao 2 (r1.length))then some (ka ba (rd (τ:=ba) a0 (IntKind.wrap .i64 (a1+2))) (rd (τ:=ba) r1 2))else none)else none)else some false)else none)else none)else some false)else none)else none)else some false)else some false:=
 (aa cfg 314 _).trans (by kernel_rfl)
noncomputable def GC (a0:List Int) (a1:Int):Option Bool:=au cfg 315 [.v (.list (.int .i64) a0),.v (.int .i64 a1)]
noncomputable def GC.a (x0:List Int) (x1 x5:Int):Option Bool:=LA 315 Tryz.f315 [1,0,1,0] ⟨18,af [vL 0 (.int .i64) x0,vI 1 x1,vI 5 x5],ai []⟩
theorem JV (a0:List Int) (a1:Int):GC a0 a1=GC.a a0 a1 0:=
 (aa cfg 315 _).trans (by kernel_rfl)
theorem GC.a_eq (x0:List Int) (x1 x5:Int):GC.a x0 x1 x5=bif (decide (x5< (x0.length:Int)))then(bif (ao x5 (x0.length))then(bif (decide ((rd (τ:=(.int .i64)) x0 x5)=x1))then some true else GC.a x0 x1 (IntKind.wrap .i64 (x5+1)))else none)else some false:=
 (ak cfg 315 _ _ _).trans (by kernel_rfl)
noncomputable def P0 (a0:List cz) (a1 a2 a3:Int):Option Bool:=au cfg 316 [.v (.list ba a0),.v (.int .i64 a1),.v (.int .i64 a2),.v (.int .i64 a3)]
theorem JW (a0:List cz) (a1 a2 a3:Int):P0 a0 a1 a2 a3=bif (decide ((a2.tmod 4)=0))then(bif (decide ((IntKind.wrap .i64 (a1+(IntKind.wrap .i64 (a2.tdiv 4))))≥2))then(bif (decide ((IntKind.wrap .i64 (a1+(IntKind.wrap .i64 (a2.tdiv 4))))< (a0.length:Int)))then((Iv a0 (IntKind.wrap .i64 ((IntKind.wrap .i64 (a1+(IntKind.wrap .i64 (a2.tdiv 4))))-1)) a3).bind fun r1=>bif (!r1)then((Iv a0 (IntKind.wrap .i64 ((IntKind.wrap .i64 (a1+(IntKind.wrap .i64 (a2.tdiv 4))))-2)) a3).bind fun r2=>some (!r2))else some false)else some false)else some false)else some false:=
 (aa cfg 316 _).trans (by kernel_rfl)
noncomputable def Rd (a0:List cz) (a1 a2 a3:Int) (a4:List Int):Option Int:=au cfg 239 [.v (.list ba a0),.v (.int .i64 a1),.v (.int .i64 a2),.v (.int .i64 a3),.v (.list (.int .i64) a4)]
theorem JX (a0:List cz) (a1 a2 a3:Int) (a4:List Int):Rd a0 a1 a2 a3 a4=bif (ao a1 (a0.length))then((Rb ((rd (τ:=ba) a0 a1).1)).bind fun r1=>bif (decide ((rd (τ:=ba) a0 a1).1=4))then((Iv a0 (IntKind.wrap .i64 (a1-2)) a3).bind fun r2=>bif (!r2)then some 18 else some 0)else(av (fun kr11=>bif (decide ((rd (τ:=ba) a0 a1).1=3))then kr11 (decide ((rd (τ:=ba) a0 a1).2.1=1))else kr11 false) fun(r3:Bool)=>bif r3 then((GC a4 (IntKind.wrap .i64 ((IntKind.wrap .i64 (a2+(IntKind.wrap .i64 (4*a1))))+(rd (τ:=ba) a0 a1).2.2.2.2))).bind fun r5=>bif (!r5)then some 20 else some 0)else(bif (decide ((rd (τ:=ba) a0 a1).1=3))then(bif (!decide ((rd (τ:=ba) a0 a1).2.1=0))then some 19 else((P0 a0 a1 ((rd (τ:=ba) a0 a1).2.2.2.2) a3).bind fun r6=>bif (!r6)then some 19 else some 0))else((IT ((rd (τ:=ba) a0 a1).1)).bind fun r9=>bif (decide (r9.1=4))then((P0 a0 a1 ((rd (τ:=ba) a0 a1).2.2.2.2) a3).bind fun r10=>bif (!r10)then some 19 else some 0)else(av (fun kr26=>bif (decide ((rd (τ:=ba) a0 a1).2.1=1))then((Iv a0 a1 a3).bind fun r12=>bif (!r12)then kr26 true else(bif (decide ((rd (τ:=ba) a0 a1).2.1=2))then((Iv a0 (IntKind.wrap .i64 (a1-1)) a3).bind fun r13=>kr26 (!r13))else kr26 false))else(bif (decide ((rd (τ:=ba) a0 a1).2.1=2))then((Iv a0 (IntKind.wrap .i64 (a1-1)) a3).bind fun r14=>kr26 (!r14))else kr26 false)) fun(r18:Bool)=>bif r18 then some 21 else(bif (decide (r1.1>0))then(bif (decide ((rd (τ:=ba) a0 a1).2.2.1=2))then((Iv a0 a1 a3).bind fun r19=>bif (!r19)then(bif (decide ((rd (τ:=ba) a0 a1).2.2.2.2<0))then some 17 else(bif (decide ((rd (τ:=ba) a0 a1).2.2.2.2>(IntKind.wrap .i64 ((IntKind.wrap .i64 (a3-8))-r1.1))))then some 17 else(bif (decide (r1.1=0))then none else(bif (!decide ((((rd (τ:=ba) a0 a1).2.2.2.2).tmod r1.1)=0))then some 17 else some 0))))else some 0)else some 0)else some 0))))))else none:=
 (aa cfg 239 _).trans (by kernel_rfl)
noncomputable def qN (a0:ByteArray) (a1 a2:Int) (a3:List Int):Option (Int×Int):=au cfg 160 [.v (.str a0),.v (.int .i64 a1),.v (.int .i64 a2),.v (.list (.int .i64) a3)]
noncomputable def qN.a (x1 x2:Int) (x3:List Int) (x10:List cz) (x12:Int):Option (Int×Int):=LA 160 Tryz.f160 [1,1,1,1,1,1,0,1,0] ⟨100,af [vI 1 x1,vI 2 x2,vL 3 (.int .i64) x3,(10,.v (.own 1312)),vI 12 x12],ai [(1312,.rows 238 ba .no x10)]⟩
noncomputable def qN.b (x1 x2:Int) (x3:List Int) (x10:List cz) (x13 x14:Int):Option (Int×Int):=LA 160 Tryz.f160 [1,1,1,1,1,1,1,1,1,0,1,0] ⟨100,af [vI 1 x1,vI 2 x2,vL 3 (.int .i64) x3,(10,.v (.own 1312)),vI 13 x13,vI 14 x14],ai [(1312,.rows 238 ba .no x10)]⟩
theorem JY (a0:ByteArray) (a1 a2:Int) (a3:List Int):qN a0 a1 a2 a3=av (fun kr10=>(nK a1 0 1048575).bind fun r1=>bif (!r1)then kr10 true else kr10 (!decide ((a1.tmod 4)=0))) fun(r3:Bool)=>bif r3 then some (0,4)else((PH a2).bind fun r4=>bif (!r4)then some (0,17)else(av (fun kr9=>(Q8 a0).bind fun r5=>bif (!r5)then kr9 true else kr9 (decide ((a0.size:Int)<20))) fun(r7:Bool)=>bif r7 then some (0,8)else((CO a0).bind fun r8=>bif (decide (r8.2≥0))then some (r8.2,10)else qN.a a1 a2 a3 r8.1 0))):=
 (aa cfg 160 _).trans (by kernel_rfl)
theorem qN.a_eq (x1 x2:Int) (x3:List Int) (x10:List cz) (x12:Int):qN.a x1 x2 x3 x10 x12=bif (decide (x12<2))then(bif (ao x12 (x10.length))then((Sa x2).bind fun r15=>bif (ao x12 (r15.length))then(bif (!(ka ba (rd (τ:=ba) x10 x12) (rd (τ:=ba) r15 x12)))then some (x12,17)else qN.a x1 x2 x3 x10 (IntKind.wrap .i64 (x12+1)))else none)else none)else(av (fun kr14=>bif (ao (IntKind.wrap .i64 ((x10.length:Int)-1)) (x10.length))then(bif (decide ((rd (τ:=ba) x10 (IntKind.wrap .i64 ((x10.length:Int)-1))).1=4))then kr14 false else(bif (ao (IntKind.wrap .i64 ((x10.length:Int)-1)) (x10.length))then(bif (decide ((rd (τ:=ba) x10 (IntKind.wrap .i64 ((x10.length:Int)-1))).1=3))then(bif (ao (IntKind.wrap .i64 ((x10.length:Int)-1)) (x10.length))then kr14 (!(decide ((rd (τ:=ba) x10 (IntKind.wrap .i64 ((x10.length:Int)-1))).2.1=0)))else none)else kr14 true)else none))else none) fun(r13:Bool)=>bif r13 then some ((IntKind.wrap .i64 ((x10.length:Int)-1)),22)else qN.b x1 x2 x3 x10 (IntKind.wrap .i64 ((x10.length:Int)-1)) 2):=
 (ak cfg 160 _ _ _).trans (by kernel_rfl)
theorem qN.b_eq (x1 x2:Int) (x3:List Int) (x10:List cz) (x13 x14:Int):qN.b x1 x2 x3 x10 x13 x14=bif (decide (x14≤x13))then((Rd x10 x14 x1 x2 x3).bind fun r16=>bif (!decide (r16=0))then some (x14,r16)else qN.b x1 x2 x3 x10 x13 (IntKind.wrap .i64 (x14+1)))else some (0,0):=
 (ak cfg 160 _ _ _).trans (by kernel_rfl)
noncomputable def C6 (a0:D3):Option (Int×Int×Int):=au cfg 96 [.agg [.str a0.1,.str a0.2.1,.list Y4 a0.2.2]]
noncomputable def C6.a (x1:D3) (x7:List Int) (x8:Int):Option (Int×Int×Int):=LA 96 Tryz.f96 [1,1,1,1,1,0,1,0] ⟨77,af [vP 1 191,(7,.v (.own 928)),vI 8 x8],ai [(191,.box [.str x1.1,.str x1.2.1,.list Y4 x1.2.2]),(928,.rows 3 (.int .i64) .no x7)]⟩
theorem JZ (a0:D3):C6 a0=bif (decide ((a0.2.2.length:Int)>16))then some (0,0,6)else(av (fun kr5=>bif (decide ((a0.1.size:Int)>1024))then kr5 true else kr5 (decide ((a0.2.1.size:Int)>256))) fun(r2:Bool)=>bif r2 then some (0,0,8)else((nX a0).bind fun r3=>bif (!decide (r3.2=0))then some (r3.1,0,r3.2)else((C5 a0.2.2).bind fun r4=>C6.a a0 r4 0))):=
 (aa cfg 96 _).trans (by kernel_rfl)
theorem C6.a_eq (x1:D3) (x7:List Int) (x8:Int):C6.a x1 x7 x8=bif (decide (x8< (x1.2.2.length:Int)))then(bif (ao x8 (x1.2.2.length))then(bif (!decide ((rd (τ:=Y4) x1.2.2 x8).2.1=1))then C6.a x1 x7 (IntKind.wrap .i64 (x8+1))else(bif (decide (0≤(rd (τ:=Y4) x1.2.2 x8).2.2.1)&&decide ((rd (τ:=Y4) x1.2.2 x8).2.2.1≤(IntKind.wrap .i64 ((rd (τ:=Y4) x1.2.2 x8).2.2.1+(rd (τ:=Y4) x1.2.2 x8).2.2.2.1)))&&decide ((IntKind.wrap .i64 ((rd (τ:=Y4) x1.2.2 x8).2.2.1+(rd (τ:=Y4) x1.2.2 x8).2.2.2.1))≤(x1.1.size:Int)))then((JB (rd (τ:=Y4) x1.2.2 x8)).bind fun r6=>(qN (x1.1.extract (Int.toNat ((rd (τ:=Y4) x1.2.2 x8).2.2.1)) (Int.toNat (IntKind.wrap .i64 ((rd (τ:=Y4) x1.2.2 x8).2.2.1+(rd (τ:=Y4) x1.2.2 x8).2.2.2.1)))) r6 ((rd (τ:=Y4) x1.2.2 x8).2.2.2.2) x7).bind fun r7=>bif (!decide (r7.2=0))then some (x8,r7)else C6.a x1 x7 (IntKind.wrap .i64 (x8+1)))else none))else none)else some (0,0,0):=
 (ak cfg 96 _ _ _).trans (by kernel_rfl)
noncomputable def Re (a0:D3):Option Bool:=au cfg 49 [.agg [.str a0.1,.str a0.2.1,.list Y4 a0.2.2]]
theorem J0 (a0:D3):Re a0=(C6 a0).bind fun r1=>some (decide (r1.2.2=0)):=
 (aa cfg 49 _).trans (by kernel_rfl)
noncomputable def Rf (a0:Int):Option Bool:=au cfg 162 [.v (.int .i64 a0)]
theorem J1 (a0:Int):Rf a0=(nK a0 0 1048575).bind fun r1=>bif r1 then some (decide ((a0.tmod 128)=0))else some false:=
 (aa cfg 162 _).trans (by kernel_rfl)
noncomputable def Rg (a0:Int):Option Bool:=au cfg 163 [.v (.int .i64 a0)]
theorem J2 (a0:Int):Rg a0=(nK a0 0 15).bind fun r1=>some r1:=
 (aa cfg 163 _).trans (by kernel_rfl)
noncomputable def C7 (a0:List D1):Option Bool:=au cfg 97 [.agg [.list Y0 a0]]
noncomputable def C7.a (x1:List D1) (x3:Int):Option Bool:=LA 97 Tryz.f97 [1,1,0,1,0] ⟨53,af [vP 1 191,vI 3 x3],ai [(191,.box [.list Y0 x1])]⟩
theorem J3 (a0:List D1):C7 a0=bif (decide ((a0.length:Int)>64))then some false else C7.a a0 0:=
 (aa cfg 97 _).trans (by kernel_rfl)
theorem C7.a_eq (x1:List D1) (x3:Int):C7.a x1 x3=bif (decide (x3< (x1.length:Int)))then(bif (ao x3 (x1.length))then((Rf ((rd (τ:=Y0) x1 x3).1)).bind fun r1=>bif (!r1)then some false else((Rg ((rd (τ:=Y0) x1 x3).2.1)).bind fun r2=>bif (!r2)then some false else(bif (!decide ((((rd (τ:=Y0) x1 x3).2.2).size:Int)=128))then some false else(bif (decide (x3>0))then(bif (ao (IntKind.wrap .i64 (x3-1)) (x1.length))then(bif (decide ((rd (τ:=Y0) x1 x3).1≤(rd (τ:=Y0) x1 (IntKind.wrap .i64 (x3-1))).1))then some false else C7.a x1 (IntKind.wrap .i64 (x3+1)))else none)else C7.a x1 (IntKind.wrap .i64 (x3+1))))))else none)else some true:=
 (ak cfg 97 _ _ _).trans (by kernel_rfl)
noncomputable def Rh (a0:D0):Option Bool:=au cfg 164 [.agg [.str a0.1,.int .i64 a0.2.1,.int .i64 a0.2.2.1,.int .i64 a0.2.2.2.1,.int .i64 a0.2.2.2.2.1,.int .i64 a0.2.2.2.2.2]]
theorem J4 (a0:D0):Rh a0=av (fun kr18=>(Zz a0.1).bind fun r1=>bif (!r1)then kr18 true else((nK a0.2.2.1 0 1048575).bind fun r2=>bif (!r2)then kr18 true else(bif (!decide ((a0.2.2.1.tmod 4)=0))then kr18 true else((nK a0.2.2.2.1 1 1024).bind fun r3=>bif (!r3)then kr18 true else((nK a0.2.2.2.2.2 0 6).bind fun r4=>kr18 (!r4)))))) fun(r12:Bool)=>bif r12 then some false else(bif (decide (a0.2.1=1))then((PH a0.2.2.2.2.1).bind fun r13=>bif r13 then some true else(bif (decide (a0.2.1=2))then some (decide (a0.2.2.2.2.1=0))else some false))else(bif (decide (a0.2.1=2))then some (decide (a0.2.2.2.2.1=0))else some false)):=
 (aa cfg 164 _).trans (by kernel_rfl)
noncomputable def wZ (a0:List D0) (a1:ByteArray):Option Int:=au cfg 165 [.v (.list Y1 a0),.v (.str a1)]
noncomputable def wZ.a (x0:List D0) (x1:ByteArray) (x5:Int):Option Int:=LA 165 Tryz.f165 [1,0,1,0] ⟨20,af [vL 0 Y1 x0,(1,.v (.str x1)),vI 5 x5],ai []⟩
theorem J5 (a0:List D0) (a1:ByteArray):wZ a0 a1=wZ.a a0 a1 0:=
 (aa cfg 165 _).trans (by kernel_rfl)
theorem wZ.a_eq (x0:List D0) (x1:ByteArray) (x5:Int):wZ.a x0 x1 x5=bif (decide (x5< (x0.length:Int)))then(bif (ao x5 (x0.length))then(bif (bo ((rd (τ:=Y1) x0 x5).1) x1)then some x5 else wZ.a x0 x1 (IntKind.wrap .i64 (x5+1)))else none)else some (-1):=
 (ak cfg 165 _ _ _).trans (by kernel_rfl)
noncomputable def GD (a0:List D0):Option Bool:=au cfg 98 [.v (.list Y1 a0)]
noncomputable def GD.a (x0:List D0) (x3:Int):Option Bool:=LA 98 Tryz.f98 [1,1,1,0,1,0] ⟨34,af [vL 0 Y1 x0,vI 3 x3],ai []⟩
theorem J6 (a0:List D0):GD a0=bif (decide ((a0.length:Int)>4096))then some false else(bif (decide ((a0.length:Int)>64))then some false else GD.a a0 0):=
 (aa cfg 98 _).trans (by kernel_rfl)
theorem GD.a_eq (x0:List D0) (x3:Int):GD.a x0 x3=bif (decide (x3< (x0.length:Int)))then(bif (ao x3 (x0.length))then((Rh (rd (τ:=Y1) x0 x3)).bind fun r1=>bif (!r1)then some false else(bif (decide (0≤0)&&decide (0≤x3)&&decide (x3≤(x0.length:Int)))then(bif (ao x3 (x0.length))then((wZ ((x0.take (Int.toNat x3)).drop (Int.toNat 0)) ((rd (τ:=Y1) x0 x3).1)).bind fun r2=>bif (decide (r2≥0))then some false else GD.a x0 (IntKind.wrap .i64 (x3+1)))else none)else none))else none)else some true:=
 (ak cfg 98 _ _ _).trans (by kernel_rfl)
noncomputable def Ri (a0:Int):Option Bool:=au cfg 166 [.v (.int .i64 a0)]
theorem J7 (a0:Int):Ri a0=(nK a0 0 255).bind fun r1=>some r1:=
 (aa cfg 166 _).trans (by kernel_rfl)
noncomputable def C8 (a0 a1:List Int):Option Bool:=au cfg 167 [.v (.list (.int .i64) a0),.v (.list (.int .i64) a1)]
noncomputable def C8.a (x0 x1:List Int) (x5:Int):Option Bool:=LA 167 Tryz.f167 [1,0,1,0] ⟨41,af [vL 0 (.int .i64) x0,vL 1 (.int .i64) x1,vI 5 x5],ai []⟩
theorem J8 (a0 a1:List Int):C8 a0 a1=C8.a a0 a1 0:=
 (aa cfg 167 _).trans (by kernel_rfl)
theorem C8.a_eq (x0 x1:List Int) (x5:Int):C8.a x0 x1 x5=av (fun kr3=>bif (decide (x5< (x0.length:Int)))then kr3 (decide (x5< (x1.length:Int)))else kr3 false) fun(r2:Bool)=>bif r2 then(bif (ao x5 (x0.length))then(bif (ao x5 (x1.length))then(bif (!decide ((rd (τ:=(.int .i64)) x0 x5)=(rd (τ:=(.int .i64)) x1 x5)))then(bif (ao x5 (x0.length))then(bif (ao x5 (x1.length))then some (decide ((rd (τ:=(.int .i64)) x0 x5)< (rd (τ:=(.int .i64)) x1 x5)))else none)else none)else C8.a x0 x1 (IntKind.wrap .i64 (x5+1)))else none)else none)else some (decide ((x0.length:Int)< (x1.length:Int))):=
 (ak cfg 167 _ _ _).trans (by kernel_rfl)
noncomputable def C9 (a0:List (Int×Int×Int)):Option Bool:=au cfg 99 [.v (.list aV a0)]
noncomputable def C9.a (x0:List (Int×Int×Int)) (x3:Int):Option Bool:=LA 99 Tryz.f99 [1,1,1,0,1,0] ⟨53,af [vL 0 aV x0,vI 3 x3],ai []⟩
theorem J9 (a0:List (Int×Int×Int)):C9 a0=bif (decide ((a0.length:Int)>4096))then some false else(bif (decide ((a0.length:Int)>16))then some false else C9.a a0 0):=
 (aa cfg 99 _).trans (by kernel_rfl)
theorem C9.a_eq (x0:List (Int×Int×Int)) (x3:Int):C9.a x0 x3=bif (decide (x3< (x0.length:Int)))then(bif (ao x3 (x0.length))then((Ri ((rd (τ:=aV) x0 x3).2.1)).bind fun r1=>bif (!r1)then some false else(bif (decide (x3>0))then(bif (ao (IntKind.wrap .i64 (x3-1)) (x0.length))then(bif (ao (IntKind.wrap .i64 (x3-1)) (x0.length))then(bif (ao x3 (x0.length))then(bif (ao x3 (x0.length))then((C8 [(rd (τ:=aV) x0 (IntKind.wrap .i64 (x3-1))).1,(rd (τ:=aV) x0 (IntKind.wrap .i64 (x3-1))).2.1] [(rd (τ:=aV) x0 x3).1,(rd (τ:=aV) x0 x3).2.1]).bind fun r2=>bif (!r2)then some false else C9.a x0 (IntKind.wrap .i64 (x3+1)))else none)else none)else none)else none)else C9.a x0 (IntKind.wrap .i64 (x3+1))))else none)else some true:=
 (ak cfg 99 _ _ _).trans (by kernel_rfl)
noncomputable def Rj (a0:List Int×Int):Option Bool:=au cfg 169 [.agg [.seg (.int .i64) 32 a0.1,.int .i64 a0.2]]
theorem Ka (a0:List Int×Int):Rj a0=bif (ao 0 32)then some (decide ((rd (τ:=(.int .i64)) a0.1 0)=0))else none:=
 (aa cfg 169 _).trans (by kernel_rfl)
noncomputable def Rk (a0:D4):Option Bool:=au cfg 100 [.agg [.int .i64 a0.1,.seg (.int .i64) 32 a0.2.1.1,.int .i64 a0.2.1.2,.list (.int .i64) a0.2.2.1,.int .i64 a0.2.2.2]]
theorem Kb (a0:D4):Rk a0=av (fun kr8=>(nK a0.1 1 3).bind fun r1=>bif (!r1)then kr8 true else((Rj a0.2.1).bind fun r2=>bif (!r2)then kr8 true else kr8 (decide ((a0.2.2.1.length:Int)>32)))) fun(r6:Bool)=>bif r6 then some false else(bif (decide (a0.1=3))then((nK a0.2.2.2 1 31).bind fun r7=>some r7)else some (decide (a0.2.2.2=0))):=
 (aa cfg 100 _).trans (by kernel_rfl)
noncomputable def GE (a0:D5):Option Bool:=au cfg 50 [.agg [.list Y0 a0.1,.list Y3 a0.2.1,.list Y1 a0.2.2.1,.list aV a0.2.2.2]]
noncomputable def GE.a (x1:D5) (x3:Int):Option Bool:=LA 50 Tryz.f50 [1,1,0,1,0] ⟨46,af [vP 1 191,vI 3 x3],ai [(191,.box [.list Y0 x1.1,.list Y3 x1.2.1,.list Y1 x1.2.2.1,.list aV x1.2.2.2])]⟩
theorem Kc (a0:D5):GE a0=(C7 a0.1).bind fun r1=>bif (!r1)then some false else(bif (decide ((a0.2.1.length:Int)<1))then some false else(bif (decide ((a0.2.1.length:Int)>4))then some false else((GD a0.2.2.1).bind fun r2=>bif (!r2)then some false else((C9 a0.2.2.2).bind fun r3=>bif (!r3)then some false else GE.a a0 0)))):=
 (aa cfg 50 _).trans (by kernel_rfl)
theorem GE.a_eq (x1:D5) (x3:Int):GE.a x1 x3=bif (decide (x3< (x1.2.1.length:Int)))then(bif (ao x3 (x1.2.1.length))then((Rk (rd (τ:=Y3) x1.2.1 x3)).bind fun r12=>bif (!r12)then some false else GE.a x1 (IntKind.wrap .i64 (x3+1)))else none)else some true:=
 (ak cfg 50 _ _ _).trans (by kernel_rfl)
noncomputable def Da (a0:D3):Option (List D0):=au cfg 170 [.agg [.str a0.1,.str a0.2.1,.list Y4 a0.2.2]]
noncomputable def Da.a (x1:D3) (x3:List D0) (x4:Int):Option (List D0):=LA 170 Tryz.f170 [1,1,0,1,0] ⟨34,af [vP 1 191,(3,.v (.own 416)),vI 4 x4],ai [(191,.box [.str x1.1,.str x1.2.1,.list Y4 x1.2.2]),(416,.rows 81 Y1 .no x3)]⟩
theorem Kd (a0:D3):Da a0=Da.a a0 [] 0:=
 (aa cfg 170 _).trans (by kernel_rfl)
theorem Da.a_eq (x1:D3) (x3:List D0) (x4:Int):Da.a x1 x3 x4=bif (decide (x4< (x1.2.2.length:Int)))then(bif (ao x4 (x1.2.2.length))then((JB (rd (τ:=Y4) x1.2.2 x4)).bind fun r1=>bif (ar ((x3.length)+([((rd (τ:=Y4) x1.2.2 x4).1,(rd (τ:=Y4) x1.2.2 x4).2.1,r1,(rd (τ:=Y4) x1.2.2 x4).2.2.2.1,(rd (τ:=Y4) x1.2.2 x4).2.2.2.2,0)].length)) 56)then Da.a x1 (x3++[((rd (τ:=Y4) x1.2.2 x4).1,(rd (τ:=Y4) x1.2.2 x4).2.1,r1,(rd (τ:=Y4) x1.2.2 x4).2.2.2.1,(rd (τ:=Y4) x1.2.2 x4).2.2.2.2,0)]) (IntKind.wrap .i64 (x4+1))else none)else none)else some x3:=
 (ak cfg 170 _ _ _).trans (by kernel_rfl)
noncomputable def CP (a0:D3):Option (List cz):=au cfg 171 [.agg [.str a0.1,.str a0.2.1,.list Y4 a0.2.2]]
noncomputable def CP.a (x1:D3) (x3:List cz) (x4:Int):Option (List cz):=LA 171 Tryz.f171 [1,1,0,1,0] ⟨34,af [vP 1 191,(3,.v (.own 416)),vI 4 x4],ai [(191,.box [.str x1.1,.str x1.2.1,.list Y4 x1.2.2]),(416,.rows 116 ba .no x3)]⟩
theorem Ke (a0:D3):CP a0=CP.a a0 [] 0:=
 (aa cfg 171 _).trans (by kernel_rfl)
theorem CP.a_eq (x1:D3) (x3:List cz) (x4:Int):CP.a x1 x3 x4=bif (decide (x4< (x1.2.2.length:Int)))then(bif (ao x4 (x1.2.2.length))then(bif (decide ((rd (τ:=Y4) x1.2.2 x4).2.1=1))then((JB (rd (τ:=Y4) x1.2.2 x4)).bind fun r1=>bif (ar ((x3.length)+([(x4,0,r1,(rd (τ:=Y4) x1.2.2 x4).2.2.2)].length)) 40)then CP.a x1 (x3++[(x4,0,r1,(rd (τ:=Y4) x1.2.2 x4).2.2.2)]) (IntKind.wrap .i64 (x4+1))else none)else CP.a x1 x3 (IntKind.wrap .i64 (x4+1)))else none)else some x3:=
 (ak cfg 171 _ _ _).trans (by kernel_rfl)
noncomputable def Ae (a0:List D1) (a1:Int):Option Int:=au cfg 300 [.agg [.list Y0 a0],.v (.int .i64 a1)]
noncomputable def Ae.a (x1:Int) (x2:List D1) (x5:Int):Option Int:=LA 300 Tryz.f300 [1,0,1,0] ⟨33,af [vI 1 x1,vP 2 319,vI 5 x5],ai [(319,.box [.list Y0 x2])]⟩
theorem Kf (a0:List D1) (a1:Int):Ae a0 a1=Ae.a a1 a0 0:=
 (aa cfg 300 _).trans (by kernel_rfl)
theorem Ae.a_eq (x1:Int) (x2:List D1) (x5:Int):Ae.a x1 x2 x5=bif (decide (x5< (x2.length:Int)))then(bif (ao x5 (x2.length))then(bif (decide ((rd (τ:=Y0) x2 x5).1≤x1))then(bif (ao x5 (x2.length))then(bif (decide ((IntKind.wrap .i64 (x1-(rd (τ:=Y0) x2 x5).1))<128))then some x5 else Ae.a x1 x2 (IntKind.wrap .i64 (x5+1)))else none)else Ae.a x1 x2 (IntKind.wrap .i64 (x5+1)))else none)else some (-1):=
 (ak cfg 300 _ _ _).trans (by kernel_rfl)
noncomputable def Rl (a0:List D1):Option (List D1):=au cfg 357 [.agg [.list Y0 a0]]
theorem Kg (a0:List D1):Rl a0=bif (ar (0+(a0.length)) 32)then some a0 else none:=
 (aa cfg 357 _).trans (by kernel_rfl)
noncomputable def Rm (a0:List D1) (a1:Int) (a2:ByteArray):Option (List D1):=au cfg 317 [.agg [.list Y0 a0],.v (.int .i64 a1),.v (.str a2)]
theorem Kh (a0:List D1) (a1:Int) (a2:ByteArray):Rm a0 a1 a2=(Rl a0).bind fun r1=>(Ae a0 a1).bind fun r2=>bif (ao r2 (a0.length))then(bif (ao r2 (a0.length))then(bif (decide (0≤0)&&decide (0≤(IntKind.wrap .i64 (a1-(rd (τ:=Y0) a0 r2).1)))&&decide ((IntKind.wrap .i64 (a1-(rd (τ:=Y0) a0 r2).1))≤(((rd (τ:=Y0) a0 r2).2.2).size:Int)))then(bif (decide ((((rd (τ:=Y0) a0 r2).2.2).extract (Int.toNat 0) (Int.toNat (IntKind.wrap .i64 (a1-(rd (τ:=Y0) a0 r2).1)))).size+a2.size≤9223372036854775807))then(bif (decide (0≤(IntKind.wrap .i64 ((IntKind.wrap .i64 (a1-(rd (τ:=Y0) a0 r2).1))+(a2.size:Int))))&&decide ((IntKind.wrap .i64 ((IntKind.wrap .i64 (a1-(rd (τ:=Y0) a0 r2).1))+(a2.size:Int)))≤(((rd (τ:=Y0) a0 r2).2.2).size:Int))&&decide ((((rd (τ:=Y0) a0 r2).2.2).size:Int)≤(((rd (τ:=Y0) a0 r2).2.2).size:Int)))then(bif (decide (((((rd (τ:=Y0) a0 r2).2.2).extract (Int.toNat 0) (Int.toNat (IntKind.wrap .i64 (a1-(rd (τ:=Y0) a0 r2).1))))++a2).size+(((rd (τ:=Y0) a0 r2).2.2).extract (Int.toNat (IntKind.wrap .i64 ((IntKind.wrap .i64 (a1-(rd (τ:=Y0) a0 r2).1))+(a2.size:Int)))) (Int.toNat (((rd (τ:=Y0) a0 r2).2.2).size:Int))).size≤9223372036854775807))then(bif (ao r2 (r1.length))then(letB (r1.set (Int.toNat r2) ((rd (τ:=Y0) r1 r2).1,(rd (τ:=Y0) r1 r2).2.1,(((((rd (τ:=Y0) a0 r2).2.2).extract (Int.toNat 0) (Int.toNat (IntKind.wrap .i64 (a1-(rd (τ:=Y0) a0 r2).1))))++a2)++(((rd (τ:=Y0) a0 r2).2.2).extract (Int.toNat (IntKind.wrap .i64 ((IntKind.wrap .i64 (a1-(rd (τ:=Y0) a0 r2).1))+(a2.size:Int)))) (Int.toNat (((rd (τ:=Y0) a0 r2).2.2).size:Int)))))) fun r3=>some r3)else none)else none)else none)else none)else none)else none)else none:=
 (aa cfg 317 _).trans (by kernel_rfl)
noncomputable def w3 (a0:List D1) (a1:Int) (a2:ByteArray):Option (List D1):=au cfg 240 [.agg [.list Y0 a0],.v (.int .i64 a1),.v (.str a2)]
noncomputable def w3.a (x1:Int) (x2:ByteArray) (x3 x6:List D1):Option (List D1):=LA 240 Tryz.f240 [1,0,0] ⟨40,af [vI 1 x1,(2,.v (.str x2)),vP 3 447,vP 6 831],ai [(447,.box [.list Y0 x3]),(800,.rows 200 Y0 .no x6),(831,.box [.own 800])]⟩
theorem Ki (a0:List D1) (a1:Int) (a2:ByteArray):w3 a0 a1 a2=w3.a a1 a2 a0 []:=
 (aa cfg 240 _).trans (by kernel_rfl)
theorem w3.a_eq (x1:Int) (x2:ByteArray) (x3 x6:List D1):w3.a x1 x2 x3 x6=bif (decide ((x2.size:Int)>0))then((Ae x3 x1).bind fun r1=>bif (ao r1 (x3.length))then(bif (decide (0≤0)&&decide (0≤(if(IntKind.wrap .i64 ((IntKind.wrap .i64 ((rd (τ:=Y0) x3 r1).1+128))-x1))< (x2.size:Int)then(IntKind.wrap .i64 ((IntKind.wrap .i64 ((rd (τ:=Y0) x3 r1).1+128))-x1))else(x2.size:Int)))&&decide ((if(IntKind.wrap .i64 ((IntKind.wrap .i64 ((rd (τ:=Y0) x3 r1).1+128))-x1))< (x2.size:Int)then(IntKind.wrap .i64 ((IntKind.wrap .i64 ((rd (τ:=Y0) x3 r1).1+128))-x1))else(x2.size:Int))≤(x2.size:Int)))then((Rm x3 x1 (x2.extract (Int.toNat 0) (Int.toNat (if(IntKind.wrap .i64 ((IntKind.wrap .i64 ((rd (τ:=Y0) x3 r1).1+128))-x1))< (x2.size:Int)then(IntKind.wrap .i64 ((IntKind.wrap .i64 ((rd (τ:=Y0) x3 r1).1+128))-x1))else(x2.size:Int))))).bind fun r2=>bif (decide (0≤(if(IntKind.wrap .i64 ((IntKind.wrap .i64 ((rd (τ:=Y0) x3 r1).1+128))-x1))< (x2.size:Int)then(IntKind.wrap .i64 ((IntKind.wrap .i64 ((rd (τ:=Y0) x3 r1).1+128))-x1))else(x2.size:Int)))&&decide ((if(IntKind.wrap .i64 ((IntKind.wrap .i64 ((rd (τ:=Y0) x3 r1).1+128))-x1))< (x2.size:Int)then(IntKind.wrap .i64 ((IntKind.wrap .i64 ((rd (τ:=Y0) x3 r1).1+128))-x1))else(x2.size:Int))≤(x2.size:Int))&&decide ((x2.size:Int)≤(x2.size:Int)))then w3.a (IntKind.wrap .i64 (x1+(if(IntKind.wrap .i64 ((IntKind.wrap .i64 ((rd (τ:=Y0) x3 r1).1+128))-x1))< (x2.size:Int)then(IntKind.wrap .i64 ((IntKind.wrap .i64 ((rd (τ:=Y0) x3 r1).1+128))-x1))else(x2.size:Int)))) (x2.extract (Int.toNat (if(IntKind.wrap .i64 ((IntKind.wrap .i64 ((rd (τ:=Y0) x3 r1).1+128))-x1))< (x2.size:Int)then(IntKind.wrap .i64 ((IntKind.wrap .i64 ((rd (τ:=Y0) x3 r1).1+128))-x1))else(x2.size:Int))) (Int.toNat (x2.size:Int))) r2 x6 else none)else none)else none)else some x3:=
 (ak cfg 240 _ _ _).trans (by kernel_rfl)
noncomputable def Af (a0:List D1) (a1 a2:Int):Option (List D1):=au cfg 358 [.agg [.list Y0 a0],.v (.int .i64 a1),.v (.int .i64 a2)]
noncomputable def Af.a (x1 x2:Int) (x3 x6 x7:List D1) (x8:Bool) (x9:Int):Option (List D1):=LA 358 Tryz.f358 [1,1,1,0,1,0] ⟨58,af [vI 1 x1,vI 2 x2,vP 3 447,vP 6 831,(7,.v (.own 928)),(8,.v (.bool x8)),vI 9 x9],ai [(447,.box [.list Y0 x3]),(800,.rows 200 Y0 .no x6),(831,.box [.own 800]),(928,.rows 200 Y0 .no x7)]⟩
theorem Kj (a0:List D1) (a1 a2:Int):Af a0 a1 a2=Af.a a1 a2 a0 [] [] false 0:=
 (aa cfg 358 _).trans (by kernel_rfl)
theorem Af.a_eq (x1 x2:Int) (x3 x6 x7:List D1) (x8:Bool) (x9:Int):Af.a x1 x2 x3 x6 x7 x8 x9=bif (decide (x9< (x3.length:Int)))then(av (fun kr3=>bif (!x8)then(bif (ao x9 (x3.length))then kr3 (decide ((rd (τ:=Y0) x3 x9).1>x1))else none)else kr3 false) fun(r2:Bool)=>bif r2 then(bif (decide (0≤128)&&ar (Int.toNat 128) 1)then(bif (ar ((x7.length)+([(x1,x2,(aC (List.replicate (Int.toNat 128) (0:Int))))].length)) 32)then(bif (ao x9 (x3.length))then(bif (ar (((x7++[(x1,x2,(aC (List.replicate (Int.toNat 128) (0:Int))))]).length)+([(rd (τ:=Y0) x3 x9)].length)) 32)then Af.a x1 x2 x3 x6 ((x7++[(x1,x2,(aC (List.replicate (Int.toNat 128) (0:Int))))])++[(rd (τ:=Y0) x3 x9)]) true (IntKind.wrap .i64 (x9+1))else none)else none)else none)else none)else(bif (ao x9 (x3.length))then(bif (ar ((x7.length)+([(rd (τ:=Y0) x3 x9)].length)) 32)then Af.a x1 x2 x3 x6 (x7++[(rd (τ:=Y0) x3 x9)]) x8 (IntKind.wrap .i64 (x9+1))else none)else none))else(bif (!x8)then(bif (decide (0≤128)&&ar (Int.toNat 128) 1)then(bif (ar ((x7.length)+([(x1,x2,(aC (List.replicate (Int.toNat 128) (0:Int))))].length)) 32)then some (x7++[(x1,x2,(aC (List.replicate (Int.toNat 128) (0:Int))))])else none)else none)else some x7):=
 (ak cfg 358 _ _ _).trans (by kernel_rfl)
noncomputable def qG (a0:List D1) (a1 a2 a3:Int):Option (List D1):=au cfg 318 [.agg [.list Y0 a0],.v (.int .i64 a1),.v (.int .i64 a2),.v (.int .i64 a3)]
noncomputable def qG.a (x1 x2 x3:Int) (x4 x8:List D1) (x9:Int):Option (List D1):=LA 318 Tryz.f318 [1,0,1,0] ⟨22,af [vI 1 x1,vI 2 x2,vI 3 x3,vP 4 575,vP 8 1087,vI 9 x9],ai [(575,.box [.list Y0 x4]),(1056,.rows 200 Y0 .no x8),(1087,.box [.own 1056])]⟩
theorem Kk (a0:List D1) (a1 a2 a3:Int):qG a0 a1 a2 a3=qG.a a1 a2 a3 a0 [] 0:=
 (aa cfg 318 _).trans (by kernel_rfl)
theorem qG.a_eq (x1 x2 x3:Int) (x4 x8:List D1) (x9:Int):qG.a x1 x2 x3 x4 x8 x9=bif (decide (x9<x2))then((Af x4 (IntKind.wrap .i64 (x1+x9)) x3).bind fun r1=>qG.a x1 x2 x3 r1 x8 (IntKind.wrap .i64 (x9+128)))else some x4:=
 (ak cfg 318 _ _ _).trans (by kernel_rfl)
noncomputable def Db:Option (List D1):=au cfg 241 []
noncomputable def Db.a (x0 x1:List D1) (x2:Int):Option (List D1):=LA 241 Tryz.f241 [1,1,1,1,1,0,1,0] ⟨21,af [vP 0 63,vP 1 191,vI 2 x2],ai [(32,.rows 200 Y0 .no x0),(63,.box [.own 32]),(191,.box [.list Y0 x1])]⟩
theorem Kl:Db=(qG [] 4096 1024 4).bind fun r1=>(qG r1 8192 1024 4).bind fun r2=>(qG r2 16384 256 3).bind fun r3=>(qG r3 20480 256 3).bind fun r4=>Db.a [] r4 0:=
 (aa cfg 241 _).trans (by kernel_rfl)
theorem Db.a_eq (x0 x1:List D1) (x2:Int):Db.a x0 x1 x2=bif (decide (x2<4))then((qG x1 (IntKind.wrap .i64 (32768+(IntKind.wrap .i64 (1024*x2)))) 512 11).bind fun r5=>Db.a x0 r5 (IntKind.wrap .i64 (x2+1)))else some x1:=
 (ak cfg 241 _ _ _).trans (by kernel_rfl)
noncomputable def Rn (a0:D3):Option (List D1):=au cfg 172 [.agg [.str a0.1,.str a0.2.1,.list Y4 a0.2.2]]
theorem Km (a0:D3):Rn a0=(Db).bind fun r1=>(w3 r1 4096 a0.1).bind fun r2=>(w3 r2 16384 a0.2.1).bind fun r3=>some r3:=
 (aa cfg 172 _).trans (by kernel_rfl)
noncomputable def Ro (a0:D3):Option rE:=au cfg 101 [.agg [.str a0.1,.str a0.2.1,.list Y4 a0.2.2]]
theorem Kn (a0:D3):Ro a0=(Da a0).bind fun r1=>(CP a0).bind fun r2=>(Rn a0).bind fun r3=>some (r1,(8192,1024,8192),(20480,256,20480),r2,r3):=
 (aa cfg 101 _).trans (by kernel_rfl)
noncomputable def Rp (a0:ByteArray):Option Bool:=au cfg 319 [.v (.str a0)]
theorem Ko (a0:ByteArray):Rp a0=bif (decide (((a0.size:Int).tmod 4)=0))then(bif (decide ((a0.size:Int)≥20))then some (decide ((a0.size:Int)≤256))else some false)else some false:=
 (aa cfg 319 _).trans (by kernel_rfl)
noncomputable def uq (a0:D9):Option (Int×Int):=au cfg 242 [.agg [.str a0.1,.int .i64 a0.2.1,.list Y5 a0.2.2.1,.list (.pair .str .str) a0.2.2.2.1,.list Y6 a0.2.2.2.2.1,.list (.pair (.int .i64) .bool) a0.2.2.2.2.2]]
noncomputable def uq.a (x1:D9) (x4:Int):Option (Int×Int):=LA 242 Tryz.f242 [1,0,1,0] ⟨49,af [vP 1 191,vI 4 x4],ai [(191,.box [.str x1.1,.int .i64 x1.2.1,.list Y5 x1.2.2.1,.list (.pair .str .str) x1.2.2.2.1,.list Y6 x1.2.2.2.2.1,.list (.pair (.int .i64) .bool) x1.2.2.2.2.2])]⟩
noncomputable def uq.b (x1:D9) (x4:Int) (x5:D6) (x6:Int):Option (Int×Int):=LA 242 Tryz.f242 [1,0,1,0,0,1,0,0,1,1,0,1,0] ⟨49,af [vP 1 191,vI 4 x4,vP 5 703,vI 6 x6],ai [(191,.box [.str x1.1,.int .i64 x1.2.1,.list Y5 x1.2.2.1,.list (.pair .str .str) x1.2.2.2.1,.list Y6 x1.2.2.2.2.1,.list (.pair (.int .i64) .bool) x1.2.2.2.2.2]),(703,.box [.str x5.1,.bool x5.2.1,.int .i64 x5.2.2.1,.str x5.2.2.2])]⟩
theorem Kp (a0:D9):uq a0=uq.a a0 0:=
 (aa cfg 242 _).trans (by kernel_rfl)
theorem uq.a_eq (x1:D9) (x4:Int):uq.a x1 x4=bif (decide (x4< (x1.2.2.1.length:Int)))then(bif (ao x4 (x1.2.2.1.length))then((Zz ((rd (τ:=Y5) x1.2.2.1 x4).1)).bind fun r1=>bif (!r1)then some (x4,3)else uq.b x1 x4 (rd (τ:=Y5) x1.2.2.1 x4) 0)else none)else some (0,0):=
 (ak cfg 242 _ _ _).trans (by kernel_rfl)
theorem uq.b_eq (x1:D9) (x4:Int) (x5:D6) (x6:Int):uq.b x1 x4 x5 x6=bif (decide (x6<x4))then(bif (ao x6 (x1.2.2.1.length))then(bif (bo ((rd (τ:=Y5) x1.2.2.1 x6).1) x5.1)then some (x4,24)else uq.b x1 x4 x5 (IntKind.wrap .i64 (x6+1)))else none)else((PH x5.2.2.1).bind fun r2=>bif (!r2)then some (x4,17)else((Rp x5.2.2.2).bind fun r3=>bif (!r3)then some (x4,8)else uq.a x1 (IntKind.wrap .i64 (x4+1)))):=
 (ak cfg 242 _ _ _).trans (by kernel_rfl)
noncomputable def nc (a0:D9):Option (Int×Int):=au cfg 243 [.agg [.str a0.1,.int .i64 a0.2.1,.list Y5 a0.2.2.1,.list (.pair .str .str) a0.2.2.2.1,.list Y6 a0.2.2.2.2.1,.list (.pair (.int .i64) .bool) a0.2.2.2.2.2]]
noncomputable def nc.a (x1:D9) (x4:Int):Option (Int×Int):=LA 243 Tryz.f243 [1,0,1,0] ⟨75,af [vP 1 191,vI 4 x4],ai [(191,.box [.str x1.1,.int .i64 x1.2.1,.list Y5 x1.2.2.1,.list (.pair .str .str) x1.2.2.2.1,.list Y6 x1.2.2.2.2.1,.list (.pair (.int .i64) .bool) x1.2.2.2.2.2])]⟩
noncomputable def nc.b (x1:D9) (x4:Int) (x5:D7) (x6:Int):Option (Int×Int):=LA 243 Tryz.f243 [1,0,1,0,0,1,0,0,1,1,0,1,0] ⟨75,af [vP 1 191,vI 4 x4,vP 5 703,vI 6 x6],ai [(191,.box [.str x1.1,.int .i64 x1.2.1,.list Y5 x1.2.2.1,.list (.pair .str .str) x1.2.2.2.1,.list Y6 x1.2.2.2.2.1,.list (.pair (.int .i64) .bool) x1.2.2.2.2.2]),(703,.box [.str x5.1,.str x5.2])]⟩
noncomputable def nc.c (x1:D9) (x4:Int) (x5:D7) (x7:Int):Option (Int×Int):=LA 243 Tryz.f243 [1,0,1,0,0,1,0,0,1,1,1,0,1,0] ⟨75,af [vP 1 191,vI 4 x4,vP 5 703,vI 7 x7],ai [(191,.box [.str x1.1,.int .i64 x1.2.1,.list Y5 x1.2.2.1,.list (.pair .str .str) x1.2.2.2.1,.list Y6 x1.2.2.2.2.1,.list (.pair (.int .i64) .bool) x1.2.2.2.2.2]),(703,.box [.str x5.1,.str x5.2])]⟩
theorem Kq (a0:D9):nc a0=nc.a a0 0:=
 (aa cfg 243 _).trans (by kernel_rfl)
theorem nc.a_eq (x1:D9) (x4:Int):nc.a x1 x4=bif (decide (x4< (x1.2.2.2.1.length:Int)))then(bif (ao x4 (x1.2.2.2.1.length))then((Zz ((rd (τ:=(.pair .str .str)) x1.2.2.2.1 x4).1)).bind fun r1=>bif (!r1)then some (x4,3)else nc.b x1 x4 (rd (τ:=(.pair .str .str)) x1.2.2.2.1 x4) 0)else none)else some (0,0):=
 (ak cfg 243 _ _ _).trans (by kernel_rfl)
theorem nc.b_eq (x1:D9) (x4:Int) (x5:D7) (x6:Int):nc.b x1 x4 x5 x6=bif (decide (x6< (x1.2.2.1.length:Int)))then(bif (ao x6 (x1.2.2.1.length))then(bif (bo ((rd (τ:=Y5) x1.2.2.1 x6).1) x5.1)then some (x4,24)else nc.b x1 x4 x5 (IntKind.wrap .i64 (x6+1)))else none)else nc.c x1 x4 x5 0:=
 (ak cfg 243 _ _ _).trans (by kernel_rfl)
theorem nc.c_eq (x1:D9) (x4:Int) (x5:D7) (x7:Int):nc.c x1 x4 x5 x7=bif (decide (x7<x4))then(bif (ao x7 (x1.2.2.2.1.length))then(bif (bo ((rd (τ:=(.pair .str .str)) x1.2.2.2.1 x7).1) x5.1)then some (x4,24)else nc.c x1 x4 x5 (IntKind.wrap .i64 (x7+1)))else none)else(bif (!decide (((x5.2.size:Int).tmod 8)=0))then some (x4,8)else(bif (decide ((x5.2.size:Int)<8))then some (x4,8)else(bif (decide ((x5.2.size:Int)>64))then some (x4,8)else nc.a x1 (IntKind.wrap .i64 (x4+1))))):=
 (ak cfg 243 _ _ _).trans (by kernel_rfl)
noncomputable def P2 (a0:D9) (a1:Int):Option Int:=au cfg 320 [.agg [.str a0.1,.int .i64 a0.2.1,.list Y5 a0.2.2.1,.list (.pair .str .str) a0.2.2.2.1,.list Y6 a0.2.2.2.2.1,.list (.pair (.int .i64) .bool) a0.2.2.2.2.2],.v (.int .i64 a1)]
theorem Kr (a0:D9) (a1:Int):P2 a0 a1=av (fun kr6=>bif (decide (a1≥0))then kr6 (decide (a1< (a0.2.2.1.length:Int)))else kr6 false) fun(r2:Bool)=>bif r2 then(bif (ao a1 (a0.2.2.1.length))then some (IntKind.wrap .i64 ((((rd (τ:=Y5) a0.2.2.1 a1).2.2.2).size:Int).tdiv 4))else none)else(av (fun kr5=>bif (decide (a1≥(a0.2.2.1.length:Int)))then kr5 (decide ((IntKind.wrap .i64 (a1-(a0.2.2.1.length:Int)))< (a0.2.2.2.1.length:Int)))else kr5 false) fun(r4:Bool)=>bif r4 then(bif (ao (IntKind.wrap .i64 (a1-(a0.2.2.1.length:Int))) (a0.2.2.2.1.length))then some (IntKind.wrap .i64 ((((rd (τ:=(.pair .str .str)) a0.2.2.2.1 (IntKind.wrap .i64 (a1-(a0.2.2.1.length:Int)))).2).size:Int).tdiv 8))else none)else some (-1)):=
 (aa cfg 320 _).trans (by kernel_rfl)
noncomputable def Dc (a0:D9):Option (Int×Int):=au cfg 244 [.agg [.str a0.1,.int .i64 a0.2.1,.list Y5 a0.2.2.1,.list (.pair .str .str) a0.2.2.2.1,.list Y6 a0.2.2.2.2.1,.list (.pair (.int .i64) .bool) a0.2.2.2.2.2]]
noncomputable def Dc.a (x1:D9) (x4:Int):Option (Int×Int):=LA 244 Tryz.f244 [1,0,1,0] ⟨85,af [vP 1 191,vI 4 x4],ai [(191,.box [.str x1.1,.int .i64 x1.2.1,.list Y5 x1.2.2.1,.list (.pair .str .str) x1.2.2.2.1,.list Y6 x1.2.2.2.2.1,.list (.pair (.int .i64) .bool) x1.2.2.2.2.2])]⟩
theorem Ks (a0:D9):Dc a0=Dc.a a0 0:=
 (aa cfg 244 _).trans (by kernel_rfl)
theorem Dc.a_eq (x1:D9) (x4:Int):Dc.a x1 x4=bif (decide (x4< (x1.2.2.2.2.1.length:Int)))then(bif (ao x4 (x1.2.2.2.2.1.length))then(av (fun kr13=>bif (decide ((rd (τ:=Y6) x1.2.2.2.2.1 x4).2.1<0))then kr13 true else((P2 x1 ((rd (τ:=Y6) x1.2.2.2.2.1 x4).1)).bind fun r1=>kr13 (decide ((rd (τ:=Y6) x1.2.2.2.2.1 x4).2.1≥r1)))) fun(r3:Bool)=>bif r3 then some (x4,4)else(av (fun kr12=>(nK ((rd (τ:=Y6) x1.2.2.2.2.1 x4).2.2.1) 1 9).bind fun r4=>bif (!r4)then kr12 true else kr12 (!((decide ((rd (τ:=Y6) x1.2.2.2.2.1 x4).2.2.1=9))==(decide ((rd (τ:=Y6) x1.2.2.2.2.1 x4).1≥(x1.2.2.1.length:Int)))))) fun(r6:Bool)=>bif r6 then some (x4,26)else((Zz ((rd (τ:=Y6) x1.2.2.2.2.1 x4).2.2.2.1)).bind fun r7=>bif (!r7)then some (x4,3)else((nK ((rd (τ:=Y6) x1.2.2.2.2.1 x4).2.2.2.2) (-2147483648) 2147483647).bind fun r8=>bif (!r8)then some (x4,4)else(bif (decide (x4>0))then(bif (ao (IntKind.wrap .i64 (x4-1)) (x1.2.2.2.2.1.length))then(bif (ao (IntKind.wrap .i64 (x4-1)) (x1.2.2.2.2.1.length))then((C8 [(rd (τ:=Y6) x1.2.2.2.2.1 (IntKind.wrap .i64 (x4-1))).1,(rd (τ:=Y6) x1.2.2.2.2.1 (IntKind.wrap .i64 (x4-1))).2.1] [(rd (τ:=Y6) x1.2.2.2.2.1 x4).1,(rd (τ:=Y6) x1.2.2.2.2.1 x4).2.1]).bind fun r9=>bif (!r9)then some (x4,24)else Dc.a x1 (IntKind.wrap .i64 (x4+1)))else none)else none)else Dc.a x1 (IntKind.wrap .i64 (x4+1)))))))else none)else some (0,0):=
 (ak cfg 244 _ _ _).trans (by kernel_rfl)
noncomputable def Dd (a0:D9):Option (Int×Int):=au cfg 245 [.agg [.str a0.1,.int .i64 a0.2.1,.list Y5 a0.2.2.1,.list (.pair .str .str) a0.2.2.2.1,.list Y6 a0.2.2.2.2.1,.list (.pair (.int .i64) .bool) a0.2.2.2.2.2]]
noncomputable def Dd.a (x1:D9) (x4:Int):Option (Int×Int):=LA 245 Tryz.f245 [1,0,1,0] ⟨40,af [vP 1 191,vI 4 x4],ai [(191,.box [.str x1.1,.int .i64 x1.2.1,.list Y5 x1.2.2.1,.list (.pair .str .str) x1.2.2.2.1,.list Y6 x1.2.2.2.2.1,.list (.pair (.int .i64) .bool) x1.2.2.2.2.2])]⟩
theorem Kt (a0:D9):Dd a0=Dd.a a0 0:=
 (aa cfg 245 _).trans (by kernel_rfl)
theorem Dd.a_eq (x1:D9) (x4:Int):Dd.a x1 x4=bif (decide (x4< (x1.2.2.2.2.2.length:Int)))then(bif (ao x4 (x1.2.2.2.2.2.length))then((nK ((rd (τ:=(.pair (.int .i64) .bool)) x1.2.2.2.2.2 x4).1) 0 255).bind fun r1=>bif (!r1)then some (x4,4)else(bif (decide (x4>0))then(bif (ao x4 (x1.2.2.2.2.2.length))then(bif (ao (IntKind.wrap .i64 (x4-1)) (x1.2.2.2.2.2.length))then(bif (decide ((rd (τ:=(.pair (.int .i64) .bool)) x1.2.2.2.2.2 x4).1≤(rd (τ:=(.pair (.int .i64) .bool)) x1.2.2.2.2.2 (IntKind.wrap .i64 (x4-1))).1))then some (x4,24)else Dd.a x1 (IntKind.wrap .i64 (x4+1)))else none)else none)else Dd.a x1 (IntKind.wrap .i64 (x4+1))))else none)else some (0,0):=
 (ak cfg 245 _ _ _).trans (by kernel_rfl)
noncomputable def Rq (a0:D9):Option (Int×Int):=au cfg 173 [.agg [.str a0.1,.int .i64 a0.2.1,.list Y5 a0.2.2.1,.list (.pair .str .str) a0.2.2.2.1,.list Y6 a0.2.2.2.2.1,.list (.pair (.int .i64) .bool) a0.2.2.2.2.2]]
theorem Ku (a0:D9):Rq a0=(Zz a0.1).bind fun r1=>bif (!r1)then some (0,3)else((nK a0.2.1 0 5).bind fun r2=>bif (!r2)then some (0,27)else(bif (decide ((a0.2.2.1.length:Int)=0))then some (0,5)else(av (fun kr13=>bif (decide ((a0.2.2.1.length:Int)>4))then kr13 true else(bif (decide ((a0.2.2.2.1.length:Int)>4))then kr13 true else(bif (decide ((a0.2.2.2.2.1.length:Int)>32))then kr13 true else kr13 (decide ((a0.2.2.2.2.2.length:Int)>4))))) fun(r8:Bool)=>bif r8 then some (0,6)else((uq a0).bind fun r9=>bif (!decide (r9.2=0))then some r9 else((nc a0).bind fun r10=>bif (!decide (r10.2=0))then some r10 else((Dc a0).bind fun r11=>bif (!decide (r11.2=0))then some r11 else((Dd a0).bind fun r12=>some r12))))))):=
 (aa cfg 173 _).trans (by kernel_rfl)
noncomputable def Rr (a0:D9):Option Bool:=au cfg 102 [.agg [.str a0.1,.int .i64 a0.2.1,.list Y5 a0.2.2.1,.list (.pair .str .str) a0.2.2.2.1,.list Y6 a0.2.2.2.2.1,.list (.pair (.int .i64) .bool) a0.2.2.2.2.2]]
theorem Kv (a0:D9):Rr a0=(Rq a0).bind fun r1=>some (decide (r1.2=0)):=
 (aa cfg 102 _).trans (by kernel_rfl)
noncomputable def jf (a0:List cV) (a1:D9):Option Int:=au cfg 103 [.v (.list bl a0),.agg [.str a1.1,.int .i64 a1.2.1,.list Y5 a1.2.2.1,.list (.pair .str .str) a1.2.2.2.1,.list Y6 a1.2.2.2.2.1,.list (.pair (.int .i64) .bool) a1.2.2.2.2.2]]
noncomputable def jf.a (x0:List cV) (x3:D9) (x5:Int):Option Int:=LA 103 Tryz.f103 [1,0,1,0] ⟨62,af [vL 0 bl x0,vP 3 447,vI 5 x5],ai [(447,.box [.str x3.1,.int .i64 x3.2.1,.list Y5 x3.2.2.1,.list (.pair .str .str) x3.2.2.2.1,.list Y6 x3.2.2.2.2.1,.list (.pair (.int .i64) .bool) x3.2.2.2.2.2])]⟩
noncomputable def jf.b (x0:List cV) (x3:D9) (x6:Int):Option Int:=LA 103 Tryz.f103 [1,1,0,1,0] ⟨62,af [vL 0 bl x0,vP 3 447,vI 6 x6],ai [(447,.box [.str x3.1,.int .i64 x3.2.1,.list Y5 x3.2.2.1,.list (.pair .str .str) x3.2.2.2.1,.list Y6 x3.2.2.2.2.1,.list (.pair (.int .i64) .bool) x3.2.2.2.2.2])]⟩
noncomputable def jf.c (x0:List cV) (x3:D9) (x6:Int) (x7:List (Int×Bool)) (x8:Int):Option Int:=LA 103 Tryz.f103 [1,1,0,1,0,0,1,0,0,1,1,0] ⟨62,af [vL 0 bl x0,vP 3 447,vI 6 x6,vL 7 (.pair (.int .i64) .bool) x7,vI 8 x8],ai [(447,.box [.str x3.1,.int .i64 x3.2.1,.list Y5 x3.2.2.1,.list (.pair .str .str) x3.2.2.2.1,.list Y6 x3.2.2.2.2.1,.list (.pair (.int .i64) .bool) x3.2.2.2.2.2])]⟩
noncomputable def jf.d (x0:List cV) (x3:D9) (x6:Int) (x7:List (Int×Bool)) (x8 x9:Int):Option Int:=LA 103 Tryz.f103 [1,1,0,1,0,0,1,0,0,1,1,0,0,1,0,0,1,0] ⟨62,af [vL 0 bl x0,vP 3 447,vI 6 x6,vL 7 (.pair (.int .i64) .bool) x7,vI 8 x8,vI 9 x9],ai [(447,.box [.str x3.1,.int .i64 x3.2.1,.list Y5 x3.2.2.1,.list (.pair .str .str) x3.2.2.2.1,.list Y6 x3.2.2.2.2.1,.list (.pair (.int .i64) .bool) x3.2.2.2.2.2])]⟩
theorem Kw (a0:List cV) (a1:D9):jf a0 a1=jf.a a0 a1 0:=
 (aa cfg 103 _).trans (by kernel_rfl)
theorem jf.a_eq (x0:List cV) (x3:D9) (x5:Int):jf.a x0 x3 x5=bif (decide (x5< (x0.length:Int)))then(bif (ao x5 (x0.length))then(bif (bo ((rd (τ:=bl) x0 x5).1.1) x3.1)then some 24 else jf.a x0 x3 (IntKind.wrap .i64 (x5+1)))else none)else jf.b x0 x3 0:=
 (ak cfg 103 _ _ _).trans (by kernel_rfl)
theorem jf.b_eq (x0:List cV) (x3:D9) (x6:Int):jf.b x0 x3 x6=bif (decide (x6< (x0.length:Int)))then(bif (ao x6 (x0.length))then jf.c x0 x3 x6 ((rd (τ:=bl) x0 x6).1.2.2.2.2.2) 0 else none)else some 0:=
 (ak cfg 103 _ _ _).trans (by kernel_rfl)
theorem jf.c_eq (x0:List cV) (x3:D9) (x6:Int) (x7:List (Int×Bool)) (x8:Int):jf.c x0 x3 x6 x7 x8=bif (decide (x8< (x7.length:Int)))then jf.d x0 x3 x6 x7 x8 0 else jf.b x0 x3 (IntKind.wrap .i64 (x6+1)):=
 (ak cfg 103 _ _ _).trans (by kernel_rfl)
theorem jf.d_eq (x0:List cV) (x3:D9) (x6:Int) (x7:List (Int×Bool)) (x8 x9:Int):jf.d x0 x3 x6 x7 x8 x9=bif (decide (x9< (x3.2.2.2.2.2.length:Int)))then(bif (ao x8 (x7.length))then(bif (ao x9 (x3.2.2.2.2.2.length))then(bif (decide ((rd (τ:=(.pair (.int .i64) .bool)) x7 x8).1=(rd (τ:=(.pair (.int .i64) .bool)) x3.2.2.2.2.2 x9).1))then some 30 else jf.d x0 x3 x6 x7 x8 (IntKind.wrap .i64 (x9+1)))else none)else none)else jf.c x0 x3 x6 x7 (IntKind.wrap .i64 (x8+1)):=
 (ak cfg 103 _ _ _).trans (by kernel_rfl)
noncomputable def tb (a0:List D0) (a1:D9):Option Int:=au cfg 174 [.v (.list Y1 a0),.agg [.str a1.1,.int .i64 a1.2.1,.list Y5 a1.2.2.1,.list (.pair .str .str) a1.2.2.2.1,.list Y6 a1.2.2.2.2.1,.list (.pair (.int .i64) .bool) a1.2.2.2.2.2]]
noncomputable def tb.a (x0:List D0) (x3:D9) (x5:Int):Option Int:=LA 174 Tryz.f174 [1,0,1,0] ⟨56,af [vL 0 Y1 x0,vP 3 447,vI 5 x5],ai [(447,.box [.str x3.1,.int .i64 x3.2.1,.list Y5 x3.2.2.1,.list (.pair .str .str) x3.2.2.2.1,.list Y6 x3.2.2.2.2.1,.list (.pair (.int .i64) .bool) x3.2.2.2.2.2])]⟩
noncomputable def tb.b (x0:List D0) (x3:D9) (x7:Int):Option Int:=LA 174 Tryz.f174 [1,1,0,1,0] ⟨56,af [vL 0 Y1 x0,vP 3 447,vI 7 x7],ai [(447,.box [.str x3.1,.int .i64 x3.2.1,.list Y5 x3.2.2.1,.list (.pair .str .str) x3.2.2.2.1,.list Y6 x3.2.2.2.2.1,.list (.pair (.int .i64) .bool) x3.2.2.2.2.2])]⟩
theorem Kx (a0:List D0) (a1:D9):tb a0 a1=tb.a a0 a1 0:=
 (aa cfg 174 _).trans (by kernel_rfl)
theorem tb.a_eq (x0:List D0) (x3:D9) (x5:Int):tb.a x0 x3 x5=bif (decide (x5< (x3.2.2.1.length:Int)))then(bif (ao x5 (x3.2.2.1.length))then((wZ x0 ((rd (τ:=Y5) x3.2.2.1 x5).1)).bind fun r1=>bif (ao x5 (x3.2.2.1.length))then(bif (!(rd (τ:=Y5) x3.2.2.1 x5).2.1)then(bif (decide (r1≥0))then some 24 else tb.a x0 x3 (IntKind.wrap .i64 (x5+1)))else(bif (decide (r1<0))then some 23 else(bif (ao r1 (x0.length))then(bif (!decide ((rd (τ:=Y1) x0 r1).2.1=1))then some 26 else tb.a x0 x3 (IntKind.wrap .i64 (x5+1)))else none)))else none)else none)else tb.b x0 x3 0:=
 (ak cfg 174 _ _ _).trans (by kernel_rfl)
theorem tb.b_eq (x0:List D0) (x3:D9) (x7:Int):tb.b x0 x3 x7=bif (decide (x7< (x3.2.2.2.1.length:Int)))then(bif (ao x7 (x3.2.2.2.1.length))then((wZ x0 ((rd (τ:=(.pair .str .str)) x3.2.2.2.1 x7).1)).bind fun r2=>bif (decide (r2≥0))then some 24 else tb.b x0 x3 (IntKind.wrap .i64 (x7+1)))else none)else some 0:=
 (ak cfg 174 _ _ _).trans (by kernel_rfl)
noncomputable def De (a0:Int×Int×Int) (a1:Int):Option Q6:=au cfg 246 [.agg [.int .i64 a0.1,.int .i64 a0.2.1,.int .i64 a0.2.2],.v (.int .i64 a1)]
noncomputable def De.a (x1:Int) (x2 x4:Int×Int×Int):Option Q6:=LA 246 Tryz.f246 [1,0,0] ⟨33,af [vI 1 x1,vP 2 319,vP 4 575],ai [(319,.box [.int .i64 x2.1,.int .i64 x2.2.1,.int .i64 x2.2.2]),(575,.box [.int .i64 x4.1,.int .i64 x4.2.1,.int .i64 x4.2.2])]⟩
theorem Ky (a0:Int×Int×Int) (a1:Int):De a0 a1=De.a a1 a0 (0,0,0):=
 (aa cfg 246 _).trans (by kernel_rfl)
theorem De.a_eq (x1:Int) (x2 x4:Int×Int×Int):De.a x1 x2 x4=bif (!decide ((x1.tmod 8)=0))then De.a (IntKind.wrap .i64 (x1+1)) x2 x4 else(bif (decide (x1>(IntKind.wrap .i64 ((IntKind.wrap .i64 (x2.1+x2.2.1))-x2.2.2))))then some (x2,0,false)else some ((x2.1,x2.2.1,(IntKind.wrap .i64 (x2.2.2+x1))),x2.2.2,true)):=
 (ak cfg 246 _ _ _).trans (by kernel_rfl)
noncomputable def qH (a0 a1:Int×Int×Int) (a2:D9):Option Q7:=au cfg 175 [.agg [.int .i64 a0.1,.int .i64 a0.2.1,.int .i64 a0.2.2],.agg [.int .i64 a1.1,.int .i64 a1.2.1,.int .i64 a1.2.2],.agg [.str a2.1,.int .i64 a2.2.1,.list Y5 a2.2.2.1,.list (.pair .str .str) a2.2.2.2.1,.list Y6 a2.2.2.2.2.1,.list (.pair (.int .i64) .bool) a2.2.2.2.2.2]]
noncomputable def qH.a (x3 x4:Int×Int×Int) (x5:D9) (x6:bY) (x7 x8:Int×Int×Int) (x10:bY) (x11:Int):Option Q7:=LA 175 Tryz.f175 [1,1,0,1,0] ⟨113,af [vP 3 447,vP 4 575,vP 5 703,vP 6 831,vP 7 959,vP 8 1087,vP 10 1343,vI 11 x11],ai [(447,.box [.int .i64 x3.1,.int .i64 x3.2.1,.int .i64 x3.2.2]),(575,.box [.int .i64 x4.1,.int .i64 x4.2.1,.int .i64 x4.2.2]),(703,.box [.str x5.1,.int .i64 x5.2.1,.list Y5 x5.2.2.1,.list (.pair .str .str) x5.2.2.2.1,.list Y6 x5.2.2.2.2.1,.list (.pair (.int .i64) .bool) x5.2.2.2.2.2]),(800,.rows 3 (.int .i64) .no x6.1),(801,.rows 9 .str .no x6.2.1),(802,.rows 3 (.int .i64) .no x6.2.2.1),(803,.rows 9 .str .no x6.2.2.2),(831,.box [.own 800,.own 801,.own 802,.own 803]),(959,.box [.int .i64 x7.1,.int .i64 x7.2.1,.int .i64 x7.2.2]),(1087,.box [.int .i64 x8.1,.int .i64 x8.2.1,.int .i64 x8.2.2]),(1312,.rows 3 (.int .i64) .no x10.1),(1313,.rows 9 .str .no x10.2.1),(1314,.rows 3 (.int .i64) .no x10.2.2.1),(1315,.rows 9 .str .no x10.2.2.2),(1343,.box [.own 1312,.own 1313,.own 1314,.own 1315])]⟩
noncomputable def qH.b (x3 x4:Int×Int×Int) (x5:D9) (x6:bY) (x7 x8:Int×Int×Int) (x10:bY) (x15:Int):Option Q7:=LA 175 Tryz.f175 [1,1,1,0,1,0] ⟨113,af [vP 3 447,vP 4 575,vP 5 703,vP 6 831,vP 7 959,vP 8 1087,vP 10 1343,vI 15 x15],ai [(447,.box [.int .i64 x3.1,.int .i64 x3.2.1,.int .i64 x3.2.2]),(575,.box [.int .i64 x4.1,.int .i64 x4.2.1,.int .i64 x4.2.2]),(703,.box [.str x5.1,.int .i64 x5.2.1,.list Y5 x5.2.2.1,.list (.pair .str .str) x5.2.2.2.1,.list Y6 x5.2.2.2.2.1,.list (.pair (.int .i64) .bool) x5.2.2.2.2.2]),(800,.rows 3 (.int .i64) .no x6.1),(801,.rows 9 .str .no x6.2.1),(802,.rows 3 (.int .i64) .no x6.2.2.1),(803,.rows 9 .str .no x6.2.2.2),(831,.box [.own 800,.own 801,.own 802,.own 803]),(959,.box [.int .i64 x7.1,.int .i64 x7.2.1,.int .i64 x7.2.2]),(1087,.box [.int .i64 x8.1,.int .i64 x8.2.1,.int .i64 x8.2.2]),(1312,.rows 3 (.int .i64) .no x10.1),(1313,.rows 9 .str .no x10.2.1),(1314,.rows 3 (.int .i64) .no x10.2.2.1),(1315,.rows 9 .str .no x10.2.2.2),(1343,.box [.own 1312,.own 1313,.own 1314,.own 1315])]⟩
theorem Kz (a0 a1:Int×Int×Int) (a2:D9):qH a0 a1 a2=qH.a a0 a1 a2 ([],[],[],[]) (0,0,0) (0,0,0) ([],[],[],[]) 0:=
 (aa cfg 175 _).trans (by kernel_rfl)
theorem qH.a_eq (x3 x4:Int×Int×Int) (x5:D9) (x6:bY) (x7 x8:Int×Int×Int) (x10:bY) (x11:Int):qH.a x3 x4 x5 x6 x7 x8 x10 x11=bif (decide (x11< (x5.2.2.1.length:Int)))then(bif (ao x11 (x5.2.2.1.length))then((De x3 (((rd (τ:=Y5) x5.2.2.1 x11).2.2.2).size:Int)).bind fun r1=>bif (!r1.2.2)then some (x10,x3,x4,false)else(bif (ar ((x10.1.length)+([r1.2.1].length)) 8)then(bif (ao x11 (x5.2.2.1.length))then(bif (ar ((x10.2.1.length)+([(rd (τ:=Y5) x5.2.2.1 x11).2.2.2].length)) 16)then qH.a r1.1 x4 x5 x6 x7 x8 ((x10.1++[r1.2.1]),(x10.2.1++[(rd (τ:=Y5) x5.2.2.1 x11).2.2.2]),x10.2.2) (IntKind.wrap .i64 (x11+1))else none)else none)else none))else none)else qH.b x3 x4 x5 x6 x7 x8 x10 0:=
 (ak cfg 175 _ _ _).trans (by kernel_rfl)
theorem qH.b_eq (x3 x4:Int×Int×Int) (x5:D9) (x6:bY) (x7 x8:Int×Int×Int) (x10:bY) (x15:Int):qH.b x3 x4 x5 x6 x7 x8 x10 x15=bif (decide (x15< (x5.2.2.2.1.length:Int)))then(bif (ao x15 (x5.2.2.2.1.length))then((De x4 (((rd (τ:=(.pair .str .str)) x5.2.2.2.1 x15).2).size:Int)).bind fun r2=>bif (!r2.2.2)then some (x10,x3,x4,false)else(bif (ar ((x10.2.2.1.length)+([r2.2.1].length)) 8)then(bif (ao x15 (x5.2.2.2.1.length))then(bif (ar ((x10.2.2.2.length)+([(rd (τ:=(.pair .str .str)) x5.2.2.2.1 x15).2].length)) 16)then qH.b x3 r2.1 x5 x6 x7 x8 (x10.1,x10.2.1,(x10.2.2.1++[r2.2.1]),(x10.2.2.2++[(rd (τ:=(.pair .str .str)) x5.2.2.2.1 x15).2])) (IntKind.wrap .i64 (x15+1))else none)else none)else none))else none)else some (x10,x3,x4,true):=
 (ak cfg 175 _ _ _).trans (by kernel_rfl)
noncomputable def tc (a0:List D0) (a1:D9) (a2:bY) (a3:ByteArray):Option (Int×Bool):=au cfg 247 [.v (.list Y1 a0),.agg [.str a1.1,.int .i64 a1.2.1,.list Y5 a1.2.2.1,.list (.pair .str .str) a1.2.2.2.1,.list Y6 a1.2.2.2.2.1,.list (.pair (.int .i64) .bool) a1.2.2.2.2.2],.agg [.list (.int .i64) a2.1,.list .str a2.2.1,.list (.int .i64) a2.2.2.1,.list .str a2.2.2.2],.v (.str a3)]
noncomputable def tc.a (x0:List D0) (x3:ByteArray) (x5:D9) (x6:bY) (x10:Int):Option (Int×Bool):=LA 247 Tryz.f247 [1,0,1,0] ⟨72,af [vL 0 Y1 x0,(3,.v (.str x3)),vP 5 703,vP 6 831,vI 10 x10],ai [(703,.box [.str x5.1,.int .i64 x5.2.1,.list Y5 x5.2.2.1,.list (.pair .str .str) x5.2.2.2.1,.list Y6 x5.2.2.2.2.1,.list (.pair (.int .i64) .bool) x5.2.2.2.2.2]),(831,.box [.list (.int .i64) x6.1,.list .str x6.2.1,.list (.int .i64) x6.2.2.1,.list .str x6.2.2.2])]⟩
noncomputable def tc.b (x0:List D0) (x3:ByteArray) (x5:D9) (x6:bY) (x11:Int):Option (Int×Bool):=LA 247 Tryz.f247 [1,1,0,1,0] ⟨72,af [vL 0 Y1 x0,(3,.v (.str x3)),vP 5 703,vP 6 831,vI 11 x11],ai [(703,.box [.str x5.1,.int .i64 x5.2.1,.list Y5 x5.2.2.1,.list (.pair .str .str) x5.2.2.2.1,.list Y6 x5.2.2.2.2.1,.list (.pair (.int .i64) .bool) x5.2.2.2.2.2]),(831,.box [.list (.int .i64) x6.1,.list .str x6.2.1,.list (.int .i64) x6.2.2.1,.list .str x6.2.2.2])]⟩
theorem KA (a0:List D0) (a1:D9) (a2:bY) (a3:ByteArray):tc a0 a1 a2 a3=tc.a a0 a3 a1 a2 0:=
 (aa cfg 247 _).trans (by kernel_rfl)
theorem tc.a_eq (x0:List D0) (x3:ByteArray) (x5:D9) (x6:bY) (x10:Int):tc.a x0 x3 x5 x6 x10=bif (decide (x10< (x5.2.2.1.length:Int)))then(bif (ao x10 (x5.2.2.1.length))then(bif (!(rd (τ:=Y5) x5.2.2.1 x10).2.1)then(bif (ao x10 (x5.2.2.1.length))then(bif (bo ((rd (τ:=Y5) x5.2.2.1 x10).1) x3)then(bif (ao x10 (x6.1.length))then some ((rd (τ:=(.int .i64)) x6.1 x10),true)else none)else tc.a x0 x3 x5 x6 (IntKind.wrap .i64 (x10+1)))else none)else tc.a x0 x3 x5 x6 (IntKind.wrap .i64 (x10+1)))else none)else tc.b x0 x3 x5 x6 0:=
 (ak cfg 247 _ _ _).trans (by kernel_rfl)
theorem tc.b_eq (x0:List D0) (x3:ByteArray) (x5:D9) (x6:bY) (x11:Int):tc.b x0 x3 x5 x6 x11=bif (decide (x11< (x5.2.2.2.1.length:Int)))then(bif (ao x11 (x5.2.2.2.1.length))then(bif (bo ((rd (τ:=(.pair .str .str)) x5.2.2.2.1 x11).1) x3)then(bif (ao x11 (x6.2.2.1.length))then some ((rd (τ:=(.int .i64)) x6.2.2.1 x11),true)else none)else tc.b x0 x3 x5 x6 (IntKind.wrap .i64 (x11+1)))else none)else((wZ x0 x3).bind fun r5=>bif (decide (r5<0))then some (0,false)else(bif (ao r5 (x0.length))then some ((rd (τ:=Y1) x0 r5).2.2.1,true)else none)):=
 (ak cfg 247 _ _ _).trans (by kernel_rfl)
noncomputable def w4 (a0 a1:Int):Option ByteArray:=au cfg 248 [.v (.int .i64 a0),.v (.int .i64 a1)]
noncomputable def w4.a (x0 x1:Int) (x5:List Int) (x6:Int):Option ByteArray:=LA 248 Tryz.f248 [1,1,0,1,0] ⟨25,af [vI 0 x0,vI 1 x1,(5,.v (.own 672)),vI 6 x6],ai [(672,.rows 5 (.int .u8) .no x5)]⟩
theorem KB (a0 a1:Int):w4 a0 a1=w4.a a0 a1 [] 0:=
 (aa cfg 248 _).trans (by kernel_rfl)
theorem w4.a_eq (x0 x1:Int) (x5:List Int) (x6:Int):w4.a x0 x1 x5 x6=bif (decide (x6<x1))then(bif (decide ((IntKind.wrap .u64 ((IntKind.wrap .i64 (8*x6))))<0))then none else(bif (ar ((x5.length)+([(IntKind.wrap .u8 ((lH .u64 (IntKind.wrap .u64 (x0)) (IntKind.wrap .u64 ((IntKind.wrap .i64 (8*x6)))))))].length)) 1)then w4.a x0 x1 (x5++[(IntKind.wrap .u8 ((lH .u64 (IntKind.wrap .u64 (x0)) (IntKind.wrap .u64 ((IntKind.wrap .i64 (8*x6)))))))]) (IntKind.wrap .i64 (x6+1))else none))else some (aC x5):=
 (ak cfg 248 _ _ _).trans (by kernel_rfl)
noncomputable def Rs (a0:cz) (a1:Int):Option Bool:=au cfg 321 [.agg [.int .i64 a0.1,.int .i64 a0.2.1,.int .i64 a0.2.2.1,.int .i64 a0.2.2.2.1,.int .i64 a0.2.2.2.2],.v (.int .i64 a1)]
theorem KC (a0:cz) (a1:Int):Rs a0 a1=(IT a0.1).bind fun r1=>bif (decide (a1=1))then some (decide (a0.1=1))else(av (fun kr7=>bif (decide (a1=2))then kr7 (decide (a1=2))else kr7 (decide (a1=5))) fun(r2:Bool)=>bif r2 then(bif (decide (r1.1=3))then some (!decide (a0.1=4))else some false)else(av (fun kr6=>bif (decide (a1=3))then kr6 (decide (a1=3))else kr6 (decide (a1=6))) fun(r5:Bool)=>bif r5 then some (decide (r1.1=5))else(bif (decide (a1=4))then some (decide (a0.1=2))else(bif (decide (a1=7))then some (decide (a0.1=3))else(bif (decide (a1=8))then some (decide (r1.1=4))else some false))))):=
 (aa cfg 321 _).trans (by kernel_rfl)
noncomputable def OD (a0:Int):Option Int:=au cfg 360 [.v (.int .i64 a0)]
theorem KD (a0:Int):OD a0=(wW a0 12).bind fun r1=>some r1:=
 (aa cfg 360 _).trans (by kernel_rfl)
noncomputable def P3 (a0:Int):Option Int:=au cfg 359 [.v (.int .i64 a0)]
theorem KE (a0:Int):P3 a0=(OD a0).bind fun r1=>some (IntKind.wrap .i64 (a0-r1)):=
 (aa cfg 359 _).trans (by kernel_rfl)
noncomputable def Rt (a0 a1 a2:Int):Option Int:=au cfg 322 [.v (.int .i64 a0),.v (.int .i64 a1),.v (.int .i64 a2)]
theorem KF (a0 a1 a2:Int):Rt a0 a1 a2=bif (decide (a0=1))then((P3 a1).bind fun r1=>some r1)else(av (fun kr11=>bif (decide (a0=2))then kr11 (decide (a0=2))else kr11 (decide (a0=3))) fun(r2:Bool)=>bif r2 then((OD a1).bind fun r3=>some r3)else(bif (decide (a0=4))then((P3 (IntKind.wrap .i64 (a1-a2))).bind fun r4=>some r4)else(bif (decide (a0=5))then(bif (decide (a0=5))then((OD (IntKind.wrap .i64 ((IntKind.wrap .i64 (a1-a2))+4))).bind fun r7=>some r7)else some (IntKind.wrap .i64 (a1-a2)))else(bif (decide (a0=6))then((OD (IntKind.wrap .i64 ((IntKind.wrap .i64 (a1-a2))+4))).bind fun r8=>some r8)else some (IntKind.wrap .i64 (a1-a2)))))):=
 (aa cfg 322 _).trans (by kernel_rfl)
noncomputable def Ru (a0 a1 a2 a3:Int):Option (Int×Int):=au cfg 249 [.v (.int .i64 a0),.v (.int .i64 a1),.v (.int .i64 a2),.v (.int .i64 a3)]
theorem KG (a0 a1 a2 a3:Int):Ru a0 a1 a2 a3=(wX a0).bind fun r1=>bif (!r1.2)then some (0,10)else((Rs r1.1 a1).bind fun r2=>bif (!r2)then some (0,26)else((Rt a1 a2 a3).bind fun r3=>(PZ (r1.1.1,r1.1.2.1,r1.1.2.2.1,r1.1.2.2.2.1,r3)).bind fun r4=>bif (!r4)then some (0,25)else((gX (r1.1.1,r1.1.2.1,r1.1.2.2.1,r1.1.2.2.2.1,r3)).bind fun r5=>some (r5,0)))):=
 (aa cfg 249 _).trans (by kernel_rfl)
noncomputable def Rv (a0:List D0) (a1:D9) (a2:bY) (a3:D8):Option (bY×Int):=au cfg 176 [.v (.list Y1 a0),.agg [.str a1.1,.int .i64 a1.2.1,.list Y5 a1.2.2.1,.list (.pair .str .str) a1.2.2.2.1,.list Y6 a1.2.2.2.2.1,.list (.pair (.int .i64) .bool) a1.2.2.2.2.2],.agg [.list (.int .i64) a2.1,.list .str a2.2.1,.list (.int .i64) a2.2.2.1,.list .str a2.2.2.2],.agg [.int .i64 a3.1,.int .i64 a3.2.1,.int .i64 a3.2.2.1,.str a3.2.2.2.1,.int .i64 a3.2.2.2.2]]
theorem KH (a0:List D0) (a1:D9) (a2:bY) (a3:D8):Rv a0 a1 a2 a3=(tc a0 a1 a2 a3.2.2.2.1).bind fun r1=>bif (!r1.2)then some (a2,23)else(bif (decide (a3.1≥(a1.2.2.1.length:Int)))then(bif (ao (IntKind.wrap .i64 (a3.1-(a1.2.2.1.length:Int))) (a2.2.2.2.length))then(bif (ar (0+(a2.2.2.2.length)) 16)then(bif (decide (0≤0)&&decide (0≤(IntKind.wrap .i64 (8*a3.2.1)))&&decide ((IntKind.wrap .i64 (8*a3.2.1))≤((rd (τ:= .str) a2.2.2.2 (IntKind.wrap .i64 (a3.1-(a1.2.2.1.length:Int)))).size:Int)))then((w4 (IntKind.wrap .i64 (r1.1+a3.2.2.2.2)) 8).bind fun r2=>bif (decide (((rd (τ:= .str) a2.2.2.2 (IntKind.wrap .i64 (a3.1-(a1.2.2.1.length:Int)))).extract (Int.toNat 0) (Int.toNat (IntKind.wrap .i64 (8*a3.2.1)))).size+r2.size≤9223372036854775807))then(bif (decide (0≤(IntKind.wrap .i64 ((IntKind.wrap .i64 (8*a3.2.1))+8)))&&decide ((IntKind.wrap .i64 ((IntKind.wrap .i64 (8*a3.2.1))+8))≤((rd (τ:= .str) a2.2.2.2 (IntKind.wrap .i64 (a3.1-(a1.2.2.1.length:Int)))).size:Int))&&decide (((rd (τ:= .str) a2.2.2.2 (IntKind.wrap .i64 (a3.1-(a1.2.2.1.length:Int)))).size:Int)≤((rd (τ:= .str) a2.2.2.2 (IntKind.wrap .i64 (a3.1-(a1.2.2.1.length:Int)))).size:Int)))then(bif (decide ((((rd (τ:= .str) a2.2.2.2 (IntKind.wrap .i64 (a3.1-(a1.2.2.1.length:Int)))).extract (Int.toNat 0) (Int.toNat (IntKind.wrap .i64 (8*a3.2.1))))++r2).size+((rd (τ:= .str) a2.2.2.2 (IntKind.wrap .i64 (a3.1-(a1.2.2.1.length:Int)))).extract (Int.toNat (IntKind.wrap .i64 ((IntKind.wrap .i64 (8*a3.2.1))+8))) (Int.toNat ((rd (τ:= .str) a2.2.2.2 (IntKind.wrap .i64 (a3.1-(a1.2.2.1.length:Int)))).size:Int))).size≤9223372036854775807))then(bif (ao (IntKind.wrap .i64 (a3.1-(a1.2.2.1.length:Int))) (a2.2.2.2.length))then(letB (a2.2.2.2.set (Int.toNat (IntKind.wrap .i64 (a3.1-(a1.2.2.1.length:Int)))) ((((rd (τ:= .str) a2.2.2.2 (IntKind.wrap .i64 (a3.1-(a1.2.2.1.length:Int)))).extract (Int.toNat 0) (Int.toNat (IntKind.wrap .i64 (8*a3.2.1))))++r2)++((rd (τ:= .str) a2.2.2.2 (IntKind.wrap .i64 (a3.1-(a1.2.2.1.length:Int)))).extract (Int.toNat (IntKind.wrap .i64 ((IntKind.wrap .i64 (8*a3.2.1))+8))) (Int.toNat ((rd (τ:= .str) a2.2.2.2 (IntKind.wrap .i64 (a3.1-(a1.2.2.1.length:Int)))).size:Int))))) fun r3=>some ((a2.1,a2.2.1,a2.2.2.1,r3),0))else none)else none)else none)else none)else none)else none)else none)else(bif (ao a3.1 (a2.2.1.length))then((wY (rd (τ:= .str) a2.2.1 a3.1) (IntKind.wrap .i64 (4*a3.2.1)) 4).bind fun r4=>bif (ao a3.1 (a2.1.length))then((Ru r4 a3.2.2.1 (IntKind.wrap .i64 (r1.1+a3.2.2.2.2)) (IntKind.wrap .i64 ((rd (τ:=(.int .i64)) a2.1 a3.1)+(IntKind.wrap .i64 (4*a3.2.1))))).bind fun r5=>bif (!decide (r5.2=0))then some (a2,r5.2)else(bif (ar (0+(a2.2.1.length)) 16)then(bif (decide (0≤0)&&decide (0≤(IntKind.wrap .i64 (4*a3.2.1)))&&decide ((IntKind.wrap .i64 (4*a3.2.1))≤((rd (τ:= .str) a2.2.1 a3.1).size:Int)))then((w4 r5.1 4).bind fun r6=>bif (decide (((rd (τ:= .str) a2.2.1 a3.1).extract (Int.toNat 0) (Int.toNat (IntKind.wrap .i64 (4*a3.2.1)))).size+r6.size≤9223372036854775807))then(bif (decide (0≤(IntKind.wrap .i64 ((IntKind.wrap .i64 (4*a3.2.1))+4)))&&decide ((IntKind.wrap .i64 ((IntKind.wrap .i64 (4*a3.2.1))+4))≤((rd (τ:= .str) a2.2.1 a3.1).size:Int))&&decide (((rd (τ:= .str) a2.2.1 a3.1).size:Int)≤((rd (τ:= .str) a2.2.1 a3.1).size:Int)))then(bif (decide ((((rd (τ:= .str) a2.2.1 a3.1).extract (Int.toNat 0) (Int.toNat (IntKind.wrap .i64 (4*a3.2.1))))++r6).size+((rd (τ:= .str) a2.2.1 a3.1).extract (Int.toNat (IntKind.wrap .i64 ((IntKind.wrap .i64 (4*a3.2.1))+4))) (Int.toNat ((rd (τ:= .str) a2.2.1 a3.1).size:Int))).size≤9223372036854775807))then(bif (ao a3.1 (a2.2.1.length))then(letB (a2.2.1.set (Int.toNat a3.1) ((((rd (τ:= .str) a2.2.1 a3.1).extract (Int.toNat 0) (Int.toNat (IntKind.wrap .i64 (4*a3.2.1))))++r6)++((rd (τ:= .str) a2.2.1 a3.1).extract (Int.toNat (IntKind.wrap .i64 ((IntKind.wrap .i64 (4*a3.2.1))+4))) (Int.toNat ((rd (τ:= .str) a2.2.1 a3.1).size:Int))))) fun r7=>some ((a2.1,r7,a2.2.2),0))else none)else none)else none)else none)else none)else none))else none)else none)):=
 (aa cfg 176 _).trans (by kernel_rfl)
noncomputable def gf (a0:List D0) (a1 a2:Int×Int×Int) (a3:D9):Option G5:=au cfg 104 [.v (.list Y1 a0),.agg [.int .i64 a1.1,.int .i64 a1.2.1,.int .i64 a1.2.2],.agg [.int .i64 a2.1,.int .i64 a2.2.1,.int .i64 a2.2.2],.agg [.str a3.1,.int .i64 a3.2.1,.list Y5 a3.2.2.1,.list (.pair .str .str) a3.2.2.2.1,.list Y6 a3.2.2.2.2.1,.list (.pair (.int .i64) .bool) a3.2.2.2.2.2]]
noncomputable def gf.a (x0:List D0) (x7:D9) (x8:bY) (x9 x10:Int×Int×Int) (x13:bY) (x14 x15:Int×Int×Int) (x17:Int):Option G5:=LA 104 Tryz.f104 [1,1,1,1,0,1,0] ⟨155,af [vL 0 Y1 x0,vP 7 959,vP 8 1087,vP 9 1215,vP 10 1343,vP 13 1727,vP 14 1855,vP 15 1983,vI 17 x17],ai [(959,.box [.str x7.1,.int .i64 x7.2.1,.list Y5 x7.2.2.1,.list (.pair .str .str) x7.2.2.2.1,.list Y6 x7.2.2.2.2.1,.list (.pair (.int .i64) .bool) x7.2.2.2.2.2]),(1056,.rows 3 (.int .i64) .no x8.1),(1057,.rows 9 .str .no x8.2.1),(1058,.rows 3 (.int .i64) .no x8.2.2.1),(1059,.rows 9 .str .no x8.2.2.2),(1087,.box [.own 1056,.own 1057,.own 1058,.own 1059]),(1215,.box [.int .i64 x9.1,.int .i64 x9.2.1,.int .i64 x9.2.2]),(1343,.box [.int .i64 x10.1,.int .i64 x10.2.1,.int .i64 x10.2.2]),(1727,.box [.list (.int .i64) x13.1,.list .str x13.2.1,.list (.int .i64) x13.2.2.1,.list .str x13.2.2.2]),(1855,.box [.int .i64 x14.1,.int .i64 x14.2.1,.int .i64 x14.2.2]),(1983,.box [.int .i64 x15.1,.int .i64 x15.2.1,.int .i64 x15.2.2])]⟩
noncomputable def gf.b (x0:List D0) (x7:D9) (x8:bY) (x9 x10:Int×Int×Int) (x13:bY) (x14 x15:Int×Int×Int) (x20:List Int) (x21:Int):Option G5:=LA 104 Tryz.f104 [1,1,1,1,1,1,0,1,0] ⟨155,af [vL 0 Y1 x0,vP 7 959,vP 8 1087,vP 9 1215,vP 10 1343,vP 13 1727,vP 14 1855,vP 15 1983,(20,.v (.own 2592)),vI 21 x21],ai [(959,.box [.str x7.1,.int .i64 x7.2.1,.list Y5 x7.2.2.1,.list (.pair .str .str) x7.2.2.2.1,.list Y6 x7.2.2.2.2.1,.list (.pair (.int .i64) .bool) x7.2.2.2.2.2]),(1056,.rows 3 (.int .i64) .no x8.1),(1057,.rows 9 .str .no x8.2.1),(1058,.rows 3 (.int .i64) .no x8.2.2.1),(1059,.rows 9 .str .no x8.2.2.2),(1087,.box [.own 1056,.own 1057,.own 1058,.own 1059]),(1215,.box [.int .i64 x9.1,.int .i64 x9.2.1,.int .i64 x9.2.2]),(1343,.box [.int .i64 x10.1,.int .i64 x10.2.1,.int .i64 x10.2.2]),(1727,.box [.list (.int .i64) x13.1,.list .str x13.2.1,.list (.int .i64) x13.2.2.1,.list .str x13.2.2.2]),(1855,.box [.int .i64 x14.1,.int .i64 x14.2.1,.int .i64 x14.2.2]),(1983,.box [.int .i64 x15.1,.int .i64 x15.2.1,.int .i64 x15.2.2]),(2592,.rows 3 (.int .i64) .no x20)]⟩
noncomputable def gf.c (x7:D9) (x8:bY) (x9 x10:Int×Int×Int) (x13:bY) (x14 x15:Int×Int×Int) (x20:List Int) (x22:Int):Option G5:=LA 104 Tryz.f104 [1,1,1,1,1,1,1,0,1,0] ⟨155,af [vP 7 959,vP 8 1087,vP 9 1215,vP 10 1343,vP 13 1727,vP 14 1855,vP 15 1983,(20,.v (.own 2592)),vI 22 x22],ai [(959,.box [.str x7.1,.int .i64 x7.2.1,.list Y5 x7.2.2.1,.list (.pair .str .str) x7.2.2.2.1,.list Y6 x7.2.2.2.2.1,.list (.pair (.int .i64) .bool) x7.2.2.2.2.2]),(1056,.rows 3 (.int .i64) .no x8.1),(1057,.rows 9 .str .no x8.2.1),(1058,.rows 3 (.int .i64) .no x8.2.2.1),(1059,.rows 9 .str .no x8.2.2.2),(1087,.box [.own 1056,.own 1057,.own 1058,.own 1059]),(1215,.box [.int .i64 x9.1,.int .i64 x9.2.1,.int .i64 x9.2.2]),(1343,.box [.int .i64 x10.1,.int .i64 x10.2.1,.int .i64 x10.2.2]),(1727,.box [.list (.int .i64) x13.1,.list .str x13.2.1,.list (.int .i64) x13.2.2.1,.list .str x13.2.2.2]),(1855,.box [.int .i64 x14.1,.int .i64 x14.2.1,.int .i64 x14.2.2]),(1983,.box [.int .i64 x15.1,.int .i64 x15.2.1,.int .i64 x15.2.2]),(2592,.rows 3 (.int .i64) .no x20)]⟩
noncomputable def gf.d (x7:D9) (x8:bY) (x9 x10:Int×Int×Int) (x13:bY) (x14 x15:Int×Int×Int) (x20:List Int) (x23:Int):Option G5:=LA 104 Tryz.f104 [1,1,1,1,1,1,1,1,0,1,0] ⟨155,af [vP 7 959,vP 8 1087,vP 9 1215,vP 10 1343,vP 13 1727,vP 14 1855,vP 15 1983,(20,.v (.own 2592)),vI 23 x23],ai [(959,.box [.str x7.1,.int .i64 x7.2.1,.list Y5 x7.2.2.1,.list (.pair .str .str) x7.2.2.2.1,.list Y6 x7.2.2.2.2.1,.list (.pair (.int .i64) .bool) x7.2.2.2.2.2]),(1056,.rows 3 (.int .i64) .no x8.1),(1057,.rows 9 .str .no x8.2.1),(1058,.rows 3 (.int .i64) .no x8.2.2.1),(1059,.rows 9 .str .no x8.2.2.2),(1087,.box [.own 1056,.own 1057,.own 1058,.own 1059]),(1215,.box [.int .i64 x9.1,.int .i64 x9.2.1,.int .i64 x9.2.2]),(1343,.box [.int .i64 x10.1,.int .i64 x10.2.1,.int .i64 x10.2.2]),(1727,.box [.list (.int .i64) x13.1,.list .str x13.2.1,.list (.int .i64) x13.2.2.1,.list .str x13.2.2.2]),(1855,.box [.int .i64 x14.1,.int .i64 x14.2.1,.int .i64 x14.2.2]),(1983,.box [.int .i64 x15.1,.int .i64 x15.2.1,.int .i64 x15.2.2]),(2592,.rows 3 (.int .i64) .no x20)]⟩
theorem KI (a0:List D0) (a1 a2:Int×Int×Int) (a3:D9):gf a0 a1 a2 a3=(tb a0 a3).bind fun r1=>bif (!decide (r1=0))then some (([],[],[],[]),(0,0,0),(0,0,0),r1)else((qH a1 a2 a3).bind fun r2=>bif (!r2.2.2.2)then some (([],[],[],[]),(0,0,0),(0,0,0),7)else gf.a a0 a3 ([],[],[],[]) (0,0,0) (0,0,0) r2.1 r2.2.1 r2.2.2.1 0):=
 (aa cfg 104 _).trans (by kernel_rfl)
theorem gf.a_eq (x0:List D0) (x7:D9) (x8:bY) (x9 x10:Int×Int×Int) (x13:bY) (x14 x15:Int×Int×Int) (x17:Int):gf.a x0 x7 x8 x9 x10 x13 x14 x15 x17=bif (decide (x17< (x7.2.2.2.2.1.length:Int)))then(bif (ao x17 (x7.2.2.2.2.1.length))then((Rv x0 x7 x13 (rd (τ:=Y6) x7.2.2.2.2.1 x17)).bind fun r3=>bif (!decide (r3.2=0))then some (([],[],[],[]),(0,0,0),(0,0,0),r3.2)else gf.a x0 x7 x8 x9 x10 r3.1 x14 x15 (IntKind.wrap .i64 (x17+1)))else none)else gf.b x0 x7 x8 x9 x10 x13 x14 x15 [] 0:=
 (ak cfg 104 _ _ _).trans (by kernel_rfl)
theorem gf.b_eq (x0:List D0) (x7:D9) (x8:bY) (x9 x10:Int×Int×Int) (x13:bY) (x14 x15:Int×Int×Int) (x20:List Int) (x21:Int):gf.b x0 x7 x8 x9 x10 x13 x14 x15 x20 x21=bif (decide (x21< (x0.length:Int)))then(bif (ao x21 (x0.length))then(bif (decide ((rd (τ:=Y1) x0 x21).2.1=1))then(bif (ao x21 (x0.length))then(bif (ar ((x20.length)+([(rd (τ:=Y1) x0 x21).2.2.1].length)) 8)then gf.b x0 x7 x8 x9 x10 x13 x14 x15 (x20++[(rd (τ:=Y1) x0 x21).2.2.1]) (IntKind.wrap .i64 (x21+1))else none)else none)else gf.b x0 x7 x8 x9 x10 x13 x14 x15 x20 (IntKind.wrap .i64 (x21+1)))else none)else gf.c x7 x8 x9 x10 x13 x14 x15 x20 0:=
 (ak cfg 104 _ _ _).trans (by kernel_rfl)
theorem gf.c_eq (x7:D9) (x8:bY) (x9 x10:Int×Int×Int) (x13:bY) (x14 x15:Int×Int×Int) (x20:List Int) (x22:Int):gf.c x7 x8 x9 x10 x13 x14 x15 x20 x22=bif (decide (x22< (x7.2.2.1.length:Int)))then(bif (ao x22 (x7.2.2.1.length))then(bif (!(rd (τ:=Y5) x7.2.2.1 x22).2.1)then(bif (ao x22 (x13.1.length))then(bif (ar ((x20.length)+([(rd (τ:=(.int .i64)) x13.1 x22)].length)) 8)then gf.c x7 x8 x9 x10 x13 x14 x15 (x20++[(rd (τ:=(.int .i64)) x13.1 x22)]) (IntKind.wrap .i64 (x22+1))else none)else none)else gf.c x7 x8 x9 x10 x13 x14 x15 x20 (IntKind.wrap .i64 (x22+1)))else none)else gf.d x7 x8 x9 x10 x13 x14 x15 x20 0:=
 (ak cfg 104 _ _ _).trans (by kernel_rfl)
theorem gf.d_eq (x7:D9) (x8:bY) (x9 x10:Int×Int×Int) (x13:bY) (x14 x15:Int×Int×Int) (x20:List Int) (x23:Int):gf.d x7 x8 x9 x10 x13 x14 x15 x20 x23=bif (decide (x23< (x7.2.2.1.length:Int)))then(bif (ao x23 (x13.2.1.length))then(bif (ao x23 (x13.1.length))then(bif (ao x23 (x7.2.2.1.length))then((qN (rd (τ:= .str) x13.2.1 x23) (rd (τ:=(.int .i64)) x13.1 x23) ((rd (τ:=Y5) x7.2.2.1 x23).2.2.1) x20).bind fun r4=>bif (!decide (r4.2=0))then some (([],[],[],[]),(0,0,0),(0,0,0),r4.2)else gf.d x7 x8 x9 x10 x13 x14 x15 x20 (IntKind.wrap .i64 (x23+1)))else none)else none)else none)else some (x13,x14,x15,0):=
 (ak cfg 104 _ _ _).trans (by kernel_rfl)
noncomputable def Df (a0 a1:List Int):Option Bool:=au cfg 177 [.v (.list (.int .i64) a0),.v (.list (.int .i64) a1)]
noncomputable def Df.a (x0 x1:List Int) (x5:Int):Option Bool:=LA 177 Tryz.f177 [1,1,0,1,0] ⟨26,af [vL 0 (.int .i64) x0,vL 1 (.int .i64) x1,vI 5 x5],ai []⟩
theorem KJ (a0 a1:List Int):Df a0 a1=bif (!decide ((a0.length:Int)=(a1.length:Int)))then some false else Df.a a0 a1 0:=
 (aa cfg 177 _).trans (by kernel_rfl)
theorem Df.a_eq (x0 x1:List Int) (x5:Int):Df.a x0 x1 x5=bif (decide (x5< (x0.length:Int)))then(bif (ao x5 (x0.length))then(bif (ao x5 (x1.length))then(bif (!decide ((rd (τ:=(.int .i64)) x0 x5)=(rd (τ:=(.int .i64)) x1 x5)))then some false else Df.a x0 x1 (IntKind.wrap .i64 (x5+1)))else none)else none)else some true:=
 (ak cfg 177 _ _ _).trans (by kernel_rfl)
noncomputable def Dg (a0 a1:List ByteArray):Option Bool:=au cfg 178 [.v (.list .str a0),.v (.list .str a1)]
noncomputable def Dg.a (x0 x1:List ByteArray) (x5:Int):Option Bool:=LA 178 Tryz.f178 [1,1,0,1,0] ⟨26,af [vL 0 .str x0,vL 1 .str x1,vI 5 x5],ai []⟩
theorem KK (a0 a1:List ByteArray):Dg a0 a1=bif (!decide ((a0.length:Int)=(a1.length:Int)))then some false else Dg.a a0 a1 0:=
 (aa cfg 178 _).trans (by kernel_rfl)
theorem Dg.a_eq (x0 x1:List ByteArray) (x5:Int):Dg.a x0 x1 x5=bif (decide (x5< (x0.length:Int)))then(bif (ao x5 (x0.length))then(bif (ao x5 (x1.length))then(bif (!bo (rd (τ:= .str) x0 x5) (rd (τ:= .str) x1 x5))then some false else Dg.a x0 x1 (IntKind.wrap .i64 (x5+1)))else none)else none)else some true:=
 (ak cfg 178 _ _ _).trans (by kernel_rfl)
noncomputable def Rw (a0 a1:bY):Option Bool:=au cfg 105 [.agg [.list (.int .i64) a0.1,.list .str a0.2.1,.list (.int .i64) a0.2.2.1,.list .str a0.2.2.2],.agg [.list (.int .i64) a1.1,.list .str a1.2.1,.list (.int .i64) a1.2.2.1,.list .str a1.2.2.2]]
theorem KL (a0 a1:bY):Rw a0 a1=(Df a0.1 a1.1).bind fun r1=>bif r1 then((Dg a0.2.1 a1.2.1).bind fun r2=>bif r2 then((Df a0.2.2.1 a1.2.2.1).bind fun r3=>bif r3 then((Dg a0.2.2.2 a1.2.2.2).bind fun r4=>some r4)else some false)else some false)else some false:=
 (aa cfg 105 _).trans (by kernel_rfl)
noncomputable def qO (a0:List D0) (a1:D9) (a2:bY) (a3:Int):Option (List D0):=au cfg 179 [.v (.list Y1 a0),.agg [.str a1.1,.int .i64 a1.2.1,.list Y5 a1.2.2.1,.list (.pair .str .str) a1.2.2.2.1,.list Y6 a1.2.2.2.2.1,.list (.pair (.int .i64) .bool) a1.2.2.2.2.2],.agg [.list (.int .i64) a2.1,.list .str a2.2.1,.list (.int .i64) a2.2.2.1,.list .str a2.2.2.2],.v (.int .i64 a3)]
noncomputable def qO.a (x3:Int) (x5:D9) (x6:bY) (x9:List D0) (x10:Int):Option (List D0):=LA 179 Tryz.f179 [1,1,0,1,0] ⟨81,af [vI 3 x3,vP 5 703,vP 6 831,(9,.v (.own 1184)),vI 10 x10],ai [(703,.box [.str x5.1,.int .i64 x5.2.1,.list Y5 x5.2.2.1,.list (.pair .str .str) x5.2.2.2.1,.list Y6 x5.2.2.2.2.1,.list (.pair (.int .i64) .bool) x5.2.2.2.2.2]),(831,.box [.list (.int .i64) x6.1,.list .str x6.2.1,.list (.int .i64) x6.2.2.1,.list .str x6.2.2.2]),(1184,.rows 81 Y1 .no x9)]⟩
noncomputable def qO.b (x3:Int) (x5:D9) (x6:bY) (x9:List D0) (x12:Int):Option (List D0):=LA 179 Tryz.f179 [1,1,1,0,1,0] ⟨81,af [vI 3 x3,vP 5 703,vP 6 831,(9,.v (.own 1184)),vI 12 x12],ai [(703,.box [.str x5.1,.int .i64 x5.2.1,.list Y5 x5.2.2.1,.list (.pair .str .str) x5.2.2.2.1,.list Y6 x5.2.2.2.2.1,.list (.pair (.int .i64) .bool) x5.2.2.2.2.2]),(831,.box [.list (.int .i64) x6.1,.list .str x6.2.1,.list (.int .i64) x6.2.2.1,.list .str x6.2.2.2]),(1184,.rows 81 Y1 .no x9)]⟩
theorem KM (a0:List D0) (a1:D9) (a2:bY) (a3:Int):qO a0 a1 a2 a3=bif (ar (0+(a0.length)) 56)then qO.a a3 a1 a2 a0 0 else none:=
 (aa cfg 179 _).trans (by kernel_rfl)
theorem qO.a_eq (x3:Int) (x5:D9) (x6:bY) (x9:List D0) (x10:Int):qO.a x3 x5 x6 x9 x10=bif (decide (x10< (x5.2.2.1.length:Int)))then(bif (ao x10 (x5.2.2.1.length))then(bif (!(rd (τ:=Y5) x5.2.2.1 x10).2.1)then(bif (ao x10 (x6.1.length))then(bif (ao x10 (x6.2.1.length))then(bif (ar ((x9.length)+([((rd (τ:=Y5) x5.2.2.1 x10).1,1,(rd (τ:=(.int .i64)) x6.1 x10),((rd (τ:= .str) x6.2.1 x10).size:Int),(rd (τ:=Y5) x5.2.2.1 x10).2.2.1,x3)].length)) 56)then qO.a x3 x5 x6 (x9++[((rd (τ:=Y5) x5.2.2.1 x10).1,1,(rd (τ:=(.int .i64)) x6.1 x10),((rd (τ:= .str) x6.2.1 x10).size:Int),(rd (τ:=Y5) x5.2.2.1 x10).2.2.1,x3)]) (IntKind.wrap .i64 (x10+1))else none)else none)else none)else qO.a x3 x5 x6 x9 (IntKind.wrap .i64 (x10+1)))else none)else qO.b x3 x5 x6 x9 0:=
 (ak cfg 179 _ _ _).trans (by kernel_rfl)
theorem qO.b_eq (x3:Int) (x5:D9) (x6:bY) (x9:List D0) (x12:Int):qO.b x3 x5 x6 x9 x12=bif (decide (x12< (x5.2.2.2.1.length:Int)))then(bif (ao x12 (x5.2.2.2.1.length))then(bif (ao x12 (x6.2.2.1.length))then(bif (ao x12 (x6.2.2.2.length))then(bif (ar ((x9.length)+([((rd (τ:=(.pair .str .str)) x5.2.2.2.1 x12).1,2,(rd (τ:=(.int .i64)) x6.2.2.1 x12),((rd (τ:= .str) x6.2.2.2 x12).size:Int),0,x3)].length)) 56)then qO.b x3 x5 x6 (x9++[((rd (τ:=(.pair .str .str)) x5.2.2.2.1 x12).1,2,(rd (τ:=(.int .i64)) x6.2.2.1 x12),((rd (τ:= .str) x6.2.2.2 x12).size:Int),0,x3)]) (IntKind.wrap .i64 (x12+1))else none)else none)else none)else none)else some x9:=
 (ak cfg 179 _ _ _).trans (by kernel_rfl)
noncomputable def Ag (a0:List D1) (a1 a2:Int):Option ByteArray:=au cfg 251 [.agg [.list Y0 a0],.v (.int .i64 a1),.v (.int .i64 a2)]
noncomputable def Ag.a (x1 x2:Int) (x3:List D1) (x7:List Int) (x8:Int):Option ByteArray:=LA 251 Tryz.f251 [1,1,0,1,0] ⟨39,af [vI 1 x1,vI 2 x2,vP 3 447,(7,.v (.own 928)),vI 8 x8],ai [(447,.box [.list Y0 x3]),(928,.rows 5 (.int .u8) .no x7)]⟩
theorem KN (a0:List D1) (a1 a2:Int):Ag a0 a1 a2=Ag.a a1 a2 a0 [] 0:=
 (aa cfg 251 _).trans (by kernel_rfl)
theorem Ag.a_eq (x1 x2:Int) (x3:List D1) (x7:List Int) (x8:Int):Ag.a x1 x2 x3 x7 x8=bif (decide (x8<x2))then((Ae x3 (IntKind.wrap .i64 (x1+x8))).bind fun r1=>bif (ao r1 (x3.length))then(bif (ao (IntKind.wrap .i64 ((IntKind.wrap .i64 (x1+x8))-(rd (τ:=Y0) x3 r1).1)) ((rd (τ:=Y0) x3 r1).2.2).size)then(bif (ar ((x7.length)+([(bt ((rd (τ:=Y0) x3 r1).2.2) (IntKind.wrap .i64 ((IntKind.wrap .i64 (x1+x8))-(rd (τ:=Y0) x3 r1).1)))].length)) 1)then Ag.a x1 x2 x3 (x7++[(bt ((rd (τ:=Y0) x3 r1).2.2) (IntKind.wrap .i64 ((IntKind.wrap .i64 (x1+x8))-(rd (τ:=Y0) x3 r1).1)))]) (IntKind.wrap .i64 (x8+1))else none)else none)else none)else some (aC x7):=
 (ak cfg 251 _ _ _).trans (by kernel_rfl)
noncomputable def Sb (a0 a1:Int):Option cz:=au cfg 253 [.v (.int .i64 a0),.v (.int .i64 a1)]
theorem KO (a0 a1:Int):Sb a0 a1=some (3,0,0,0,(IntKind.wrap .i64 (a1-a0))):=
 (aa cfg 253 _).trans (by kernel_rfl)
noncomputable def qP (a0:List D1) (a1:List D0) (a2:D9) (a3:bY):Option OC:=au cfg 180 [.agg [.list Y0 a0],.v (.list Y1 a1),.agg [.str a2.1,.int .i64 a2.2.1,.list Y5 a2.2.2.1,.list (.pair .str .str) a2.2.2.2.1,.list Y6 a2.2.2.2.2.1,.list (.pair (.int .i64) .bool) a2.2.2.2.2.2],.agg [.list (.int .i64) a3.1,.list .str a3.2.1,.list (.int .i64) a3.2.2.1,.list .str a3.2.2.2]]
noncomputable def qP.a (x1:List D0) (x4:List D1) (x6:D9) (x7:bY) (x8:List D1) (x10:Int):Option OC:=LA 180 Tryz.f180 [1,0,1,0] ⟨83,af [vL 1 Y1 x1,vP 4 575,vP 6 831,vP 7 959,vP 8 1087,vI 10 x10],ai [(575,.box [.list Y0 x4]),(831,.box [.str x6.1,.int .i64 x6.2.1,.list Y5 x6.2.2.1,.list (.pair .str .str) x6.2.2.2.1,.list Y6 x6.2.2.2.2.1,.list (.pair (.int .i64) .bool) x6.2.2.2.2.2]),(959,.box [.list (.int .i64) x7.1,.list .str x7.2.1,.list (.int .i64) x7.2.2.1,.list .str x7.2.2.2]),(1056,.rows 200 Y0 .no x8),(1087,.box [.own 1056])]⟩
noncomputable def qP.b (x1:List D0) (x4:List D1) (x6:D9) (x7:bY) (x8:List D1) (x11:List (Int×Int)) (x12:Int):Option OC:=LA 180 Tryz.f180 [1,1,1,0,1,0] ⟨83,af [vL 1 Y1 x1,vP 4 575,vP 6 831,vP 7 959,vP 8 1087,(11,.v (.own 1440)),vI 12 x12],ai [(575,.box [.list Y0 x4]),(831,.box [.str x6.1,.int .i64 x6.2.1,.list Y5 x6.2.2.1,.list (.pair .str .str) x6.2.2.2.1,.list Y6 x6.2.2.2.2.1,.list (.pair (.int .i64) .bool) x6.2.2.2.2.2]),(959,.box [.list (.int .i64) x7.1,.list .str x7.2.1,.list (.int .i64) x7.2.2.1,.list .str x7.2.2.2]),(1056,.rows 200 Y0 .no x8),(1087,.box [.own 1056]),(1440,.rows 217 Y9 .no x11)]⟩
theorem KP (a0:List D1) (a1:List D0) (a2:D9) (a3:bY):qP a0 a1 a2 a3=qP.a a1 a0 a2 a3 [] 0:=
 (aa cfg 180 _).trans (by kernel_rfl)
theorem qP.a_eq (x1:List D0) (x4:List D1) (x6:D9) (x7:bY) (x8:List D1) (x10:Int):qP.a x1 x4 x6 x7 x8 x10=bif (decide (x10< (x6.2.2.1.length:Int)))then(bif (ao x10 (x7.1.length))then(bif (ao x10 (x7.2.1.length))then((w3 x4 (rd (τ:=(.int .i64)) x7.1 x10) (rd (τ:= .str) x7.2.1 x10)).bind fun r1=>qP.a x1 r1 x6 x7 x8 (IntKind.wrap .i64 (x10+1)))else none)else none)else qP.b x1 x4 x6 x7 x8 [] 0:=
 (ak cfg 180 _ _ _).trans (by kernel_rfl)
theorem qP.b_eq (x1:List D0) (x4:List D1) (x6:D9) (x7:bY) (x8:List D1) (x11:List (Int×Int)) (x12:Int):qP.b x1 x4 x6 x7 x8 x11 x12=bif (decide (x12< (x6.2.2.1.length:Int)))then(bif (ao x12 (x6.2.2.1.length))then(bif (!(rd (τ:=Y5) x6.2.2.1 x12).2.1)then qP.b x1 x4 x6 x7 x8 x11 (IntKind.wrap .i64 (x12+1))else(bif (ao x12 (x6.2.2.1.length))then((wZ x1 ((rd (τ:=Y5) x6.2.2.1 x12).1)).bind fun r2=>bif (ao r2 (x1.length))then((Ag x4 ((rd (τ:=Y1) x1 r2).2.2.1) 4).bind fun r3=>(wY r3 0 4).bind fun r4=>bif (ar ((x11.length)+([((rd (τ:=Y1) x1 r2).2.2.1,r4)].length)) 16)then(bif (ao x12 (x7.1.length))then((Sb ((rd (τ:=Y1) x1 r2).2.2.1) (rd (τ:=(.int .i64)) x7.1 x12)).bind fun r5=>(gX r5).bind fun r6=>(w4 r6 4).bind fun r7=>(w3 x4 ((rd (τ:=Y1) x1 r2).2.2.1) r7).bind fun r8=>qP.b x1 r8 x6 x7 x8 (x11++[((rd (τ:=Y1) x1 r2).2.2.1,r4)]) (IntKind.wrap .i64 (x12+1)))else none)else none)else none)else none))else none)else some (x4,x11):=
 (ak cfg 180 _ _ _).trans (by kernel_rfl)
noncomputable def CQ (a0:rE) (a1:D9) (a2:bY) (a3 a4:Int×Int×Int) (a5:Int):Option R3:=au cfg 106 [.agg [.list Y1 a0.1,.int .i64 a0.2.1.1,.int .i64 a0.2.1.2.1,.int .i64 a0.2.1.2.2,.int .i64 a0.2.2.1.1,.int .i64 a0.2.2.1.2.1,.int .i64 a0.2.2.1.2.2,.list ba a0.2.2.2.1,.list Y0 a0.2.2.2.2],.agg [.str a1.1,.int .i64 a1.2.1,.list Y5 a1.2.2.1,.list (.pair .str .str) a1.2.2.2.1,.list Y6 a1.2.2.2.2.1,.list (.pair (.int .i64) .bool) a1.2.2.2.2.2],.agg [.list (.int .i64) a2.1,.list .str a2.2.1,.list (.int .i64) a2.2.2.1,.list .str a2.2.2.2],.agg [.int .i64 a3.1,.int .i64 a3.2.1,.int .i64 a3.2.2],.agg [.int .i64 a4.1,.int .i64 a4.2.1,.int .i64 a4.2.2],.v (.int .i64 a5)]
noncomputable def CQ.a (x5:Int) (x6:rE) (x7:D9) (x8:bY) (x9 x10:Int×Int×Int) (x12:rE) (x14:List D0) (x15:List cz) (x16:Int):Option R3:=LA 106 Tryz.f106 [1,1,1,0,1,0] ⟨84,af [vI 5 x5,vP 6 831,vP 7 959,vP 8 1087,vP 9 1215,vP 10 1343,vP 12 1599,(14,.v (.own 1824)),(15,.v (.own 1952)),vI 16 x16],ai [(831,.box [.list Y1 x6.1,.int .i64 x6.2.1.1,.int .i64 x6.2.1.2.1,.int .i64 x6.2.1.2.2,.int .i64 x6.2.2.1.1,.int .i64 x6.2.2.1.2.1,.int .i64 x6.2.2.1.2.2,.list ba x6.2.2.2.1,.list Y0 x6.2.2.2.2]),(959,.box [.str x7.1,.int .i64 x7.2.1,.list Y5 x7.2.2.1,.list (.pair .str .str) x7.2.2.2.1,.list Y6 x7.2.2.2.2.1,.list (.pair (.int .i64) .bool) x7.2.2.2.2.2]),(1087,.box [.list (.int .i64) x8.1,.list .str x8.2.1,.list (.int .i64) x8.2.2.1,.list .str x8.2.2.2]),(1215,.box [.int .i64 x9.1,.int .i64 x9.2.1,.int .i64 x9.2.2]),(1343,.box [.int .i64 x10.1,.int .i64 x10.2.1,.int .i64 x10.2.2]),(1568,.rows 81 Y1 .no x12.1),(1569,.rows 116 ba .no x12.2.2.2.1),(1570,.rows 200 Y0 .no x12.2.2.2.2),(1599,.box [.own 1568,.int .i64 x12.2.1.1,.int .i64 x12.2.1.2.1,.int .i64 x12.2.1.2.2,.int .i64 x12.2.2.1.1,.int .i64 x12.2.2.1.2.1,.int .i64 x12.2.2.1.2.2,.own 1569,.own 1570]),(1824,.rows 81 Y1 .no x14),(1952,.rows 116 ba .no x15)]⟩
theorem KQ (a0:rE) (a1:D9) (a2:bY) (a3 a4:Int×Int×Int) (a5:Int):CQ a0 a1 a2 a3 a4 a5=(qO a0.1 a1 a2 a5).bind fun r1=>bif (ar (0+(a0.2.2.2.1.length)) 40)then CQ.a a5 a0 a1 a2 a3 a4 ([],(0,0,0),(0,0,0),[],[]) r1 a0.2.2.2.1 0 else none:=
 (aa cfg 106 _).trans (by kernel_rfl)
theorem CQ.a_eq (x5:Int) (x6:rE) (x7:D9) (x8:bY) (x9 x10:Int×Int×Int) (x12:rE) (x14:List D0) (x15:List cz) (x16:Int):CQ.a x5 x6 x7 x8 x9 x10 x12 x14 x15 x16=bif (decide (x16< (x7.2.2.1.length:Int)))then(bif (ao x16 (x7.2.2.1.length))then((wZ x14 ((rd (τ:=Y5) x7.2.2.1 x16).1)).bind fun r3=>bif (ao x16 (x8.1.length))then(bif (ao x16 (x8.2.1.length))then(bif (ao x16 (x7.2.2.1.length))then(bif (ar ((x15.length)+([(r3,x5,(rd (τ:=(.int .i64)) x8.1 x16),((rd (τ:= .str) x8.2.1 x16).size:Int),(rd (τ:=Y5) x7.2.2.1 x16).2.2.1)].length)) 40)then CQ.a x5 x6 x7 x8 x9 x10 x12 x14 (x15++[(r3,x5,(rd (τ:=(.int .i64)) x8.1 x16),((rd (τ:= .str) x8.2.1 x16).size:Int),(rd (τ:=Y5) x7.2.2.1 x16).2.2.1)]) (IntKind.wrap .i64 (x16+1))else none)else none)else none)else none)else none)else((qP x6.2.2.2.2 x14 x7 x8).bind fun r2=>some ((x14,x9,x10,x15,r2.1),r2.2)):=
 (ak cfg 106 _ _ _).trans (by kernel_rfl)
noncomputable def GF (a0 a1:List (Int×Int)):Option Bool:=au cfg 107 [.v (.list Y9 a0),.v (.list Y9 a1)]
noncomputable def GF.a (x0 x1:List (Int×Int)) (x5:Int):Option Bool:=LA 107 Tryz.f107 [1,1,0,1,0] ⟨26,af [vL 0 Y9 x0,vL 1 Y9 x1,vI 5 x5],ai []⟩
theorem KR (a0 a1:List (Int×Int)):GF a0 a1=bif (!decide ((a0.length:Int)=(a1.length:Int)))then some false else GF.a a0 a1 0:=
 (aa cfg 107 _).trans (by kernel_rfl)
theorem GF.a_eq (x0 x1:List (Int×Int)) (x5:Int):GF.a x0 x1 x5=bif (decide (x5< (x0.length:Int)))then(bif (ao x5 (x0.length))then(bif (ao x5 (x1.length))then(bif (!(ka Y9 (rd (τ:=Y9) x0 x5) (rd (τ:=Y9) x1 x5)))then some false else GF.a x0 x1 (IntKind.wrap .i64 (x5+1)))else none)else none)else some true:=
 (ak cfg 107 _ _ _).trans (by kernel_rfl)
noncomputable def Ah (a0:D3) (a1:List cV) (a2:Bool):Option (rE×Bool):=au cfg 51 [.agg [.str a0.1,.str a0.2.1,.list Y4 a0.2.2],.v (.list bl a1),.v (.bool a2)]
noncomputable def Ah.a (x1:List cV) (x2:Bool) (x6 x8:rE) (x9:Int):Option (rE×Bool):=LA 51 Tryz.f51 [1,1,1,0,1,0] ⟨111,af [vL 1 bl x1,(2,.v (.bool x2)),vP 6 831,vP 8 1087,vI 9 x9],ai [(800,.rows 81 Y1 .no x6.1),(801,.rows 116 ba .no x6.2.2.2.1),(802,.rows 200 Y0 .no x6.2.2.2.2),(831,.box [.own 800,.int .i64 x6.2.1.1,.int .i64 x6.2.1.2.1,.int .i64 x6.2.1.2.2,.int .i64 x6.2.2.1.1,.int .i64 x6.2.2.1.2.1,.int .i64 x6.2.2.1.2.2,.own 801,.own 802]),(1056,.rows 116 ba .no x8.2.2.2.1),(1087,.box [.list Y1 x8.1,.int .i64 x8.2.1.1,.int .i64 x8.2.1.2.1,.int .i64 x8.2.1.2.2,.int .i64 x8.2.2.1.1,.int .i64 x8.2.2.1.2.1,.int .i64 x8.2.2.1.2.2,.own 1056,.list Y0 x8.2.2.2.2])]⟩
theorem KS (a0:D3) (a1:List cV) (a2:Bool):Ah a0 a1 a2=(Ro a0).bind fun r1=>bif (decide ((a1.length:Int)>6))then some (r1,false)else Ah.a a1 a2 ([],(0,0,0),(0,0,0),[],[]) r1 0:=
 (aa cfg 51 _).trans (by kernel_rfl)
theorem Ah.a_eq (x1:List cV) (x2:Bool) (x6 x8:rE) (x9:Int):Ah.a x1 x2 x6 x8 x9=bif (decide (x9< (x1.length:Int)))then(bif (ao x9 (x1.length))then(av (fun kr19=>(Rr ((rd (τ:=bl) x1 x9).1)).bind fun r2=>bif (!r2)then kr19 true else(bif (!decide ((rd (τ:=bl) x1 x9).1.2.1=x9))then kr19 true else(bif (decide (0≤0)&&decide (0≤x9)&&decide (x9≤(x1.length:Int)))then((jf ((x1.take (Int.toNat x9)).drop (Int.toNat 0)) ((rd (τ:=bl) x1 x9).1)).bind fun r3=>kr19 (!decide (r3=0)))else none))) fun(r7:Bool)=>bif r7 then some (x8,false)else((gf x8.1 x8.2.1 x8.2.2.1 ((rd (τ:=bl) x1 x9).1)).bind fun r8=>av (fun kr18=>bif (!decide (r8.2.2.2=0))then kr18 true else((Rw r8.1 ((rd (τ:=bl) x1 x9).2.1)).bind fun r9=>kr18 (!r9))) fun(r11:Bool)=>bif r11 then some (x8,false)else((CQ x8 ((rd (τ:=bl) x1 x9).1) r8.1 r8.2.1 r8.2.2.1 (IntKind.wrap .i64 (x9+1))).bind fun r12=>bif x2 then((GF r12.2 ((rd (τ:=bl) x1 x9).2.2)).bind fun r13=>bif (!r13)then some (x8,false)else(bif (!x2)then(bif (decide ((((rd (τ:=bl) x1 x9).2.2).length:Int)>0))then some (x8,false)else Ah.a x1 x2 x6 r12.1 (IntKind.wrap .i64 (x9+1)))else Ah.a x1 x2 x6 r12.1 (IntKind.wrap .i64 (x9+1))))else(bif (!x2)then(bif (decide ((((rd (τ:=bl) x1 x9).2.2).length:Int)>0))then some (x8,false)else Ah.a x1 x2 x6 r12.1 (IntKind.wrap .i64 (x9+1)))else Ah.a x1 x2 x6 r12.1 (IntKind.wrap .i64 (x9+1))))))else none)else some (x8,true):=
 (ak cfg 51 _ _ _).trans (by kernel_rfl)
noncomputable def GG (a0 a1:List D0):Option Bool:=au cfg 52 [.v (.list Y1 a0),.v (.list Y1 a1)]
noncomputable def GG.a (x0 x1:List D0) (x5:Int):Option Bool:=LA 52 Tryz.f52 [1,1,0,1,0] ⟨26,af [vL 0 Y1 x0,vL 1 Y1 x1,vI 5 x5],ai []⟩
theorem KT (a0 a1:List D0):GG a0 a1=bif (!decide ((a0.length:Int)=(a1.length:Int)))then some false else GG.a a0 a1 0:=
 (aa cfg 52 _).trans (by kernel_rfl)
theorem GG.a_eq (x0 x1:List D0) (x5:Int):GG.a x0 x1 x5=bif (decide (x5< (x0.length:Int)))then(bif (ao x5 (x0.length))then(bif (ao x5 (x1.length))then(bif (!(ka Y1 (rd (τ:=Y1) x0 x5) (rd (τ:=Y1) x1 x5)))then some false else GG.a x0 x1 (IntKind.wrap .i64 (x5+1)))else none)else none)else some true:=
 (ak cfg 52 _ _ _).trans (by kernel_rfl)
noncomputable def Dh (a0 a1:List D1):Option Bool:=au cfg 53 [.agg [.list Y0 a0],.agg [.list Y0 a1]]
noncomputable def Dh.a (x2 x3:List D1) (x5:Int):Option Bool:=LA 53 Tryz.f53 [1,1,0,1,0] ⟨56,af [vP 2 319,vP 3 447,vI 5 x5],ai [(319,.box [.list Y0 x2]),(447,.box [.list Y0 x3])]⟩
theorem KU (a0 a1:List D1):Dh a0 a1=bif (!decide ((a0.length:Int)=(a1.length:Int)))then some false else Dh.a a0 a1 0:=
 (aa cfg 53 _).trans (by kernel_rfl)
theorem Dh.a_eq (x2 x3:List D1) (x5:Int):Dh.a x2 x3 x5=bif (decide (x5< (x2.length:Int)))then(bif (ao x5 (x2.length))then(bif (ao x5 (x3.length))then(bif (!decide ((rd (τ:=Y0) x2 x5).1=(rd (τ:=Y0) x3 x5).1))then some false else(bif (!decide ((rd (τ:=Y0) x2 x5).2.1=(rd (τ:=Y0) x3 x5).2.1))then some false else(bif (decide ((rd (τ:=Y0) x2 x5).2.1=4))then(bif (!bo ((rd (τ:=Y0) x2 x5).2.2) ((rd (τ:=Y0) x3 x5).2.2))then some false else Dh.a x2 x3 (IntKind.wrap .i64 (x5+1)))else Dh.a x2 x3 (IntKind.wrap .i64 (x5+1)))))else none)else none)else some true:=
 (ak cfg 53 _ _ _).trans (by kernel_rfl)
noncomputable def PJ (a0:mh):Option (rE×Bool):=au cfg 22 [.agg [.str a0.1.1,.str a0.1.2.1,.list Y4 a0.1.2.2,.list Y0 a0.2.1.1,.list Y3 a0.2.1.2.1,.list Y1 a0.2.1.2.2.1,.list aV a0.2.1.2.2.2,.list bl a0.2.2]]
theorem KV (a0:mh):PJ a0=av (fun kr12=>(Re a0.1).bind fun r1=>bif (!r1)then kr12 true else((GE a0.2.1).bind fun r2=>kr12 (!r2))) fun(r4:Bool)=>bif r4 then some (([],(0,0,0),(0,0,0),[],[]),false)else((Ah a0.1 a0.2.2 true).bind fun r5=>bif r5.2 then((GG a0.2.1.2.2.1 r5.1.1).bind fun r6=>bif r6 then((Dh a0.2.1.1 r5.1.2.2.2.2).bind fun r7=>some (r5.1,r7))else some (r5.1,false))else some (r5.1,false)):=
 (aa cfg 22 _).trans (by kernel_rfl)
noncomputable def G6 (a0:Int):Option ByteArray:=au cfg 54 [.v (.int .i64 a0)]
theorem ur (a0:Int):G6 a0=bif (decide (a0=(-9223372036854775808)))then some (⟨#[45,57,50,50,51,51,55,50,48,51,54,56,53,52,55,55,53,56,48,56]⟩:ByteArray)else(bif (decide (a0<0))then((G6 (IntKind.wrap .i64 (0-a0))).bind fun r1=>bif (decide ((⟨#[45]⟩:ByteArray).size+r1.size≤9223372036854775807))then some ((⟨#[45]⟩:ByteArray)++r1)else none)else(bif (decide (a0<10))then some (aC [(IntKind.wrap .u8 ((IntKind.wrap .i64 (48+a0))))])else((G6 (IntKind.wrap .i64 (a0.tdiv 10))).bind fun r2=>bif (decide (r2.size+(aC [(IntKind.wrap .u8 ((IntKind.wrap .i64 (48+(a0.tmod 10)))))]).size≤9223372036854775807))then some (r2++(aC [(IntKind.wrap .u8 ((IntKind.wrap .i64 (48+(a0.tmod 10)))))]))else none))):=
 (aa cfg 54 _).trans (by kernel_rfl)
noncomputable def Di (a0:rE) (a1:Int):Option Int:=au cfg 55 [.agg [.list Y1 a0.1,.int .i64 a0.2.1.1,.int .i64 a0.2.1.2.1,.int .i64 a0.2.1.2.2,.int .i64 a0.2.2.1.1,.int .i64 a0.2.2.1.2.1,.int .i64 a0.2.2.1.2.2,.list ba a0.2.2.2.1,.list Y0 a0.2.2.2.2],.v (.int .i64 a1)]
noncomputable def Di.a (x1:Int) (x2:rE) (x5 x6:Int):Option Int:=LA 55 Tryz.f55 [1,1,0,1,0] ⟨35,af [vI 1 x1,vP 2 319,vI 5 x5,vI 6 x6],ai [(319,.box [.list Y1 x2.1,.int .i64 x2.2.1.1,.int .i64 x2.2.1.2.1,.int .i64 x2.2.1.2.2,.int .i64 x2.2.2.1.1,.int .i64 x2.2.2.1.2.1,.int .i64 x2.2.2.1.2.2,.list ba x2.2.2.2.1,.list Y0 x2.2.2.2.2])]⟩
theorem KW (a0:rE) (a1:Int):Di a0 a1=bif (ao a1 (a0.1.length))then Di.a a1 a0 ((rd (τ:=Y1) a0.1 a1).2.2.2.2.2) 0 else none:=
 (aa cfg 55 _).trans (by kernel_rfl)
theorem Di.a_eq (x1:Int) (x2:rE) (x5 x6:Int):Di.a x1 x2 x5 x6=bif (decide (x6< (x2.2.2.2.1.length:Int)))then(bif (ao x6 (x2.2.2.2.1.length))then(bif (decide ((rd (τ:=ba) x2.2.2.2.1 x6).1=x1))then(bif (ao x6 (x2.2.2.2.1.length))then Di.a x1 x2 ((rd (τ:=ba) x2.2.2.2.1 x6).2.1) (IntKind.wrap .i64 (x6+1))else none)else Di.a x1 x2 x5 (IntKind.wrap .i64 (x6+1)))else none)else some x5:=
 (ak cfg 55 _ _ _).trans (by kernel_rfl)
noncomputable def GH (a0:rE):Option (List ByteArray):=au cfg 23 [.agg [.list Y1 a0.1,.int .i64 a0.2.1.1,.int .i64 a0.2.1.2.1,.int .i64 a0.2.1.2.2,.int .i64 a0.2.2.1.1,.int .i64 a0.2.2.1.2.1,.int .i64 a0.2.2.1.2.2,.list ba a0.2.2.2.1,.list Y0 a0.2.2.2.2]]
noncomputable def GH.a (x1:rE) (x3:List ByteArray) (x4:Int):Option (List ByteArray):=LA 23 Tryz.f23 [1,1,0,1,0] ⟨51,af [vP 1 191,(3,.v (.own 416)),vI 4 x4],ai [(191,.box [.list Y1 x1.1,.int .i64 x1.2.1.1,.int .i64 x1.2.1.2.1,.int .i64 x1.2.1.2.2,.int .i64 x1.2.2.1.1,.int .i64 x1.2.2.1.2.1,.int .i64 x1.2.2.1.2.2,.list ba x1.2.2.2.1,.list Y0 x1.2.2.2.2]),(416,.rows 9 .str .no x3)]⟩
theorem KX (a0:rE):GH a0=GH.a a0 [] 0:=
 (aa cfg 23 _).trans (by kernel_rfl)
theorem GH.a_eq (x1:rE) (x3:List ByteArray) (x4:Int):GH.a x1 x3 x4=bif (decide (x4< (x1.1.length:Int)))then(bif (ao x4 (x1.1.length))then(av (fun kr7=>bif (decide ((rd (τ:=Y1) x1.1 x4).2.1=2))then kr7 (⟨#[32,100,97,116,97,32]⟩:ByteArray)else kr7 (⟨#[32,102,117,110,99,32]⟩:ByteArray)) fun(r1:ByteArray)=>bif (decide (((rd (τ:=Y1) x1.1 x4).1).size+r1.size≤9223372036854775807))then((G6 ((rd (τ:=Y1) x1.1 x4).2.2.1)).bind fun r2=>bif (decide ((((rd (τ:=Y1) x1.1 x4).1)++r1).size+r2.size≤9223372036854775807))then(bif (decide (((((rd (τ:=Y1) x1.1 x4).1)++r1)++r2).size+(⟨#[32,115,105,122,101,32]⟩:ByteArray).size≤9223372036854775807))then((G6 ((rd (τ:=Y1) x1.1 x4).2.2.2.1)).bind fun r3=>bif (decide ((((((rd (τ:=Y1) x1.1 x4).1)++r1)++r2)++(⟨#[32,115,105,122,101,32]⟩:ByteArray)).size+r3.size≤9223372036854775807))then(bif (decide (((((((rd (τ:=Y1) x1.1 x4).1)++r1)++r2)++(⟨#[32,115,105,122,101,32]⟩:ByteArray))++r3).size+(⟨#[32,111,119,110,101,114,32]⟩:ByteArray).size≤9223372036854775807))then((G6 ((rd (τ:=Y1) x1.1 x4).2.2.2.2.2)).bind fun r4=>bif (decide ((((((((rd (τ:=Y1) x1.1 x4).1)++r1)++r2)++(⟨#[32,115,105,122,101,32]⟩:ByteArray))++r3)++(⟨#[32,111,119,110,101,114,32]⟩:ByteArray)).size+r4.size≤9223372036854775807))then(bif (decide (((((((((rd (τ:=Y1) x1.1 x4).1)++r1)++r2)++(⟨#[32,115,105,122,101,32]⟩:ByteArray))++r3)++(⟨#[32,111,119,110,101,114,32]⟩:ByteArray))++r4).size+(⟨#[32,118,101,114,115,105,111,110,32]⟩:ByteArray).size≤9223372036854775807))then((Di x1 x4).bind fun r5=>(G6 r5).bind fun r6=>bif (decide ((((((((((rd (τ:=Y1) x1.1 x4).1)++r1)++r2)++(⟨#[32,115,105,122,101,32]⟩:ByteArray))++r3)++(⟨#[32,111,119,110,101,114,32]⟩:ByteArray))++r4)++(⟨#[32,118,101,114,115,105,111,110,32]⟩:ByteArray)).size+r6.size≤9223372036854775807))then(bif (ar ((x3.length)+([((((((((((rd (τ:=Y1) x1.1 x4).1)++r1)++r2)++(⟨#[32,115,105,122,101,32]⟩:ByteArray))++r3)++(⟨#[32,111,119,110,101,114,32]⟩:ByteArray))++r4)++(⟨#[32,118,101,114,115,105,111,110,32]⟩:ByteArray))++r6)].length)) 16)then GH.a x1 (x3++[((((((((((rd (τ:=Y1) x1.1 x4).1)++r1)++r2)++(⟨#[32,115,105,122,101,32]⟩:ByteArray))++r3)++(⟨#[32,111,119,110,101,114,32]⟩:ByteArray))++r4)++(⟨#[32,118,101,114,115,105,111,110,32]⟩:ByteArray))++r6)]) (IntKind.wrap .i64 (x4+1))else none)else none)else none)else none)else none)else none)else none)else none)else none)else none)else some x3:=
 (ak cfg 23 _ _ _).trans (by kernel_rfl)
noncomputable def Rx (a0:mh):Option IO:=au cfg 7 [.agg [.str a0.1.1,.str a0.1.2.1,.list Y4 a0.1.2.2,.list Y0 a0.2.1.1,.list Y3 a0.2.1.2.1,.list Y1 a0.2.1.2.2.1,.list aV a0.2.1.2.2.2,.list bl a0.2.2]]
theorem KY (a0:mh):Rx a0=(PJ a0).bind fun r1=>bif (!r1.2)then some ([],1)else((GH r1.1).bind fun r2=>some (r2,0)):=
 (aa cfg 7 _).trans (by kernel_rfl)
noncomputable def P4 (a0:D2):Option D2:=au cfg 108 [.agg [.str a0.1,.int .i64 a0.2.1,.int .i64 a0.2.2.1,.int .i64 a0.2.2.2.1,.int .i64 a0.2.2.2.2]]
theorem KZ (a0:D2):P4 a0=some a0:=
 (aa cfg 108 _).trans (by kernel_rfl)
noncomputable def Dj (a0:List D2):Option (List D2):=au cfg 56 [.v (.list Y4 a0)]
noncomputable def Dj.a (x0 x3:List D2) (x4:Int):Option (List D2):=LA 56 Tryz.f56 [1,1,0,1,0] ⟨23,af [vL 0 Y4 x0,(3,.v (.own 416)),vI 4 x4],ai [(416,.rows 201 Y4 .no x3)]⟩
theorem K0 (a0:List D2):Dj a0=bif (decide (0≤(a0.length:Int))&&ar (Int.toNat (a0.length:Int)) 48)then Dj.a a0 (List.replicate (Int.toNat (a0.length:Int)) ((⟨#[]⟩:ByteArray),0,0,0,0)) 0 else none:=
 (aa cfg 56 _).trans (by kernel_rfl)
theorem Dj.a_eq (x0 x3:List D2) (x4:Int):Dj.a x0 x3 x4=bif (decide (x4< (x0.length:Int)))then(bif (ao x4 (x0.length))then((P4 (rd (τ:=Y4) x0 x4)).bind fun r1=>bif (ao x4 (x3.length))then Dj.a x0 (x3.set (Int.toNat x4) r1) (IntKind.wrap .i64 (x4+1))else none)else none)else some x3:=
 (ak cfg 56 _ _ _).trans (by kernel_rfl)
noncomputable def P5 (a0:D3):Option D3:=au cfg 24 [.agg [.str a0.1,.str a0.2.1,.list Y4 a0.2.2]]
theorem K3 (a0:D3):P5 a0=(Dj a0.2.2).bind fun r1=>some (a0.1,a0.2.1,r1):=
 (aa cfg 24 _).trans (by kernel_rfl)
noncomputable def P6 (a0:D1):Option D1:=au cfg 181 [.agg [.int .i64 a0.1,.int .i64 a0.2.1,.str a0.2.2]]
theorem K4 (a0:D1):P6 a0=some a0:=
 (aa cfg 181 _).trans (by kernel_rfl)
noncomputable def Dk (a0:List D1):Option (List D1):=au cfg 109 [.v (.list Y0 a0)]
noncomputable def Dk.a (x0 x3:List D1) (x4:Int):Option (List D1):=LA 109 Tryz.f109 [1,1,0,1,0] ⟨23,af [vL 0 Y0 x0,(3,.v (.own 416)),vI 4 x4],ai [(416,.rows 200 Y0 .no x3)]⟩
theorem K5 (a0:List D1):Dk a0=bif (decide (0≤(a0.length:Int))&&ar (Int.toNat (a0.length:Int)) 32)then Dk.a a0 (List.replicate (Int.toNat (a0.length:Int)) (0,0,(⟨#[]⟩:ByteArray))) 0 else none:=
 (aa cfg 109 _).trans (by kernel_rfl)
theorem Dk.a_eq (x0 x3:List D1) (x4:Int):Dk.a x0 x3 x4=bif (decide (x4< (x0.length:Int)))then(bif (ao x4 (x0.length))then((P6 (rd (τ:=Y0) x0 x4)).bind fun r1=>bif (ao x4 (x3.length))then Dk.a x0 (x3.set (Int.toNat x4) r1) (IntKind.wrap .i64 (x4+1))else none)else none)else some x3:=
 (ak cfg 109 _ _ _).trans (by kernel_rfl)
noncomputable def P7 (a0:List D1):Option (List D1):=au cfg 57 [.agg [.list Y0 a0]]
theorem K6 (a0:List D1):P7 a0=(Dk a0).bind fun r1=>some r1:=
 (aa cfg 57 _).trans (by kernel_rfl)
noncomputable def Ai (a0:List Int):Option (List Int):=au cfg 254 [.agg [.seg (.int .i64) 32 a0]]
noncomputable def Ai.a (x1 x2 x3:List Int) (x4:Int):Option (List Int):=LA 254 Tryz.f254 [1,1,0,1,0] ⟨15,af [vP 1 191,vP 2 319,vP 3 447,vI 4 x4],ai [(191,.box [.seg (.int .i64) 32 x1]),(319,.box [.seg (.int .i64) 32 x2]),(447,.box [.seg (.int .i64) 32 x3])]⟩
theorem K7 (a0:List Int):Ai a0=Ai.a a0 [0,0,0,0,0,0,0,0,0,0,0,0,0,0,0,0,0,0,0,0,0,0,0,0,0,0,0,0,0,0,0,0] [0,0,0,0,0,0,0,0,0,0,0,0,0,0,0,0,0,0,0,0,0,0,0,0,0,0,0,0,0,0,0,0] 0:=
 (aa cfg 254 _).trans (by kernel_rfl)
theorem Ai.a_eq (x1 x2 x3:List Int) (x4:Int):Ai.a x1 x2 x3 x4=bif (decide (x4<32))then(bif (ao x4 32)then(bif (ao x4 32)then Ai.a x1 x2 (x3.set (Int.toNat x4) (rd (τ:=(.int .i64)) x1 x4)) (IntKind.wrap .i64 (x4+1))else none)else none)else some x3:=
 (ak cfg 254 _ _ _).trans (by kernel_rfl)
noncomputable def P8 (a0:List Int×Int):Option (List Int×Int):=au cfg 182 [.agg [.seg (.int .i64) 32 a0.1,.int .i64 a0.2]]
theorem K8 (a0:List Int×Int):P8 a0=(Ai a0.1).bind fun r1=>some (r1,a0.2):=
 (aa cfg 182 _).trans (by kernel_rfl)
noncomputable def Aj (a0:List Int):Option (List Int):=au cfg 183 [.v (.list (.int .i64) a0)]
noncomputable def Aj.a (x0 x3:List Int) (x4:Int):Option (List Int):=LA 183 Tryz.f183 [1,1,0,1,0] ⟨22,af [vL 0 (.int .i64) x0,(3,.v (.own 416)),vI 4 x4],ai [(416,.rows 3 (.int .i64) .no x3)]⟩
theorem K9 (a0:List Int):Aj a0=bif (decide (0≤(a0.length:Int))&&ar (Int.toNat (a0.length:Int)) 8)then Aj.a a0 (List.replicate (Int.toNat (a0.length:Int)) (0:Int)) 0 else none:=
 (aa cfg 183 _).trans (by kernel_rfl)
theorem Aj.a_eq (x0 x3:List Int) (x4:Int):Aj.a x0 x3 x4=bif (decide (x4< (x0.length:Int)))then(bif (ao x4 (x0.length))then(bif (ao x4 (x3.length))then Aj.a x0 (x3.set (Int.toNat x4) (rd (τ:=(.int .i64)) x0 x4)) (IntKind.wrap .i64 (x4+1))else none)else none)else some x3:=
 (ak cfg 183 _ _ _).trans (by kernel_rfl)
noncomputable def P9 (a0:D4):Option D4:=au cfg 110 [.agg [.int .i64 a0.1,.seg (.int .i64) 32 a0.2.1.1,.int .i64 a0.2.1.2,.list (.int .i64) a0.2.2.1,.int .i64 a0.2.2.2]]
theorem La (a0:D4):P9 a0=(P8 a0.2.1).bind fun r1=>(Aj a0.2.2.1).bind fun r2=>some (a0.1,r1,r2,a0.2.2.2):=
 (aa cfg 110 _).trans (by kernel_rfl)
noncomputable def Dl (a0:List D4):Option (List D4):=au cfg 58 [.v (.list Y3 a0)]
noncomputable def Dl.a (x0 x3:List D4) (x4:Int):Option (List D4):=LA 58 Tryz.f58 [1,1,0,1,0] ⟨23,af [vL 0 Y3 x0,(3,.v (.own 416)),vI 4 x4],ai [(416,.rows 189 Y3 (.pair .no (.pair .no (.pair (.own 3 .no) .no))) x3)]⟩
theorem Lb (a0:List D4):Dl a0=bif (decide (0≤(a0.length:Int))&&ar (Int.toNat (a0.length:Int)) 304)then Dl.a a0 (List.replicate (Int.toNat (a0.length:Int)) (0,([0,0,0,0,0,0,0,0,0,0,0,0,0,0,0,0,0,0,0,0,0,0,0,0,0,0,0,0,0,0,0,0],0),[],0)) 0 else none:=
 (aa cfg 58 _).trans (by kernel_rfl)
theorem Dl.a_eq (x0 x3:List D4) (x4:Int):Dl.a x0 x3 x4=bif (decide (x4< (x0.length:Int)))then(bif (ao x4 (x0.length))then((P9 (rd (τ:=Y3) x0 x4)).bind fun r1=>bif (ao x4 (x3.length))then Dl.a x0 (x3.set (Int.toNat x4) r1) (IntKind.wrap .i64 (x4+1))else none)else none)else some x3:=
 (ak cfg 58 _ _ _).trans (by kernel_rfl)
noncomputable def Qa (a0:D0):Option D0:=au cfg 111 [.agg [.str a0.1,.int .i64 a0.2.1,.int .i64 a0.2.2.1,.int .i64 a0.2.2.2.1,.int .i64 a0.2.2.2.2.1,.int .i64 a0.2.2.2.2.2]]
theorem Lc (a0:D0):Qa a0=some a0:=
 (aa cfg 111 _).trans (by kernel_rfl)
noncomputable def Dm (a0:List D0):Option (List D0):=au cfg 59 [.v (.list Y1 a0)]
noncomputable def Dm.a (x0 x3:List D0) (x4:Int):Option (List D0):=LA 59 Tryz.f59 [1,1,0,1,0] ⟨23,af [vL 0 Y1 x0,(3,.v (.own 416)),vI 4 x4],ai [(416,.rows 81 Y1 .no x3)]⟩
theorem Ld (a0:List D0):Dm a0=bif (decide (0≤(a0.length:Int))&&ar (Int.toNat (a0.length:Int)) 56)then Dm.a a0 (List.replicate (Int.toNat (a0.length:Int)) ((⟨#[]⟩:ByteArray),0,0,0,0,0)) 0 else none:=
 (aa cfg 59 _).trans (by kernel_rfl)
theorem Dm.a_eq (x0 x3:List D0) (x4:Int):Dm.a x0 x3 x4=bif (decide (x4< (x0.length:Int)))then(bif (ao x4 (x0.length))then((Qa (rd (τ:=Y1) x0 x4)).bind fun r1=>bif (ao x4 (x3.length))then Dm.a x0 (x3.set (Int.toNat x4) r1) (IntKind.wrap .i64 (x4+1))else none)else none)else some x3:=
 (ak cfg 59 _ _ _).trans (by kernel_rfl)
noncomputable def Qb (a0:Int×Int×Int):Option (Int×Int×Int):=au cfg 112 [.agg [.int .i64 a0.1,.int .i64 a0.2.1,.int .i64 a0.2.2]]
theorem Lf (a0:Int×Int×Int):Qb a0=some a0:=
 (aa cfg 112 _).trans (by kernel_rfl)
noncomputable def Dn (a0:List (Int×Int×Int)):Option (List (Int×Int×Int)):=au cfg 60 [.v (.list aV a0)]
noncomputable def Dn.a (x0 x3:List (Int×Int×Int)) (x4:Int):Option (List (Int×Int×Int)):=LA 60 Tryz.f60 [1,1,0,1,0] ⟨23,af [vL 0 aV x0,(3,.v (.own 416)),vI 4 x4],ai [(416,.rows 207 aV .no x3)]⟩
theorem Lg (a0:List (Int×Int×Int)):Dn a0=bif (decide (0≤(a0.length:Int))&&ar (Int.toNat (a0.length:Int)) 24)then Dn.a a0 (List.replicate (Int.toNat (a0.length:Int)) (0,0,0)) 0 else none:=
 (aa cfg 60 _).trans (by kernel_rfl)
theorem Dn.a_eq (x0 x3:List (Int×Int×Int)) (x4:Int):Dn.a x0 x3 x4=bif (decide (x4< (x0.length:Int)))then(bif (ao x4 (x0.length))then((Qb (rd (τ:=aV) x0 x4)).bind fun r1=>bif (ao x4 (x3.length))then Dn.a x0 (x3.set (Int.toNat x4) r1) (IntKind.wrap .i64 (x4+1))else none)else none)else some x3:=
 (ak cfg 60 _ _ _).trans (by kernel_rfl)
noncomputable def Qc (a0:D5):Option D5:=au cfg 25 [.agg [.list Y0 a0.1,.list Y3 a0.2.1,.list Y1 a0.2.2.1,.list aV a0.2.2.2]]
theorem Lh (a0:D5):Qc a0=(P7 a0.1).bind fun r1=>(Dl a0.2.1).bind fun r2=>(Dm a0.2.2.1).bind fun r3=>(Dn a0.2.2.2).bind fun r4=>some (r1,r2,r3,r4):=
 (aa cfg 25 _).trans (by kernel_rfl)
noncomputable def Qd (a0:D6):Option D6:=au cfg 255 [.agg [.str a0.1,.bool a0.2.1,.int .i64 a0.2.2.1,.str a0.2.2.2]]
theorem Li (a0:D6):Qd a0=some a0:=
 (aa cfg 255 _).trans (by kernel_rfl)
noncomputable def Do (a0:List D6):Option (List D6):=au cfg 184 [.v (.list Y5 a0)]
noncomputable def Do.a (x0 x3:List D6) (x4:Int):Option (List D6):=LA 184 Tryz.f184 [1,1,0,1,0] ⟨23,af [vL 0 Y5 x0,(3,.v (.own 416)),vI 4 x4],ai [(416,.rows 106 Y5 .no x3)]⟩
theorem Lj (a0:List D6):Do a0=bif (decide (0≤(a0.length:Int))&&ar (Int.toNat (a0.length:Int)) 48)then Do.a a0 (List.replicate (Int.toNat (a0.length:Int)) ((⟨#[]⟩:ByteArray),false,0,(⟨#[]⟩:ByteArray))) 0 else none:=
 (aa cfg 184 _).trans (by kernel_rfl)
theorem Do.a_eq (x0 x3:List D6) (x4:Int):Do.a x0 x3 x4=bif (decide (x4< (x0.length:Int)))then(bif (ao x4 (x0.length))then((Qd (rd (τ:=Y5) x0 x4)).bind fun r1=>bif (ao x4 (x3.length))then Do.a x0 (x3.set (Int.toNat x4) r1) (IntKind.wrap .i64 (x4+1))else none)else none)else some x3:=
 (ak cfg 184 _ _ _).trans (by kernel_rfl)
noncomputable def Qe (a0:D7):Option D7:=au cfg 256 [.agg [.str a0.1,.str a0.2]]
theorem Lk (a0:D7):Qe a0=some a0:=
 (aa cfg 256 _).trans (by kernel_rfl)
noncomputable def Dp (a0:List D7):Option (List D7):=au cfg 185 [.v (.list (.pair .str .str) a0)]
noncomputable def Dp.a (x0 x3:List D7) (x4:Int):Option (List D7):=LA 185 Tryz.f185 [1,1,0,1,0] ⟨23,af [vL 0 (.pair .str .str) x0,(3,.v (.own 416)),vI 4 x4],ai [(416,.rows 108 (.pair .str .str) .no x3)]⟩
theorem Ll (a0:List D7):Dp a0=bif (decide (0≤(a0.length:Int))&&ar (Int.toNat (a0.length:Int)) 32)then Dp.a a0 (List.replicate (Int.toNat (a0.length:Int)) ((⟨#[]⟩:ByteArray),(⟨#[]⟩:ByteArray))) 0 else none:=
 (aa cfg 185 _).trans (by kernel_rfl)
theorem Dp.a_eq (x0 x3:List D7) (x4:Int):Dp.a x0 x3 x4=bif (decide (x4< (x0.length:Int)))then(bif (ao x4 (x0.length))then((Qe (rd (τ:=(.pair .str .str)) x0 x4)).bind fun r1=>bif (ao x4 (x3.length))then Dp.a x0 (x3.set (Int.toNat x4) r1) (IntKind.wrap .i64 (x4+1))else none)else none)else some x3:=
 (ak cfg 185 _ _ _).trans (by kernel_rfl)
noncomputable def Qf (a0:D8):Option D8:=au cfg 257 [.agg [.int .i64 a0.1,.int .i64 a0.2.1,.int .i64 a0.2.2.1,.str a0.2.2.2.1,.int .i64 a0.2.2.2.2]]
theorem Lm (a0:D8):Qf a0=some a0:=
 (aa cfg 257 _).trans (by kernel_rfl)
noncomputable def Dq (a0:List D8):Option (List D8):=au cfg 186 [.v (.list Y6 a0)]
noncomputable def Dq.a (x0 x3:List D8) (x4:Int):Option (List D8):=LA 186 Tryz.f186 [1,1,0,1,0] ⟨23,af [vL 0 Y6 x0,(3,.v (.own 416)),vI 4 x4],ai [(416,.rows 229 Y6 .no x3)]⟩
theorem Ln (a0:List D8):Dq a0=bif (decide (0≤(a0.length:Int))&&ar (Int.toNat (a0.length:Int)) 48)then Dq.a a0 (List.replicate (Int.toNat (a0.length:Int)) (0,0,0,(⟨#[]⟩:ByteArray),0)) 0 else none:=
 (aa cfg 186 _).trans (by kernel_rfl)
theorem Dq.a_eq (x0 x3:List D8) (x4:Int):Dq.a x0 x3 x4=bif (decide (x4< (x0.length:Int)))then(bif (ao x4 (x0.length))then((Qf (rd (τ:=Y6) x0 x4)).bind fun r1=>bif (ao x4 (x3.length))then Dq.a x0 (x3.set (Int.toNat x4) r1) (IntKind.wrap .i64 (x4+1))else none)else none)else some x3:=
 (ak cfg 186 _ _ _).trans (by kernel_rfl)
noncomputable def Qg (a0:Int×Bool):Option (Int×Bool):=au cfg 258 [.agg [.int .i64 a0.1,.bool a0.2]]
theorem Lo (a0:Int×Bool):Qg a0=some a0:=
 (aa cfg 258 _).trans (by kernel_rfl)
noncomputable def Dr (a0:List (Int×Bool)):Option (List (Int×Bool)):=au cfg 187 [.v (.list (.pair (.int .i64) .bool) a0)]
noncomputable def Dr.a (x0 x3:List (Int×Bool)) (x4:Int):Option (List (Int×Bool)):=LA 187 Tryz.f187 [1,1,0,1,0] ⟨23,af [vL 0 (.pair (.int .i64) .bool) x0,(3,.v (.own 416)),vI 4 x4],ai [(416,.rows 231 (.pair (.int .i64) .bool) .no x3)]⟩
theorem Lq (a0:List (Int×Bool)):Dr a0=bif (decide (0≤(a0.length:Int))&&ar (Int.toNat (a0.length:Int)) 16)then Dr.a a0 (List.replicate (Int.toNat (a0.length:Int)) (0,false)) 0 else none:=
 (aa cfg 187 _).trans (by kernel_rfl)
theorem Dr.a_eq (x0 x3:List (Int×Bool)) (x4:Int):Dr.a x0 x3 x4=bif (decide (x4< (x0.length:Int)))then(bif (ao x4 (x0.length))then((Qg (rd (τ:=(.pair (.int .i64) .bool)) x0 x4)).bind fun r1=>bif (ao x4 (x3.length))then Dr.a x0 (x3.set (Int.toNat x4) r1) (IntKind.wrap .i64 (x4+1))else none)else none)else some x3:=
 (ak cfg 187 _ _ _).trans (by kernel_rfl)
noncomputable def Qh (a0:D9):Option D9:=au cfg 113 [.agg [.str a0.1,.int .i64 a0.2.1,.list Y5 a0.2.2.1,.list (.pair .str .str) a0.2.2.2.1,.list Y6 a0.2.2.2.2.1,.list (.pair (.int .i64) .bool) a0.2.2.2.2.2]]
theorem Lr (a0:D9):Qh a0=(Do a0.2.2.1).bind fun r1=>(Dp a0.2.2.2.1).bind fun r2=>(Dq a0.2.2.2.2.1).bind fun r3=>(Dr a0.2.2.2.2.2).bind fun r4=>some (a0.1,a0.2.1,r1,r2,r3,r4):=
 (aa cfg 113 _).trans (by kernel_rfl)
noncomputable def CR (a0:List ByteArray):Option (List ByteArray):=au cfg 188 [.v (.list .str a0)]
noncomputable def CR.a (x0 x3:List ByteArray) (x4:Int):Option (List ByteArray):=LA 188 Tryz.f188 [1,1,0,1,0] ⟨22,af [vL 0 .str x0,(3,.v (.own 416)),vI 4 x4],ai [(416,.rows 9 .str .no x3)]⟩
theorem Ls (a0:List ByteArray):CR a0=bif (decide (0≤(a0.length:Int))&&ar (Int.toNat (a0.length:Int)) 16)then CR.a a0 (List.replicate (Int.toNat (a0.length:Int)) (⟨#[]⟩:ByteArray)) 0 else none:=
 (aa cfg 188 _).trans (by kernel_rfl)
theorem CR.a_eq (x0 x3:List ByteArray) (x4:Int):CR.a x0 x3 x4=bif (decide (x4< (x0.length:Int)))then(bif (ao x4 (x0.length))then(bif (ao x4 (x3.length))then CR.a x0 (x3.set (Int.toNat x4) (rd (τ:= .str) x0 x4)) (IntKind.wrap .i64 (x4+1))else none)else none)else some x3:=
 (ak cfg 188 _ _ _).trans (by kernel_rfl)
noncomputable def Qi (a0:bY):Option bY:=au cfg 114 [.agg [.list (.int .i64) a0.1,.list .str a0.2.1,.list (.int .i64) a0.2.2.1,.list .str a0.2.2.2]]
theorem Lt (a0:bY):Qi a0=(Aj a0.1).bind fun r1=>(CR a0.2.1).bind fun r2=>(Aj a0.2.2.1).bind fun r3=>(CR a0.2.2.2).bind fun r4=>some (r1,r2,r3,r4):=
 (aa cfg 114 _).trans (by kernel_rfl)
noncomputable def Qj (a0:Int×Int):Option (Int×Int):=au cfg 189 [.agg [.int .i64 a0.1,.int .i64 a0.2]]
theorem Lu (a0:Int×Int):Qj a0=some a0:=
 (aa cfg 189 _).trans (by kernel_rfl)
noncomputable def Ds (a0:List (Int×Int)):Option (List (Int×Int)):=au cfg 115 [.v (.list Y9 a0)]
noncomputable def Ds.a (x0 x3:List (Int×Int)) (x4:Int):Option (List (Int×Int)):=LA 115 Tryz.f115 [1,1,0,1,0] ⟨23,af [vL 0 Y9 x0,(3,.v (.own 416)),vI 4 x4],ai [(416,.rows 217 Y9 .no x3)]⟩
theorem Lv (a0:List (Int×Int)):Ds a0=bif (decide (0≤(a0.length:Int))&&ar (Int.toNat (a0.length:Int)) 16)then Ds.a a0 (List.replicate (Int.toNat (a0.length:Int)) (0,0)) 0 else none:=
 (aa cfg 115 _).trans (by kernel_rfl)
theorem Ds.a_eq (x0 x3:List (Int×Int)) (x4:Int):Ds.a x0 x3 x4=bif (decide (x4< (x0.length:Int)))then(bif (ao x4 (x0.length))then((Qj (rd (τ:=Y9) x0 x4)).bind fun r1=>bif (ao x4 (x3.length))then Ds.a x0 (x3.set (Int.toNat x4) r1) (IntKind.wrap .i64 (x4+1))else none)else none)else some x3:=
 (ak cfg 115 _ _ _).trans (by kernel_rfl)
noncomputable def Qk (a0:cV):Option cV:=au cfg 61 [.agg [.str a0.1.1,.int .i64 a0.1.2.1,.list Y5 a0.1.2.2.1,.list (.pair .str .str) a0.1.2.2.2.1,.list Y6 a0.1.2.2.2.2.1,.list (.pair (.int .i64) .bool) a0.1.2.2.2.2.2,.list (.int .i64) a0.2.1.1,.list .str a0.2.1.2.1,.list (.int .i64) a0.2.1.2.2.1,.list .str a0.2.1.2.2.2,.list Y9 a0.2.2]]
theorem Lw (a0:cV):Qk a0=(Qh a0.1).bind fun r1=>(Qi a0.2.1).bind fun r2=>(Ds a0.2.2).bind fun r3=>some (r1,r2,r3):=
 (aa cfg 61 _).trans (by kernel_rfl)
noncomputable def Dt (a0:List cV):Option (List cV):=au cfg 26 [.v (.list bl a0)]
noncomputable def Dt.a (x0 x3:List cV) (x4:Int):Option (List cV):=LA 26 Tryz.f26 [1,1,0,1,0] ⟨23,af [vL 0 bl x0,(3,.v (.own 416)),vI 4 x4],ai [(416,.rows 104 bl (.pair (.pair .no (.pair .no (.pair (.own 106 .no) (.pair (.own 108 .no) (.pair (.own 229 .no) (.own 231 .no)))))) (.pair (.pair (.own 3 .no) (.pair (.own 9 .no) (.pair (.own 3 .no) (.own 9 .no)))) (.own 217 .no))) x3)]⟩
theorem Lx (a0:List cV):Dt a0=bif (decide (0≤(a0.length:Int))&&ar (Int.toNat (a0.length:Int)) 240)then Dt.a a0 (List.replicate (Int.toNat (a0.length:Int)) (((⟨#[]⟩:ByteArray),0,[],[],[],[]),([],[],[],[]),[])) 0 else none:=
 (aa cfg 26 _).trans (by kernel_rfl)
theorem Dt.a_eq (x0 x3:List cV) (x4:Int):Dt.a x0 x3 x4=bif (decide (x4< (x0.length:Int)))then(bif (ao x4 (x0.length))then((Qk (rd (τ:=bl) x0 x4)).bind fun r1=>bif (ao x4 (x3.length))then Dt.a x0 (x3.set (Int.toNat x4) r1) (IntKind.wrap .i64 (x4+1))else none)else none)else some x3:=
 (ak cfg 26 _ _ _).trans (by kernel_rfl)
noncomputable def GI (a0:mh):Option mh:=au cfg 8 [.agg [.str a0.1.1,.str a0.1.2.1,.list Y4 a0.1.2.2,.list Y0 a0.2.1.1,.list Y3 a0.2.1.2.1,.list Y1 a0.2.1.2.2.1,.list aV a0.2.1.2.2.2,.list bl a0.2.2]]
theorem Ly (a0:mh):GI a0=(P5 a0.1).bind fun r1=>(Qc a0.2.1).bind fun r2=>(Dt a0.2.2).bind fun r3=>some (r1,r2,r3):=
 (aa cfg 8 _).trans (by kernel_rfl)
noncomputable def gg (a0 a1 a2:Int):Option Bool:=au cfg 145 [.v (.int .i64 a0),.v (.int .i64 a1),.v (.int .i64 a2)]
theorem zi (a0 a1 a2:Int):gg a0 a1 a2=bif (decide (a1≤a0))then some (decide (a0≤a2))else some false:=
 (aa cfg 145 _).trans (by kernel_rfl)
noncomputable def PL (a0:Int):Option Bool:=au cfg 332 [.v (.int .u8 a0)]
theorem GJ (a0:Int):PL a0=bif (decide (a0≥97))then(bif (decide (a0≤122))then some true else(bif (decide (a0≥65))then(bif (decide (a0≤90))then some true else some (decide (a0=95)))else some (decide (a0=95))))else(bif (decide (a0≥65))then(bif (decide (a0≤90))then some true else some (decide (a0=95)))else some (decide (a0=95))):=
 (aa cfg 332 _).trans (by kernel_rfl)
noncomputable def Ql (a0:Int):Option Bool:=au cfg 333 [.v (.int .u8 a0)]
theorem GK (a0:Int):Ql a0=bif (decide (a0≥48))then some (decide (a0≤57))else some false:=
 (aa cfg 333 _).trans (by kernel_rfl)
noncomputable def oD (a0:ByteArray):Option Bool:=au cfg 265 [.v (.str a0)]
noncomputable def oD.a (x0:ByteArray) (x3:Int):Option Bool:=LA 265 Tryz.f265 [1,1,0,1,0] ⟨32,af [(0,.v (.str x0)),vI 3 x3],ai []⟩
theorem GL (a0:ByteArray):oD a0=(gg (a0.size:Int) 1 20).bind fun r1=>bif (!r1)then some false else(bif (ao 0 a0.size)then((PL (bt a0 0)).bind fun r2=>bif (!r2)then some false else oD.a a0 1)else none):=
 (aa cfg 265 _).trans (by kernel_rfl)
theorem oD.a_eq (x0:ByteArray) (x3:Int):oD.a x0 x3=bif (decide (x3< (x0.size:Int)))then(bif (ao x3 x0.size)then((PL (bt x0 x3)).bind fun r5=>bif (!r5)then(bif (ao x3 x0.size)then((Ql (bt x0 x3)).bind fun r6=>bif (!r6)then some false else oD.a x0 (IntKind.wrap .i64 (x3+1)))else none)else oD.a x0 (IntKind.wrap .i64 (x3+1)))else none)else some true:=
 (ak cfg 265 _ _ _).trans (by kernel_rfl)
noncomputable def Du (a0:D3) (a1:Int) (a2:Int×Int):Option (Int×Int×Int):=au cfg 259 [.agg [.str a0.1,.str a0.2.1,.list Y4 a0.2.2],.v (.int .i64 a1),.agg [.int .i64 a2.1,.int .i64 a2.2]]
noncomputable def Du.a (x2:Int×Int) (x3:D3) (x7:D2) (x22:List D2) (x23 x24:Int):Option (Int×Int×Int):=LA 259 Tryz.f259 [1,1,1,0,1,0] ⟨113,af [vP 2 383,vP 3 447,vP 7 959,vL 22 Y4 x22,vI 23 x23,vI 24 x24],ai [(383,.box [.int .i64 x2.1,.int .i64 x2.2]),(447,.box [.str x3.1,.str x3.2.1,.list Y4 x3.2.2]),(959,.box [.str x7.1,.int .i64 x7.2.1,.int .i64 x7.2.2.1,.int .i64 x7.2.2.2.1,.int .i64 x7.2.2.2.2])]⟩
theorem Lz (a0:D3) (a1:Int) (a2:Int×Int):Du a0 a1 a2=bif (ao a1 (a0.2.2.length))then((oD ((rd (τ:=Y4) a0.2.2 a1).1)).bind fun r1=>bif (!r1)then some (3,a2)else(bif (decide (0≤0)&&decide (0≤a1)&&decide (a1≤(a0.2.2.length:Int)))then Du.a a2 a0 (rd (τ:=Y4) a0.2.2 a1) ((a0.2.2.take (Int.toNat a1)).drop (Int.toNat 0)) (((a0.2.2.take (Int.toNat a1)).drop (Int.toNat 0)).length:Int) 0 else none))else none:=
 (aa cfg 259 _).trans (by kernel_rfl)
theorem Du.a_eq (x2:Int×Int) (x3:D3) (x7:D2) (x22:List D2) (x23 x24:Int):Du.a x2 x3 x7 x22 x23 x24=bif (decide (x24<x23))then(bif (ao x24 (x22.length))then(bif (bo ((rd (τ:=Y4) x22 x24).1) x7.1)then some (24,x2)else Du.a x2 x3 x7 x22 x23 (IntKind.wrap .i64 (x24+1)))else none)else(bif (decide (x7.2.1=1))then(bif (!decide (x7.2.2.1=x2.1))then some (4,x2)else((gg x7.2.2.2.1 1 (IntKind.wrap .i64 ((x3.1.size:Int)-x7.2.2.1))).bind fun r2=>bif (!r2)then some (4,x2)else some (0,(IntKind.wrap .i64 (x7.2.2.1+x7.2.2.2.1)),x2.2)))else(bif (decide (x7.2.1=2))then(av (fun kr13=>(gg x7.2.2.1 x2.2 (x3.2.1.size:Int)).bind fun r5=>bif (!r5)then kr13 true else(bif (!decide ((x7.2.2.1.tmod 8)=0))then kr13 true else(bif (!decide ((x7.2.2.2.1.tmod 8)=0))then kr13 true else((gg x7.2.2.2.1 1 (IntKind.wrap .i64 ((x3.2.1.size:Int)-x7.2.2.1))).bind fun r6=>kr13 (!r6))))) fun(r12:Bool)=>bif r12 then some (4,x2)else(bif (!decide (x7.2.2.2.2=0))then some (17,x2.1,(IntKind.wrap .i64 (x7.2.2.1+x7.2.2.2.1)))else some (0,x2.1,(IntKind.wrap .i64 (x7.2.2.1+x7.2.2.2.1)))))else some (26,x2))):=
 (ak cfg 259 _ _ _).trans (by kernel_rfl)
noncomputable def LB (a0:D2):Option Int:=au cfg 262 [.agg [.str a0.1,.int .i64 a0.2.1,.int .i64 a0.2.2.1,.int .i64 a0.2.2.2.1,.int .i64 a0.2.2.2.2]]
theorem zj (a0:D2):LB a0=bif (decide (a0.2.1=1))then some (IntKind.wrap .i64 (4096+a0.2.2.1))else some (IntKind.wrap .i64 (16384+a0.2.2.1)):=
 (aa cfg 262 _).trans (by kernel_rfl)
noncomputable def Dv (a0:D3):Option (List Int):=au cfg 260 [.agg [.str a0.1,.str a0.2.1,.list Y4 a0.2.2]]
noncomputable def Dv.a (x3:List Int) (x7:List D2) (x8 x9:Int):Option (List Int):=LA 260 Tryz.f260 [1,1,0,1,0] ⟨23,af [(3,.v (.own 416)),vL 7 Y4 x7,vI 8 x8,vI 9 x9],ai [(416,.rows 3 (.int .i64) .no x3)]⟩
theorem LC (a0:D3):Dv a0=Dv.a [] a0.2.2 (a0.2.2.length:Int) 0:=
 (aa cfg 260 _).trans (by kernel_rfl)
theorem Dv.a_eq (x3:List Int) (x7:List D2) (x8 x9:Int):Dv.a x3 x7 x8 x9=bif (decide (x9<x8))then(bif (ao x9 (x7.length))then(bif (decide ((rd (τ:=Y4) x7 x9).2.1=1))then((LB (rd (τ:=Y4) x7 x9)).bind fun r1=>bif (ar ((x3.length)+([r1].length)) 8)then Dv.a (x3++[r1]) x7 x8 (IntKind.wrap .i64 (x9+1))else none)else Dv.a x3 x7 x8 (IntKind.wrap .i64 (x9+1)))else none)else some x3:=
 (ak cfg 260 _ _ _).trans (by kernel_rfl)
noncomputable def PM (a0:Int):Option Bool:=au cfg 267 [.v (.int .i64 a0)]
theorem LD (a0:Int):PM a0=(gg a0 16 128).bind fun r1=>bif r1 then some (decide ((a0.tmod 16)=0))else some false:=
 (aa cfg 267 _).trans (by kernel_rfl)
noncomputable def Ry (a0:ByteArray):Option Bool:=au cfg 336 [.v (.str a0)]
theorem LE (a0:ByteArray):Ry a0=bif (decide (((a0.size:Int).tmod 4)=0))then some (decide ((a0.size:Int)≤256))else some false:=
 (aa cfg 336 _).trans (by kernel_rfl)
noncomputable def Qm (a0:ByteArray):Option Bool:=au cfg 268 [.v (.str a0)]
theorem LF (a0:ByteArray):Qm a0=(Ry a0).bind fun r1=>bif r1 then some (decide ((a0.size:Int)≥20))else some false:=
 (aa cfg 268 _).trans (by kernel_rfl)
noncomputable def Qn (a0:Int):Option Bool:=au cfg 285 [.v (.int .i64 a0)]
theorem LG (a0:Int):Qn a0=(gg a0 0 1048575).bind fun r1=>bif r1 then some (decide ((a0.tmod 4)=0))else some false:=
 (aa cfg 285 _).trans (by kernel_rfl)
noncomputable def Ak (a0:ByteArray):Option Int:=au cfg 227 [.v (.str a0)]
noncomputable def Ak.a (x0:ByteArray) (x3 x4:Int):Option Int:=LA 227 Tryz.f227 [1,1,0,1,0] ⟨20,af [(0,.v (.str x0)),vI 3 x3,vI 4 x4],ai []⟩
theorem LH (a0:ByteArray):Ak a0=Ak.a a0 0 (IntKind.wrap .i64 ((a0.size:Int)-1)):=
 (aa cfg 227 _).trans (by kernel_rfl)
theorem Ak.a_eq (x0:ByteArray) (x3 x4:Int):Ak.a x0 x3 x4=bif (decide (x4≥0))then(bif (ao x4 x0.size)then Ak.a x0 (gU .i64 (cG .i64 x3 8) (IntKind.wrap .i64 ((bt x0 x4)))) (IntKind.wrap .i64 (x4-1))else none)else some x3:=
 (ak cfg 227 _ _ _).trans (by kernel_rfl)
noncomputable def GM (a0 a1 a2:Int):Option Int:=au cfg 306 [.v (.int .i64 a0),.v (.int .i64 a1),.v (.int .i64 a2)]
theorem LI (a0 a1 a2:Int):GM a0 a1 a2=bif (decide (a1<0))then none else(bif (decide (a2<0))then none else some (andI .i64 (lH .i64 a0 a1) (IntKind.wrap .i64 ((cG .i64 1 a2)-1)))):=
 (aa cfg 306 _).trans (by kernel_rfl)
noncomputable def Qo (a0:Int):Option (List (Int×Int×Int)):=au cfg 307 [.v (.int .i64 a0)]
theorem LJ (a0:Int):Qo a0=bif (decide (a0=1))then some [(12,20,12)]else(bif (decide (a0=2))then some [(12,8,12),(11,1,20),(1,10,21),(20,1,31)]else(bif (decide (a0=3))then some [(0,12,20)]else(bif (decide (a0=4))then some [(11,1,7),(1,4,8),(5,6,25),(12,1,31)]else(bif (decide (a0=5))then some [(0,5,7),(5,7,25)]else(bif (decide (a0=6))then some [(0,6,20)]else(bif (decide (a0=7))then some [(0,5,20)]else some [])))))):=
 (aa cfg 307 _).trans (by kernel_rfl)
noncomputable def Qp (a0:Int):Option Sz:=au cfg 310 [.v (.int .i64 a0)]
theorem LL (a0:Int):Qp a0=av (fun kr8=>bif (decide (a0=1))then kr8 (decide (a0=1))else kr8 (decide (a0=2))) fun(r1:Bool)=>bif r1 then some (true,false,false)else(av (fun kr6=>bif (decide (a0=3))then kr6 (decide (a0=3))else(bif (decide (a0=6))then kr6 (decide (a0=6))else kr6 (decide (a0=7)))) fun(r3:Bool)=>bif r3 then some (true,true,false)else(bif (decide (a0=4))then(bif (decide (a0=4))then some (false,true,true)else(bif (decide (a0=8))then some (true,true,true)else some (false,false,false)))else(bif (decide (a0=5))then some (false,true,true)else(bif (decide (a0=8))then some (true,true,true)else some (false,false,false))))):=
 (aa cfg 310 _).trans (by kernel_rfl)
noncomputable def Qq:Option (List D2):=au cfg 305 []
theorem GN:Qq=some [((⟨#[]⟩:ByteArray),0,0,0,0),((⟨#[108,117,105]⟩:ByteArray),1,55,0,0),((⟨#[97,117,105,112,99]⟩:ByteArray),1,23,0,0),((⟨#[106,97,108]⟩:ByteArray),2,111,0,0),((⟨#[106,97,108,114]⟩:ByteArray),3,103,0,0),((⟨#[98,101,113]⟩:ByteArray),4,99,0,0),((⟨#[98,110,101]⟩:ByteArray),4,99,1,0),((⟨#[98,108,116]⟩:ByteArray),4,99,4,0),((⟨#[98,103,101]⟩:ByteArray),4,99,5,0),((⟨#[98,108,116,117]⟩:ByteArray),4,99,6,0),((⟨#[98,103,101,117]⟩:ByteArray),4,99,7,0),((⟨#[108,98]⟩:ByteArray),3,3,0,0),((⟨#[108,104]⟩:ByteArray),3,3,1,0),((⟨#[108,119]⟩:ByteArray),3,3,2,0),((⟨#[108,100]⟩:ByteArray),3,3,3,0),((⟨#[108,98,117]⟩:ByteArray),3,3,4,0),((⟨#[108,104,117]⟩:ByteArray),3,3,5,0),((⟨#[108,119,117]⟩:ByteArray),3,3,6,0),((⟨#[115,98]⟩:ByteArray),5,35,0,0),((⟨#[115,104]⟩:ByteArray),5,35,1,0),((⟨#[115,119]⟩:ByteArray),5,35,2,0),((⟨#[115,100]⟩:ByteArray),5,35,3,0),((⟨#[97,100,100,105]⟩:ByteArray),3,19,0,0),((⟨#[115,108,116,105]⟩:ByteArray),3,19,2,0),((⟨#[115,108,116,105,117]⟩:ByteArray),3,19,3,0),((⟨#[120,111,114,105]⟩:ByteArray),3,19,4,0),((⟨#[111,114,105]⟩:ByteArray),3,19,6,0),((⟨#[97,110,100,105]⟩:ByteArray),3,19,7,0),((⟨#[115,108,108,105]⟩:ByteArray),6,19,1,0),((⟨#[115,114,108,105]⟩:ByteArray),6,19,5,0),((⟨#[115,114,97,105]⟩:ByteArray),6,19,5,32),((⟨#[97,100,100]⟩:ByteArray),8,51,0,0),((⟨#[115,117,98]⟩:ByteArray),8,51,0,32),((⟨#[115,108,108]⟩:ByteArray),8,51,1,0),((⟨#[115,108,116]⟩:ByteArray),8,51,2,0),((⟨#[115,108,116,117]⟩:ByteArray),8,51,3,0),((⟨#[120,111,114]⟩:ByteArray),8,51,4,0),((⟨#[115,114,108]⟩:ByteArray),8,51,5,0),((⟨#[115,114,97]⟩:ByteArray),8,51,5,32),((⟨#[111,114]⟩:ByteArray),8,51,6,0),((⟨#[97,110,100]⟩:ByteArray),8,51,7,0),((⟨#[97,100,100,105,119]⟩:ByteArray),3,27,0,0),((⟨#[115,108,108,105,119]⟩:ByteArray),7,27,1,0),((⟨#[115,114,108,105,119]⟩:ByteArray),7,27,5,0),((⟨#[115,114,97,105,119]⟩:ByteArray),7,27,5,32),((⟨#[97,100,100,119]⟩:ByteArray),8,59,0,0),((⟨#[115,117,98,119]⟩:ByteArray),8,59,0,32),((⟨#[115,108,108,119]⟩:ByteArray),8,59,1,0),((⟨#[115,114,108,119]⟩:ByteArray),8,59,5,0),((⟨#[115,114,97,119]⟩:ByteArray),8,59,5,32),((⟨#[109,117,108]⟩:ByteArray),8,51,0,1),((⟨#[109,117,108,104]⟩:ByteArray),8,51,1,1),((⟨#[109,117,108,104,115,117]⟩:ByteArray),8,51,2,1),((⟨#[109,117,108,104,117]⟩:ByteArray),8,51,3,1),((⟨#[100,105,118]⟩:ByteArray),8,51,4,1),((⟨#[100,105,118,117]⟩:ByteArray),8,51,5,1),((⟨#[114,101,109]⟩:ByteArray),8,51,6,1),((⟨#[114,101,109,117]⟩:ByteArray),8,51,7,1),((⟨#[109,117,108,119]⟩:ByteArray),8,59,0,1),((⟨#[100,105,118,119]⟩:ByteArray),8,59,4,1),((⟨#[100,105,118,117,119]⟩:ByteArray),8,59,5,1),((⟨#[114,101,109,119]⟩:ByteArray),8,59,6,1),((⟨#[114,101,109,117,119]⟩:ByteArray),8,59,7,1),((⟨#[101,99,97,108,108]⟩:ByteArray),9,115,0,0),((⟨#[101,98,114,101,97,107]⟩:ByteArray),9,115,0,1)]:=
 (aa cfg 305 _).trans (by kernel_rfl)
noncomputable def PN (a0:Int):Option OB:=au cfg 343 [.v (.int .i64 a0)]
theorem LM (a0:Int):PN a0=(Qq).bind fun r1=>bif (ao a0 (r1.length))then some ((rd (τ:=Y4) r1 a0).2)else none:=
 (aa cfg 343 _).trans (by kernel_rfl)
noncomputable def w5 (a0:cz):Option Int:=au cfg 284 [.agg [.int .i64 a0.1,.int .i64 a0.2.1,.int .i64 a0.2.2.1,.int .i64 a0.2.2.2.1,.int .i64 a0.2.2.2.2]]
noncomputable def w5.a (x1:cz) (x3:OB) (x4:Int) (x17:List (Int×Int×Int)) (x18 x19:Int):Option Int:=LA 284 Tryz.f284 [1,1,1,0,1,0] ⟨91,af [vP 1 191,vP 3 447,vI 4 x4,(17,.v (.own 2208)),vI 18 x18,vI 19 x19],ai [(191,.box [.int .i64 x1.1,.int .i64 x1.2.1,.int .i64 x1.2.2.1,.int .i64 x1.2.2.2.1,.int .i64 x1.2.2.2.2]),(447,.box [.int .i64 x3.1,.int .i64 x3.2.1,.int .i64 x3.2.2.1,.int .i64 x3.2.2.2]),(2208,.rows 380 aV .no x17)]⟩
theorem LN (a0:cz):w5 a0=(PN a0.1).bind fun r1=>(Qo r1.1).bind fun r2=>w5.a a0 r1 r1.2.1 r2 (r2.length:Int) 0:=
 (aa cfg 284 _).trans (by kernel_rfl)
theorem w5.a_eq (x1:cz) (x3:OB) (x4:Int) (x17:List (Int×Int×Int)) (x18 x19:Int):w5.a x1 x3 x4 x17 x18 x19=bif (decide (x19<x18))then(bif (ao x19 (x17.length))then((GM x1.2.2.2.2 ((rd (τ:=aV) x17 x19).1) ((rd (τ:=aV) x17 x19).2.1)).bind fun r19=>bif (decide ((rd (τ:=aV) x17 x19).2.2<0))then none else w5.a x1 x3 (gU .i64 x4 (cG .i64 r19 ((rd (τ:=aV) x17 x19).2.2))) x17 x18 (IntKind.wrap .i64 (x19+1)))else none)else((Qp x3.1).bind fun r3=>av (fun kr18=>bif r3.1 then kr18 (gU .i64 x4 (cG .i64 x1.2.1 7))else kr18 x4) fun(r4:Int)=>av (fun kr17=>bif r3.2.1 then kr17 (gU .i64 r4 (gU .i64 (cG .i64 x1.2.2.1 15) (cG .i64 x3.2.2.1 12)))else kr17 r4) fun(r5:Int)=>av (fun kr16=>bif r3.2.2 then kr16 (gU .i64 r5 (cG .i64 x1.2.2.2.1 20))else kr16 r5) fun(r6:Int)=>bif (decide (x3.1=6))then some (gU .i64 r6 (cG .i64 (lH .i64 x3.2.2.2 1) 26))else(bif (decide (x3.1=7))then(bif (decide (x3.1=7))then some (gU .i64 r6 (cG .i64 x3.2.2.2 25))else(bif (decide (x3.1=9))then some (gU .i64 r6 (cG .i64 x3.2.2.2 20))else some r6))else(bif (decide (x3.1=8))then some (gU .i64 r6 (cG .i64 x3.2.2.2 25))else(bif (decide (x3.1=9))then some (gU .i64 r6 (cG .i64 x3.2.2.2 20))else some r6)))):=
 (ak cfg 284 _ _ _).trans (by kernel_rfl)
noncomputable def Rz (a0:Int):Option Int:=au cfg 308 [.v (.int .i64 a0)]
theorem LO (a0:Int):Rz a0=bif (decide (a0=1))then some 32 else(bif (decide (a0=2))then some 21 else(bif (decide (a0=3))then(bif (decide (a0=3))then some 12 else(bif (decide (a0=4))then some 13 else some 0))else(bif (decide (a0=5))then some 12 else(bif (decide (a0=4))then some 13 else some 0)))):=
 (aa cfg 308 _).trans (by kernel_rfl)
noncomputable def Qr (a0 a1:Int):Option Int:=au cfg 309 [.v (.int .i64 a0),.v (.int .i64 a1)]
theorem LP (a0 a1:Int):Qr a0 a1=bif (decide ((IntKind.wrap .i64 (64-a1))<0))then none else(bif (decide ((IntKind.wrap .i64 (64-a1))<0))then none else some (lH .i64 (cG .i64 a0 (IntKind.wrap .i64 (64-a1))) (IntKind.wrap .i64 (64-a1)))):=
 (aa cfg 309 _).trans (by kernel_rfl)
noncomputable def ml (a0:Int):Option (cz×Bool):=au cfg 230 [.v (.int .i64 a0)]
noncomputable def ml.a (x0:Int) (x2:cz) (x14:List D2) (x15 x16:Int):Option (cz×Bool):=LA 230 Tryz.f230 [1,0,1,0] ⟨92,af [vI 0 x0,vP 2 319,(14,.v (.own 1824)),vI 15 x15,vI 16 x16],ai [(319,.box [.int .i64 x2.1,.int .i64 x2.2.1,.int .i64 x2.2.2.1,.int .i64 x2.2.2.2.1,.int .i64 x2.2.2.2.2]),(1824,.rows 375 Y4 .no x14)]⟩
noncomputable def ml.b (x0:Int) (x2:cz) (x6:OB) (x7:cz) (x14:List D2) (x15 x16:Int) (x36:List (Int×Int×Int)) (x37 x38:Int):Option (cz×Bool):=LA 230 Tryz.f230 [1,0,1,0,0,1,1,0,0,1,1,1,1,0,1,0] ⟨92,af [vI 0 x0,vP 2 319,vP 6 831,vP 7 959,(14,.v (.own 1824)),vI 15 x15,vI 16 x16,(36,.v (.own 4640)),vI 37 x37,vI 38 x38],ai [(319,.box [.int .i64 x2.1,.int .i64 x2.2.1,.int .i64 x2.2.2.1,.int .i64 x2.2.2.2.1,.int .i64 x2.2.2.2.2]),(831,.box [.int .i64 x6.1,.int .i64 x6.2.1,.int .i64 x6.2.2.1,.int .i64 x6.2.2.2]),(959,.box [.int .i64 x7.1,.int .i64 x7.2.1,.int .i64 x7.2.2.1,.int .i64 x7.2.2.2.1,.int .i64 x7.2.2.2.2]),(1824,.rows 375 Y4 .no x14),(4640,.rows 380 aV .no x36)]⟩
theorem LQ (a0:Int):ml a0=(Qq).bind fun r1=>ml.a a0 (0,0,0,0,0) r1 (r1.length:Int) 0:=
 (aa cfg 230 _).trans (by kernel_rfl)
theorem ml.a_eq (x0:Int) (x2:cz) (x14:List D2) (x15 x16:Int):ml.a x0 x2 x14 x15 x16=bif (decide (x16<x15))then(bif (ao x16 (x14.length))then(av (fun kr6=>bif (decide (x16=0))then kr6 true else((GM x0 0 7).bind fun r2=>kr6 (!decide ((rd (τ:=Y4) x14 x16).2.2.1=r2)))) fun(r4:Bool)=>bif r4 then ml.a x0 x2 x14 x15 (IntKind.wrap .i64 (x16+1))else((Qo ((rd (τ:=Y4) x14 x16).2.1)).bind fun r5=>ml.b x0 x2 ((rd (τ:=Y4) x14 x16).2) (x16,0,0,0,0) x14 x15 x16 r5 (r5.length:Int) 0))else none)else some ((0,0,0,0,0),false):=
 (ak cfg 230 _ _ _).trans (by kernel_rfl)
theorem ml.b_eq (x0:Int) (x2:cz) (x6:OB) (x7:cz) (x14:List D2) (x15 x16:Int) (x36:List (Int×Int×Int)) (x37 x38:Int):ml.b x0 x2 x6 x7 x14 x15 x16 x36 x37 x38=bif (decide (x38<x37))then(bif (ao x38 (x36.length))then((GM x0 ((rd (τ:=aV) x36 x38).2.2) ((rd (τ:=aV) x36 x38).2.1)).bind fun r22=>bif (decide ((rd (τ:=aV) x36 x38).1<0))then none else ml.b x0 x2 x6 (x7.1,x7.2.1,x7.2.2.1,x7.2.2.2.1,(gU .i64 x7.2.2.2.2 (cG .i64 r22 ((rd (τ:=aV) x36 x38).1)))) x14 x15 x16 x36 x37 (IntKind.wrap .i64 (x38+1)))else none)else((Rz x6.1).bind fun r7=>av (fun kr21=>bif (decide (r7>0))then((Qr x7.2.2.2.2 r7).bind fun r8=>kr21 r8)else kr21 x7.2.2.2.2) fun(r9:Int)=>(Qp x6.1).bind fun r10=>av (fun kr20=>bif r10.1 then((GM x0 7 5).bind fun r11=>kr20 r11)else kr20 x7.2.1) fun(r12:Int)=>av (fun kr19=>bif r10.2.1 then((GM x0 15 5).bind fun r13=>kr19 r13)else kr19 x7.2.2.1) fun(r14:Int)=>av (fun kr18=>bif r10.2.2 then((GM x0 20 5).bind fun r15=>kr18 r15)else kr18 x7.2.2.2.1) fun(r16:Int)=>(w5 (x7.1,r12,r14,r16,r9)).bind fun r17=>bif (decide (r17=x0))then some ((x7.1,r12,r14,r16,r9),true)else ml.a x0 x2 x14 x15 (IntKind.wrap .i64 (x16+1))):=
 (ak cfg 230 _ _ _).trans (by kernel_rfl)
noncomputable def CS (a0:ByteArray):Option R4:=au cfg 325 [.v (.str a0)]
noncomputable def CS.a (x0:ByteArray) (x5:List cz) (x6:Int):Option R4:=LA 325 Tryz.f325 [1,1,0,1,0] ⟨34,af [(0,.v (.str x0)),(5,.v (.own 672)),vI 6 x6],ai [(672,.rows 238 ba .no x5)]⟩
theorem GO (a0:ByteArray):CS a0=CS.a a0 [] 0:=
 (aa cfg 325 _).trans (by kernel_rfl)
theorem CS.a_eq (x0:ByteArray) (x5:List cz) (x6:Int):CS.a x0 x5 x6=bif (decide (x6< (x0.size:Int)))then(bif (decide (0≤x6)&&decide (x6≤(IntKind.wrap .i64 (x6+4)))&&decide ((IntKind.wrap .i64 (x6+4))≤(x0.size:Int)))then((Ak (x0.extract (Int.toNat x6) (Int.toNat (IntKind.wrap .i64 (x6+4))))).bind fun r1=>(ml r1).bind fun r2=>bif (!r2.2)then some ([],(IntKind.wrap .i64 (x6.tdiv 4)),false)else(bif (ar ((x5.length)+([r2.1].length)) 40)then CS.a x0 (x5++[r2.1]) (IntKind.wrap .i64 (x6+4))else none))else none)else some (x5,0,true):=
 (ak cfg 325 _ _ _).trans (by kernel_rfl)
noncomputable def Sc (a0:Int):Option (List cz):=au cfg 326 [.v (.int .i64 a0)]
theorem LR (a0:Int):Sc a0=some [(22,2,2,0,(IntKind.wrap .i64 (0-a0))),(21,0,2,1,(IntKind.wrap .i64 (a0-8)))]:=
 (aa cfg 326 _).trans (by kernel_rfl)
noncomputable def GP (a0 a1:List cz):Option Bool:=au cfg 327 [.v (.list ba a0),.v (.list ba a1)]
noncomputable def GP.a (x0 x1:List cz) (x12 x13:Int):Option Bool:=LA 327 Tryz.f327 [1,1,0,1,0] ⟨26,af [vL 0 ba x0,vL 1 ba x1,vI 12 x12,vI 13 x13],ai []⟩
theorem LS (a0 a1:List cz):GP a0 a1=bif (!decide ((a0.length:Int)=(a1.length:Int)))then some false else GP.a a0 a1 (a0.length:Int) 0:=
 (aa cfg 327 _).trans (by kernel_rfl)
theorem GP.a_eq (x0 x1:List cz) (x12 x13:Int):GP.a x0 x1 x12 x13=bif (decide (x13<x12))then(bif (ao x13 (x0.length))then(bif (ao x13 (x1.length))then(bif (!(ka ba (rd (τ:=ba) x0 x13) (rd (τ:=ba) x1 x13)))then some false else GP.a x0 x1 x12 (IntKind.wrap .i64 (x13+1)))else none)else none)else some true:=
 (ak cfg 327 _ _ _).trans (by kernel_rfl)
noncomputable def RA (a0:Int):Option (List cz):=au cfg 328 [.v (.int .i64 a0)]
theorem LT (a0:Int):RA a0=some [(14,1,2,0,(IntKind.wrap .i64 (a0-8))),(22,2,2,0,a0),(4,0,1,0,0)]:=
 (aa cfg 328 _).trans (by kernel_rfl)
noncomputable def G7 (a0:List Int) (a1:Int):Option Int:=au cfg 380 [.v (.list (.int .i64) a0),.v (.int .i64 a1)]
noncomputable def G7.a (x0:List Int) (x1 x7 x8:Int):Option Int:=LA 380 Tryz.f380 [1,0,1,0] ⟨19,af [vL 0 (.int .i64) x0,vI 1 x1,vI 7 x7,vI 8 x8],ai []⟩
theorem LU (a0:List Int) (a1:Int):G7 a0 a1=G7.a a0 a1 (a0.length:Int) 0:=
 (aa cfg 380 _).trans (by kernel_rfl)
theorem G7.a_eq (x0:List Int) (x1 x7 x8:Int):G7.a x0 x1 x7 x8=bif (decide (x8<x7))then(bif (ao x8 (x0.length))then(bif (decide (x1=(rd (τ:=(.int .i64)) x0 x8)))then some x8 else G7.a x0 x1 x7 (IntKind.wrap .i64 (x8+1)))else none)else some (-1):=
 (ak cfg 380 _ _ _).trans (by kernel_rfl)
noncomputable def RB (a0:List Int) (a1:Int):Option Bool:=au cfg 361 [.v (.list (.int .i64) a0),.v (.int .i64 a1)]
theorem LV (a0:List Int) (a1:Int):RB a0 a1=(G7 a0 a1).bind fun r1=>some (decide (r1≥0)):=
 (aa cfg 361 _).trans (by kernel_rfl)
noncomputable def Qs (a0:IP) (a1:Int):Option Bool:=au cfg 362 [.v (.cptr Jy a0 0),.v (.int .i64 a1)]
theorem LW (a0:IP) (a1:Int):Qs a0 a1=bif (ao a1 (a0.1.length))then(bif (decide ((((rd (τ:=ba) a0.1 a1).2.2.2.2).tmod 4)=0))then((gg (IntKind.wrap .i64 (a1+(IntKind.wrap .i64 (((rd (τ:=ba) a0.1 a1).2.2.2.2).tdiv 4)))) 2 (IntKind.wrap .i64 ((a0.1.length:Int)-1))).bind fun r1=>bif r1 then(bif (ao (IntKind.wrap .i64 (a1+(IntKind.wrap .i64 (((rd (τ:=ba) a0.1 a1).2.2.2.2).tdiv 4)))) (a0.2.2.2.2.length))then some (decide ((rd (τ:=(.int .i64)) a0.2.2.2.2 (IntKind.wrap .i64 (a1+(IntKind.wrap .i64 (((rd (τ:=ba) a0.1 a1).2.2.2.2).tdiv 4)))))<2))else none)else some false)else some false)else none:=
 (aa cfg 362 _).trans (by kernel_rfl)
noncomputable def Qt (a0:Int):Option Bool:=au cfg 363 [.v (.int .i64 a0)]
theorem LX (a0:Int):Qt a0=(gg a0 5 10).bind fun r1=>some r1:=
 (aa cfg 363 _).trans (by kernel_rfl)
noncomputable def RC (a0:Int):Option Bool:=au cfg 364 [.v (.int .i64 a0)]
theorem LY (a0:Int):RC a0=(gg a0 11 17).bind fun r1=>some r1:=
 (aa cfg 364 _).trans (by kernel_rfl)
noncomputable def OE (a0:Int):Option Bool:=au cfg 365 [.v (.int .i64 a0)]
theorem LZ (a0:Int):OE a0=(gg a0 18 21).bind fun r1=>some r1:=
 (aa cfg 365 _).trans (by kernel_rfl)
noncomputable def RD (a0:Int):Option (Int×Bool):=au cfg 366 [.v (.int .i64 a0)]
theorem L8 (a0:Int):RD a0=(OE a0).bind fun r1=>bif r1 then(bif (decide ((IntKind.wrap .i64 (a0-18))<0))then none else some ((cG .i64 1 (IntKind.wrap .i64 (a0-18))),false))else(bif (decide (a0>14))then(bif (decide ((IntKind.wrap .i64 (a0-15))<0))then none else some ((cG .i64 1 (IntKind.wrap .i64 (a0-15))),false))else(bif (decide ((IntKind.wrap .i64 (a0-11))<0))then none else some ((cG .i64 1 (IntKind.wrap .i64 (a0-11))),true))):=
 (aa cfg 366 _).trans (by kernel_rfl)
noncomputable def RE (a0:IP) (a1:Int):Option Int:=au cfg 329 [.v (.cptr Jy a0 0),.v (.int .i64 a1)]
theorem L9 (a0:IP) (a1:Int):RE a0 a1=bif (ao a1 (a0.1.length))then(bif (decide ((rd (τ:=ba) a0.1 a1).1=4))then(bif (ao a1 (a0.2.2.2.2.length))then(bif (!decide ((rd (τ:=(.int .i64)) a0.2.2.2.2 a1)=3))then some 18 else some 0)else none)else(av (fun kr27=>bif (decide ((rd (τ:=ba) a0.1 a1).1=3))then kr27 (decide ((rd (τ:=ba) a0.1 a1).2.1=1))else kr27 false) fun(r1:Bool)=>bif r1 then((RB a0.2.2.2.1 (IntKind.wrap .i64 ((IntKind.wrap .i64 (a0.2.2.1+(IntKind.wrap .i64 (4*a1))))+(rd (τ:=ba) a0.1 a1).2.2.2.2))).bind fun r3=>bif (!r3)then some 20 else some 0)else(bif (decide ((rd (τ:=ba) a0.1 a1).1=3))then(bif (!decide ((rd (τ:=ba) a0.1 a1).2.1=0))then some 19 else((Qs a0 a1).bind fun r4=>bif (!r4)then some 19 else some 0))else((Qt ((rd (τ:=ba) a0.1 a1).1)).bind fun r7=>bif r7 then((Qs a0 a1).bind fun r8=>bif (!r8)then some 19 else some 0)else(av (fun kr26=>bif (decide ((rd (τ:=ba) a0.1 a1).2.1=1))then(bif (ao a1 (a0.2.2.2.2.length))then(bif (!decide ((rd (τ:=(.int .i64)) a0.2.2.2.2 a1)=1))then kr26 true else(bif (decide ((rd (τ:=ba) a0.1 a1).2.1=2))then(bif (ao a1 (a0.2.2.2.2.length))then kr26 (!decide ((rd (τ:=(.int .i64)) a0.2.2.2.2 a1)=2))else none)else kr26 false))else none)else(bif (decide ((rd (τ:=ba) a0.1 a1).2.1=2))then(bif (ao a1 (a0.2.2.2.2.length))then kr26 (!decide ((rd (τ:=(.int .i64)) a0.2.2.2.2 a1)=2))else none)else kr26 false)) fun(r9:Bool)=>bif r9 then some 21 else(av (fun kr25=>(RC ((rd (τ:=ba) a0.1 a1).1)).bind fun r13=>bif r13 then(bif (decide ((rd (τ:=ba) a0.1 a1).2.2.1=2))then(bif (ao a1 (a0.2.2.2.2.length))then kr25 (!decide ((rd (τ:=(.int .i64)) a0.2.2.2.2 a1)=1))else none)else kr25 false)else((OE ((rd (τ:=ba) a0.1 a1).1)).bind fun r14=>bif r14 then(bif (decide ((rd (τ:=ba) a0.1 a1).2.2.1=2))then(bif (ao a1 (a0.2.2.2.2.length))then kr25 (!decide ((rd (τ:=(.int .i64)) a0.2.2.2.2 a1)=1))else none)else kr25 false)else kr25 false)) fun(r15:Bool)=>bif r15 then((RD ((rd (τ:=ba) a0.1 a1).1)).bind fun r21=>(gg ((rd (τ:=ba) a0.1 a1).2.2.2.2) 0 (IntKind.wrap .i64 ((IntKind.wrap .i64 (a0.2.1-8))-r21.1))).bind fun r22=>bif (!r22)then some 17 else(bif (decide (r21.1=0))then none else(bif (!decide ((((rd (τ:=ba) a0.1 a1).2.2.2.2).tmod r21.1)=0))then some 17 else some 0)))else some 0))))))else none:=
 (aa cfg 329 _).trans (by kernel_rfl)
noncomputable def jT (a0:ByteArray) (a1 a2:Int) (a3:List Int):Option (Int×Int):=au cfg 261 [.v (.str a0),.v (.int .i64 a1),.v (.int .i64 a2),.v (.list (.int .i64) a3)]
noncomputable def jT.a (x1 x2:Int) (x3:List Int) (x10 x42:List cz) (x43 x44:Int):Option (Int×Int):=LA 261 Tryz.f261 [1,1,1,1,0,1,0] ⟨136,af [vI 1 x1,vI 2 x2,vL 3 (.int .i64) x3,(10,.v (.own 1312)),(42,.v (.own 5408)),vI 43 x43,vI 44 x44],ai [(1312,.rows 238 ba .no x10),(5408,.rows 238 ba .no x42)]⟩
noncomputable def jT.b (x2:Int) (x10:List cz) (x16:IP) (x17:Int):Option (Int×Int):=LA 261 Tryz.f261 [1,1,1,1,1,1,1,1,0,1,0] ⟨136,af [vI 2 x2,vL 10 ba x10,vP 16 2111,vI 17 x17],ai [(2080,.rows 3 (.int .i64) .no x16.2.2.2.2),(2111,.box [.list ba x16.1,.int .i64 x16.2.1,.int .i64 x16.2.2.1,.list (.int .i64) x16.2.2.2.1,.own 2080])]⟩
noncomputable def jT.c (x10:List cz) (x16:IP) (x18:Int):Option (Int×Int):=LA 261 Tryz.f261 [1,1,1,1,1,1,1,1,1,0,1,0] ⟨136,af [vL 10 ba x10,vP 16 2111,vI 18 x18],ai [(2080,.rows 3 (.int .i64) .no x16.2.2.2.2),(2111,.box [.list ba x16.1,.int .i64 x16.2.1,.int .i64 x16.2.2.1,.list (.int .i64) x16.2.2.2.1,.own 2080])]⟩
theorem GQ (a0:ByteArray) (a1 a2:Int) (a3:List Int):jT a0 a1 a2 a3=(Qn a1).bind fun r1=>bif (!r1)then some (0,4)else((PM a2).bind fun r2=>bif (!r2)then some (0,17)else((Qm a0).bind fun r3=>bif (!r3)then some (0,8)else((CS a0).bind fun r4=>bif (!r4.2.2)then some (r4.2.1,10)else((Sc a2).bind fun r5=>jT.a a1 a2 a3 r4.1 r5 (r5.length:Int) 0)))):=
 (aa cfg 261 _).trans (by kernel_rfl)
theorem jT.a_eq (x1 x2:Int) (x3:List Int) (x10 x42:List cz) (x43 x44:Int):jT.a x1 x2 x3 x10 x42 x43 x44=bif (decide (x44<x43))then(bif (ao x44 (x42.length))then(bif (ao x44 (x10.length))then(bif (!(ka ba (rd (τ:=ba) x10 x44) (rd (τ:=ba) x42 x44)))then some (x44,17)else jT.a x1 x2 x3 x10 x42 x43 (IntKind.wrap .i64 (x44+1)))else none)else none)else(bif (ao (IntKind.wrap .i64 ((x10.length:Int)-1)) (x10.length))then(av (fun kr8=>bif (!decide ((rd (τ:=ba) x10 (IntKind.wrap .i64 ((x10.length:Int)-1))).1=4))then(bif (!decide ((rd (τ:=ba) x10 (IntKind.wrap .i64 ((x10.length:Int)-1))).1=3))then kr8 true else kr8 (!decide ((rd (τ:=ba) x10 (IntKind.wrap .i64 ((x10.length:Int)-1))).2.1=0)))else kr8 false) fun(r7:Bool)=>bif r7 then some ((IntKind.wrap .i64 ((x10.length:Int)-1)),22)else(bif (decide (0≤(x10.length:Int))&&ar (Int.toNat (x10.length:Int)) 8)then jT.b x2 x10 (x10,x2,x1,x3,(List.replicate (Int.toNat (x10.length:Int)) (0:Int))) 2 else none))else none):=
 (ak cfg 261 _ _ _).trans (by kernel_rfl)
theorem jT.b_eq (x2:Int) (x10:List cz) (x16:IP) (x17:Int):jT.b x2 x10 x16 x17=bif (decide ((IntKind.wrap .i64 (x17+3))≤(x10.length:Int)))then(bif (decide (0≤x17)&&decide (x17≤(IntKind.wrap .i64 (x17+3)))&&decide ((IntKind.wrap .i64 (x17+3))≤(x10.length:Int)))then((RA x2).bind fun r9=>(GP ((x10.take (Int.toNat (IntKind.wrap .i64 (x17+3)))).drop (Int.toNat x17)) r9).bind fun r10=>bif r10 then(bif (ao x17 (x16.2.2.2.2.length))then(bif (ao (IntKind.wrap .i64 (x17+1)) ((x16.2.2.2.2.set (Int.toNat x17) 1).length))then(letB ((x16.2.2.2.2.set (Int.toNat x17) 1).set (Int.toNat (IntKind.wrap .i64 (x17+1))) 2) fun r11=>bif (ao (IntKind.wrap .i64 (x17+2)) (r11.length))then jT.b x2 x10 (x16.1,x16.2.1,x16.2.2.1,x16.2.2.2.1,(r11.set (Int.toNat (IntKind.wrap .i64 (x17+2))) 3)) (IntKind.wrap .i64 (x17+1))else none)else none)else none)else jT.b x2 x10 x16 (IntKind.wrap .i64 (x17+1)))else none)else jT.c x10 x16 2:=
 (ak cfg 261 _ _ _).trans (by kernel_rfl)
theorem jT.c_eq (x10:List cz) (x16:IP) (x18:Int):jT.c x10 x16 x18=bif (decide (x18< (x10.length:Int)))then((RE x16 x18).bind fun r14=>bif (!decide (r14=0))then some (x18,r14)else jT.c x10 x16 (IntKind.wrap .i64 (x18+1)))else some (0,0):=
 (ak cfg 261 _ _ _).trans (by kernel_rfl)
noncomputable def oE (a0:D3):Option (Int×Int×Int):=au cfg 190 [.agg [.str a0.1,.str a0.2.1,.list Y4 a0.2.2]]
noncomputable def oE.a (x1:D3) (x5:Int×Int) (x31 x32:Int):Option (Int×Int×Int):=LA 190 Tryz.f190 [1,1,1,0,1,0] ⟨101,af [vP 1 191,vP 5 703,vI 31 x31,vI 32 x32],ai [(191,.box [.str x1.1,.str x1.2.1,.list Y4 x1.2.2]),(703,.box [.int .i64 x5.1,.int .i64 x5.2])]⟩
noncomputable def oE.b (x1:D3) (x8:List Int) (x66:List D2) (x67 x68:Int):Option (Int×Int×Int):=LA 190 Tryz.f190 [1,1,1,1,1,1,0,1,0] ⟨101,af [vP 1 191,(8,.v (.own 1056)),vL 66 Y4 x66,vI 67 x67,vI 68 x68],ai [(191,.box [.str x1.1,.str x1.2.1,.list Y4 x1.2.2]),(1056,.rows 3 (.int .i64) .no x8)]⟩
theorem Ma (a0:D3):oE a0=bif (decide ((a0.2.2.length:Int)>16))then some (0,0,6)else(bif (decide ((a0.1.size:Int)>1024))then some (0,0,8)else(bif (decide ((a0.2.1.size:Int)>256))then some (0,0,8)else oE.a a0 (0,0) (a0.2.2.length:Int) 0)):=
 (aa cfg 190 _).trans (by kernel_rfl)
theorem oE.a_eq (x1:D3) (x5:Int×Int) (x31 x32:Int):oE.a x1 x5 x31 x32=bif (decide (x32<x31))then((Du x1 x32 x5).bind fun r14=>bif (!decide (r14.1=0))then some (x32,0,r14.1)else oE.a x1 r14.2 x31 (IntKind.wrap .i64 (x32+1)))else(bif (decide ((x1.2.2.length:Int)=0))then some (0,0,23)else(bif (ao 0 (x1.2.2.length))then(bif (!decide ((rd (τ:=Y4) x1.2.2 0).2.1=1))then some (0,0,23)else(bif (!decide (x5.1=(x1.1.size:Int)))then some (0,0,22)else((Dv x1).bind fun r13=>oE.b x1 r13 x1.2.2 (x1.2.2.length:Int) 0)))else none)):=
 (ak cfg 190 _ _ _).trans (by kernel_rfl)
theorem oE.b_eq (x1:D3) (x8:List Int) (x66:List D2) (x67 x68:Int):oE.b x1 x8 x66 x67 x68=bif (decide (x68<x67))then(bif (ao x68 (x66.length))then(bif (!decide ((rd (τ:=Y4) x66 x68).2.1=1))then oE.b x1 x8 x66 x67 (IntKind.wrap .i64 (x68+1))else(bif (decide (0≤(rd (τ:=Y4) x66 x68).2.2.1)&&decide ((rd (τ:=Y4) x66 x68).2.2.1≤(IntKind.wrap .i64 ((rd (τ:=Y4) x66 x68).2.2.1+(rd (τ:=Y4) x66 x68).2.2.2.1)))&&decide ((IntKind.wrap .i64 ((rd (τ:=Y4) x66 x68).2.2.1+(rd (τ:=Y4) x66 x68).2.2.2.1))≤(x1.1.size:Int)))then((LB (rd (τ:=Y4) x66 x68)).bind fun r15=>(jT (x1.1.extract (Int.toNat ((rd (τ:=Y4) x66 x68).2.2.1)) (Int.toNat (IntKind.wrap .i64 ((rd (τ:=Y4) x66 x68).2.2.1+(rd (τ:=Y4) x66 x68).2.2.2.1)))) r15 ((rd (τ:=Y4) x66 x68).2.2.2.2) x8).bind fun r16=>bif (!decide (r16.2=0))then some (x68,r16)else oE.b x1 x8 x66 x67 (IntKind.wrap .i64 (x68+1)))else none))else none)else some (0,0,0):=
 (ak cfg 190 _ _ _).trans (by kernel_rfl)
noncomputable def PO (a0:D3):Option Bool:=au cfg 116 [.agg [.str a0.1,.str a0.2.1,.list Y4 a0.2.2]]
theorem Mb (a0:D3):PO a0=(oE a0).bind fun r1=>some (decide (r1.2.2=0)):=
 (aa cfg 116 _).trans (by kernel_rfl)
noncomputable def Dw (a0:D3):Option (List D0):=au cfg 191 [.agg [.str a0.1,.str a0.2.1,.list Y4 a0.2.2]]
noncomputable def Dw.a (x3:List D0) (x7:List D2) (x8 x9:Int):Option (List D0):=LA 191 Tryz.f191 [1,1,0,1,0] ⟨29,af [(3,.v (.own 416)),vL 7 Y4 x7,vI 8 x8,vI 9 x9],ai [(416,.rows 81 Y1 .no x3)]⟩
theorem Mc (a0:D3):Dw a0=Dw.a [] a0.2.2 (a0.2.2.length:Int) 0:=
 (aa cfg 191 _).trans (by kernel_rfl)
theorem Dw.a_eq (x3:List D0) (x7:List D2) (x8 x9:Int):Dw.a x3 x7 x8 x9=bif (decide (x9<x8))then(bif (ao x9 (x7.length))then((LB (rd (τ:=Y4) x7 x9)).bind fun r1=>bif (ar ((x3.length)+([((rd (τ:=Y4) x7 x9).1,(rd (τ:=Y4) x7 x9).2.1,r1,(rd (τ:=Y4) x7 x9).2.2.2.1,(rd (τ:=Y4) x7 x9).2.2.2.2,0)].length)) 56)then Dw.a (x3++[((rd (τ:=Y4) x7 x9).1,(rd (τ:=Y4) x7 x9).2.1,r1,(rd (τ:=Y4) x7 x9).2.2.2.1,(rd (τ:=Y4) x7 x9).2.2.2.2,0)]) x7 x8 (IntKind.wrap .i64 (x9+1))else none)else none)else some x3:=
 (ak cfg 191 _ _ _).trans (by kernel_rfl)
noncomputable def CT (a0:D3):Option (List cz):=au cfg 192 [.agg [.str a0.1,.str a0.2.1,.list Y4 a0.2.2]]
noncomputable def CT.a (x3:List cz) (x7:List D2) (x8 x9:Int):Option (List cz):=LA 192 Tryz.f192 [1,1,0,1,0] ⟨30,af [(3,.v (.own 416)),vL 7 Y4 x7,vI 8 x8,vI 9 x9],ai [(416,.rows 116 ba .no x3)]⟩
theorem Md (a0:D3):CT a0=CT.a [] a0.2.2 (a0.2.2.length:Int) 0:=
 (aa cfg 192 _).trans (by kernel_rfl)
theorem CT.a_eq (x3:List cz) (x7:List D2) (x8 x9:Int):CT.a x3 x7 x8 x9=bif (decide (x9<x8))then(bif (ao x9 (x7.length))then(bif (decide ((rd (τ:=Y4) x7 x9).2.1=1))then((LB (rd (τ:=Y4) x7 x9)).bind fun r1=>bif (ar ((x3.length)+([(x9,0,r1,(rd (τ:=Y4) x7 x9).2.2.2)].length)) 40)then CT.a (x3++[(x9,0,r1,(rd (τ:=Y4) x7 x9).2.2.2)]) x7 x8 (IntKind.wrap .i64 (x9+1))else none)else CT.a x3 x7 x8 (IntKind.wrap .i64 (x9+1)))else none)else some x3:=
 (ak cfg 192 _ _ _).trans (by kernel_rfl)
noncomputable def Sd (a0:List D1):Option (List D1):=au cfg 342 [.agg [.list Y0 a0]]
theorem Me (a0:List D1):Sd a0=(Z5 a0).bind fun r1=>some r1:=
 (aa cfg 342 _).trans (by kernel_rfl)
noncomputable def nY (a0:List D1) (a1:Int) (a2:ByteArray):Option (List D1):=au cfg 281 [.agg [.list Y0 a0],.v (.int .i64 a1),.v (.str a2)]
noncomputable def nY.a (x1:Int) (x2:ByteArray) (x6 x7:List D1) (x17 x18:Int):Option (List D1):=LA 281 Tryz.f281 [1,1,0,1,0] ⟨58,af [(16,.v (.own 928)),vI 1 x1,(2,.v (.str x2)),vP 6 831,vP 7 959,vI 17 x17,vI 18 x18],ai [(800,.rows 200 Y0 .no x6),(831,.box [.own 800]),(928,.rows 200 Y0 .no x7),(959,.box [.own 928])]⟩
noncomputable def nY.b (x1:Int) (x2:ByteArray) (x6 x7:List D1) (x8:Int) (x9:D1) (x10:List Int) (x17 x18 x27 x28:Int):Option (List D1):=LA 281 Tryz.f281 [1,1,0,1,0,0,1,1,0,0,1,1,0,1,0] ⟨58,af [(16,.v (.own 928)),vI 1 x1,(2,.v (.str x2)),vP 6 831,vP 7 959,vI 8 x8,vP 9 1215,(10,.v (.own 1312)),vI 17 x17,vI 18 x18,vI 27 x27,vI 28 x28],ai [(800,.rows 200 Y0 .no x6),(831,.box [.own 800]),(928,.rows 200 Y0 .no x7),(959,.box [.own 928]),(1215,.box [.int .i64 x9.1,.int .i64 x9.2.1,.str x9.2.2]),(1312,.rows 5 (.int .u8) .box x10)]⟩
theorem Mf (a0:List D1) (a1:Int) (a2:ByteArray):nY a0 a1 a2=(Sd a0).bind fun r1=>nY.a a1 a2 [] r1 (r1.length:Int) 0:=
 (aa cfg 281 _).trans (by kernel_rfl)
theorem nY.a_eq (x1:Int) (x2:ByteArray) (x6 x7:List D1) (x17 x18:Int):nY.a x1 x2 x6 x7 x17 x18=bif (decide (x18<x17))then(bif (ao x18 (x7.length))then(bif (decide (((rd (τ:=Y0) x7 x18).2.2).size≤9223372036854775807))then nY.b x1 x2 x6 x7 x18 (rd (τ:=Y0) x7 x18) (fb ((rd (τ:=Y0) x7 x18).2.2)) x17 x18 ((fb ((rd (τ:=Y0) x7 x18).2.2)).length:Int) 0 else none)else none)else some x7:=
 (ak cfg 281 _ _ _).trans (by kernel_rfl)
theorem nY.b_eq (x1:Int) (x2:ByteArray) (x6 x7:List D1) (x8:Int) (x9:D1) (x10:List Int) (x17 x18 x27 x28:Int):nY.b x1 x2 x6 x7 x8 x9 x10 x17 x18 x27 x28=bif (decide (x28<x27))then((gg (IntKind.wrap .i64 ((IntKind.wrap .i64 (x9.1+x28))-x1)) 0 (IntKind.wrap .i64 ((x2.size:Int)-1))).bind fun r3=>bif r3 then(bif (ao (IntKind.wrap .i64 ((IntKind.wrap .i64 (x9.1+x28))-x1)) x2.size)then(bif (ao x28 (x10.length))then(letB (x10.set (Int.toNat x28) (bt x2 (IntKind.wrap .i64 ((IntKind.wrap .i64 (x9.1+x28))-x1)))) fun r4=>nY.b x1 x2 x6 x7 x8 x9 r4 x17 x18 x27 (IntKind.wrap .i64 (x28+1)))else none)else none)else nY.b x1 x2 x6 x7 x8 x9 x10 x17 x18 x27 (IntKind.wrap .i64 (x28+1)))else(bif (ao x8 (x7.length))then(letB (x7.set (Int.toNat x8) ((rd (τ:=Y0) x7 x8).1,(rd (τ:=Y0) x7 x8).2.1,(aC x10))) fun r2=>nY.a x1 x2 x6 r2 x17 (IntKind.wrap .i64 (x18+1)))else none):=
 (ak cfg 281 _ _ _).trans (by kernel_rfl)
noncomputable def CU (a0:List D1) (a1 a2:Int):Option (List D1):=au cfg 330 [.agg [.list Y0 a0],.v (.int .i64 a1),.v (.int .i64 a2)]
noncomputable def CU.a (x1 x2:Int) (x3 x6:List D1) (x7:Int):Option (List D1):=LA 330 Tryz.f330 [1,1,0,0] ⟨36,af [vI 1 x1,vI 2 x2,vP 3 447,vP 6 831,vI 7 x7],ai [(447,.box [.list Y0 x3]),(800,.rows 200 Y0 .no x6),(831,.box [.own 800])]⟩
theorem Mg (a0:List D1) (a1 a2:Int):CU a0 a1 a2=CU.a a1 a2 a0 [] 0:=
 (aa cfg 330 _).trans (by kernel_rfl)
theorem CU.a_eq (x1 x2:Int) (x3 x6:List D1) (x7:Int):CU.a x1 x2 x3 x6 x7=av (fun kr6=>bif (decide (x7< (x3.length:Int)))then(bif (ao x7 (x3.length))then kr6 (decide ((rd (τ:=Y0) x3 x7).1<x1))else none)else kr6 false) fun(r2:Bool)=>bif r2 then CU.a x1 x2 x3 x6 (IntKind.wrap .i64 (x7+1))else((Z5 x3).bind fun r3=>(Z2 (⟨#[0]⟩:ByteArray) 128).bind fun r4=>(Z4 r3 x7 [(x1,x2,r4)]).bind fun r5=>some r5):=
 (ak cfg 330 _ _ _).trans (by kernel_rfl)
noncomputable def qQ (a0:List D1) (a1 a2:Int) (a3:ByteArray):Option (List D1):=au cfg 263 [.agg [.list Y0 a0],.v (.int .i64 a1),.v (.int .i64 a2),.v (.str a3)]
noncomputable def qQ.a (x1 x2:Int) (x3:ByteArray) (x4 x8:List D1) (x9:Int):Option (List D1):=LA 263 Tryz.f263 [1,0,1,0] ⟨26,af [vI 1 x1,vI 2 x2,(3,.v (.str x3)),vP 4 575,vP 8 1087,vI 9 x9],ai [(575,.box [.list Y0 x4]),(1056,.rows 200 Y0 .no x8),(1087,.box [.own 1056])]⟩
theorem Mh (a0:List D1) (a1 a2:Int) (a3:ByteArray):qQ a0 a1 a2 a3=qQ.a a1 a2 a3 a0 [] 0:=
 (aa cfg 263 _).trans (by kernel_rfl)
theorem qQ.a_eq (x1 x2:Int) (x3:ByteArray) (x4 x8:List D1) (x9:Int):qQ.a x1 x2 x3 x4 x8 x9=bif (decide (x9< (x3.size:Int)))then((CU x4 (IntKind.wrap .i64 (x1+x9)) x2).bind fun r2=>qQ.a x1 x2 x3 r2 x8 (IntKind.wrap .i64 (x9+128)))else((nY x4 x1 x3).bind fun r1=>some r1):=
 (ak cfg 263 _ _ _).trans (by kernel_rfl)
noncomputable def Dx (a0:ByteArray) (a1:Int):Option ByteArray:=au cfg 264 [.v (.str a0),.v (.int .i64 a1)]
theorem Mi (a0:ByteArray) (a1:Int):Dx a0 a1=(Z2 (⟨#[0]⟩:ByteArray) (IntKind.wrap .i64 (a1-(a0.size:Int)))).bind fun r1=>bif (decide (a0.size+r1.size≤9223372036854775807))then some (a0++r1)else none:=
 (aa cfg 264 _).trans (by kernel_rfl)
noncomputable def Dy (a0:D3):Option (List D1):=au cfg 193 [.agg [.str a0.1,.str a0.2.1,.list Y4 a0.2.2]]
noncomputable def Dy.a (x2 x3:List D1) (x21:Int):Option (List D1):=LA 193 Tryz.f193 [1,1,1,1,1,1,0,1,0] ⟨32,af [vP 2 319,vP 3 447,vI 21 x21],ai [(288,.rows 200 Y0 .no x2),(319,.box [.own 288]),(416,.rows 200 Y0 .no x3),(447,.box [.own 416])]⟩
theorem Mj (a0:D3):Dy a0=(Dx a0.1 1024).bind fun r1=>(qQ [] 4096 4 r1).bind fun r2=>(Dx (⟨#[]⟩:ByteArray) 1024).bind fun r3=>(qQ r2 8192 4 r3).bind fun r4=>(Dx a0.2.1 256).bind fun r5=>(qQ r4 16384 3 r5).bind fun r6=>(Dx (⟨#[]⟩:ByteArray) 256).bind fun r7=>(qQ r6 20480 3 r7).bind fun r8=>Dy.a [] r8 0:=
 (aa cfg 193 _).trans (by kernel_rfl)
theorem Dy.a_eq (x2 x3:List D1) (x21:Int):Dy.a x2 x3 x21=bif (decide (x21<4))then((Dx (⟨#[]⟩:ByteArray) 512).bind fun r9=>(qQ x3 (IntKind.wrap .i64 (32768+(IntKind.wrap .i64 (1024*x21)))) 11 r9).bind fun r10=>Dy.a x2 r10 (IntKind.wrap .i64 (x21+1)))else some x3:=
 (ak cfg 193 _ _ _).trans (by kernel_rfl)
noncomputable def RF (a0:D3):Option wT:=au cfg 117 [.agg [.str a0.1,.str a0.2.1,.list Y4 a0.2.2]]
theorem Mk (a0:D3):RF a0=(Dw a0).bind fun r1=>(CT a0).bind fun r2=>(Dy a0).bind fun r3=>some (r1,r2,r3,(8192,1024,8192),20480,256,20480):=
 (aa cfg 117 _).trans (by kernel_rfl)
noncomputable def G8 (a0:List ByteArray) (a1:ByteArray):Option Int:=au cfg 375 [.v (.list .str a0),.v (.str a1)]
noncomputable def G8.a (x0:List ByteArray) (x1:ByteArray) (x7 x8:Int):Option Int:=LA 375 Tryz.f375 [1,0,1,0] ⟨19,af [vL 0 .str x0,(1,.v (.str x1)),vI 7 x7,vI 8 x8],ai []⟩
theorem Ml (a0:List ByteArray) (a1:ByteArray):G8 a0 a1=G8.a a0 a1 (a0.length:Int) 0:=
 (aa cfg 375 _).trans (by kernel_rfl)
theorem G8.a_eq (x0:List ByteArray) (x1:ByteArray) (x7 x8:Int):G8.a x0 x1 x7 x8=bif (decide (x8<x7))then(bif (ao x8 (x0.length))then(bif (bo x1 (rd (τ:= .str) x0 x8))then some x8 else G8.a x0 x1 x7 (IntKind.wrap .i64 (x8+1)))else none)else some (-1):=
 (ak cfg 375 _ _ _).trans (by kernel_rfl)
noncomputable def RG (a0:List ByteArray) (a1:ByteArray):Option Bool:=au cfg 334 [.v (.list .str a0),.v (.str a1)]
theorem Mm (a0:List ByteArray) (a1:ByteArray):RG a0 a1=(G8 a0 a1).bind fun r1=>some (decide (r1≥0)):=
 (aa cfg 334 _).trans (by kernel_rfl)
noncomputable def qR (a0:D9) (a1:Int):Option (List ByteArray):=au cfg 335 [.agg [.str a0.1,.int .i64 a0.2.1,.list Y5 a0.2.2.1,.list (.pair .str .str) a0.2.2.2.1,.list Y6 a0.2.2.2.2.1,.list (.pair (.int .i64) .bool) a0.2.2.2.2.2],.v (.int .i64 a1)]
noncomputable def qR.a (x1:Int) (x2:D9) (x5:List ByteArray) (x11:List D6) (x12 x13:Int):Option (List ByteArray):=LA 335 Tryz.f335 [1,1,0,1,0] ⟨39,af [vI 1 x1,vP 2 319,(5,.v (.own 672)),vL 11 Y5 x11,vI 12 x12,vI 13 x13],ai [(319,.box [.str x2.1,.int .i64 x2.2.1,.list Y5 x2.2.2.1,.list (.pair .str .str) x2.2.2.2.1,.list Y6 x2.2.2.2.2.1,.list (.pair (.int .i64) .bool) x2.2.2.2.2.2]),(672,.rows 9 .str .no x5)]⟩
noncomputable def qR.b (x1:Int) (x5:List ByteArray) (x24:List D7) (x25 x26:Int):Option (List ByteArray):=LA 335 Tryz.f335 [1,1,1,0,1,0] ⟨39,af [vI 1 x1,(5,.v (.own 672)),vL 24 (.pair .str .str) x24,vI 25 x25,vI 26 x26],ai [(672,.rows 9 .str .no x5)]⟩
theorem Mn (a0:D9) (a1:Int):qR a0 a1=qR.a a1 a0 [] a0.2.2.1 (a0.2.2.1.length:Int) 0:=
 (aa cfg 335 _).trans (by kernel_rfl)
theorem qR.a_eq (x1:Int) (x2:D9) (x5:List ByteArray) (x11:List D6) (x12 x13:Int):qR.a x1 x2 x5 x11 x12 x13=bif (decide (x13<x12))then(bif (ao x13 (x11.length))then(bif (ar ((x5.length)+([(rd (τ:=Y5) x11 x13).1].length)) 16)then qR.a x1 x2 (x5++[(rd (τ:=Y5) x11 x13).1]) x11 x12 (IntKind.wrap .i64 (x13+1))else none)else none)else qR.b x1 x5 x2.2.2.2.1 (x2.2.2.2.1.length:Int) 0:=
 (ak cfg 335 _ _ _).trans (by kernel_rfl)
theorem qR.b_eq (x1:Int) (x5:List ByteArray) (x24:List D7) (x25 x26:Int):qR.b x1 x5 x24 x25 x26=bif (decide (x26<x25))then(bif (ao x26 (x24.length))then(bif (ar ((x5.length)+([(rd (τ:=(.pair .str .str)) x24 x26).1].length)) 16)then qR.b x1 (x5++[(rd (τ:=(.pair .str .str)) x24 x26).1]) x24 x25 (IntKind.wrap .i64 (x26+1))else none)else none)else(bif (decide (0≤0)&&decide (0≤x1)&&decide (x1≤(x5.length:Int)))then some ((x5.take (Int.toNat x1)).drop (Int.toNat 0))else none):=
 (ak cfg 335 _ _ _).trans (by kernel_rfl)
noncomputable def Qu (a0:D9) (a1:ByteArray) (a2:Int):Option Int:=au cfg 266 [.agg [.str a0.1,.int .i64 a0.2.1,.list Y5 a0.2.2.1,.list (.pair .str .str) a0.2.2.2.1,.list Y6 a0.2.2.2.2.1,.list (.pair (.int .i64) .bool) a0.2.2.2.2.2],.v (.str a1),.v (.int .i64 a2)]
theorem Mo (a0:D9) (a1:ByteArray) (a2:Int):Qu a0 a1 a2=(oD a1).bind fun r1=>bif (!r1)then some 3 else((qR a0 a2).bind fun r2=>(RG r2 a1).bind fun r3=>bif r3 then some 24 else some 0):=
 (aa cfg 266 _).trans (by kernel_rfl)
noncomputable def rF (a0:D9):Option (List Int):=au cfg 337 [.agg [.str a0.1,.int .i64 a0.2.1,.list Y5 a0.2.2.1,.list (.pair .str .str) a0.2.2.2.1,.list Y6 a0.2.2.2.2.1,.list (.pair (.int .i64) .bool) a0.2.2.2.2.2]]
noncomputable def rF.a (x1:D9) (x3:List Int) (x9:List D6) (x10 x11:Int):Option (List Int):=LA 337 Tryz.f337 [1,1,0,1,0] ⟨39,af [vP 1 191,(3,.v (.own 416)),vL 9 Y5 x9,vI 10 x10,vI 11 x11],ai [(191,.box [.str x1.1,.int .i64 x1.2.1,.list Y5 x1.2.2.1,.list (.pair .str .str) x1.2.2.2.1,.list Y6 x1.2.2.2.2.1,.list (.pair (.int .i64) .bool) x1.2.2.2.2.2]),(416,.rows 3 (.int .i64) .no x3)]⟩
noncomputable def rF.b (x3:List Int) (x24:List D7) (x25 x26:Int):Option (List Int):=LA 337 Tryz.f337 [1,1,1,0,1,0] ⟨39,af [(3,.v (.own 416)),vL 24 (.pair .str .str) x24,vI 25 x25,vI 26 x26],ai [(416,.rows 3 (.int .i64) .no x3)]⟩
theorem Mp (a0:D9):rF a0=rF.a a0 [] a0.2.2.1 (a0.2.2.1.length:Int) 0:=
 (aa cfg 337 _).trans (by kernel_rfl)
theorem rF.a_eq (x1:D9) (x3:List Int) (x9:List D6) (x10 x11:Int):rF.a x1 x3 x9 x10 x11=bif (decide (x11<x10))then(bif (ao x11 (x9.length))then(bif (ar ((x3.length)+([(IntKind.wrap .i64 ((((rd (τ:=Y5) x9 x11).2.2.2).size:Int).tdiv 4))].length)) 8)then rF.a x1 (x3++[(IntKind.wrap .i64 ((((rd (τ:=Y5) x9 x11).2.2.2).size:Int).tdiv 4))]) x9 x10 (IntKind.wrap .i64 (x11+1))else none)else none)else rF.b x3 x1.2.2.2.1 (x1.2.2.2.1.length:Int) 0:=
 (ak cfg 337 _ _ _).trans (by kernel_rfl)
theorem rF.b_eq (x3:List Int) (x24:List D7) (x25 x26:Int):rF.b x3 x24 x25 x26=bif (decide (x26<x25))then(bif (ao x26 (x24.length))then(bif (ar ((x3.length)+([(IntKind.wrap .i64 ((((rd (τ:=(.pair .str .str)) x24 x26).2).size:Int).tdiv 8))].length)) 8)then rF.b (x3++[(IntKind.wrap .i64 ((((rd (τ:=(.pair .str .str)) x24 x26).2).size:Int).tdiv 8))]) x24 x25 (IntKind.wrap .i64 (x26+1))else none)else none)else some x3:=
 (ak cfg 337 _ _ _).trans (by kernel_rfl)
noncomputable def RH (a0:D9) (a1:Int):Option Int:=au cfg 269 [.agg [.str a0.1,.int .i64 a0.2.1,.list Y5 a0.2.2.1,.list (.pair .str .str) a0.2.2.2.1,.list Y6 a0.2.2.2.2.1,.list (.pair (.int .i64) .bool) a0.2.2.2.2.2],.v (.int .i64 a1)]
theorem Mq (a0:D9) (a1:Int):RH a0 a1=bif (ao a1 (a0.2.2.2.2.1.length))then((rF a0).bind fun r1=>av (fun kr14=>(gg ((rd (τ:=Y6) a0.2.2.2.2.1 a1).1) 0 (IntKind.wrap .i64 ((r1.length:Int)-1))).bind fun r2=>bif (!r2)then kr14 true else(bif (ao ((rd (τ:=Y6) a0.2.2.2.2.1 a1).1) (r1.length))then((gg ((rd (τ:=Y6) a0.2.2.2.2.1 a1).2.1) 0 (IntKind.wrap .i64 ((rd (τ:=(.int .i64)) r1 ((rd (τ:=Y6) a0.2.2.2.2.1 a1).1))-1))).bind fun r3=>kr14 (!r3))else none)) fun(r5:Bool)=>bif r5 then some 4 else(av (fun kr13=>(gg ((rd (τ:=Y6) a0.2.2.2.2.1 a1).2.2.1) 1 9).bind fun r6=>bif (!r6)then kr13 true else kr13 (!((decide ((rd (τ:=Y6) a0.2.2.2.2.1 a1).2.2.1=9))==(decide ((rd (τ:=Y6) a0.2.2.2.2.1 a1).1≥(a0.2.2.1.length:Int)))))) fun(r8:Bool)=>bif r8 then some 26 else((oD ((rd (τ:=Y6) a0.2.2.2.2.1 a1).2.2.2.1)).bind fun r9=>bif (!r9)then some 3 else((gg ((rd (τ:=Y6) a0.2.2.2.2.1 a1).2.2.2.2) (-2147483648) 2147483647).bind fun r10=>bif (!r10)then some 4 else(bif (decide (a1>0))then(bif (ao (IntKind.wrap .i64 (a1-1)) (a0.2.2.2.2.1.length))then(bif (decide ((rd (τ:=Y6) a0.2.2.2.2.1 a1).1< (rd (τ:=Y6) a0.2.2.2.2.1 (IntKind.wrap .i64 (a1-1))).1))then some 24 else(bif (decide ((rd (τ:=Y6) a0.2.2.2.2.1 a1).1=(rd (τ:=Y6) a0.2.2.2.2.1 (IntKind.wrap .i64 (a1-1))).1))then(bif (decide ((rd (τ:=Y6) a0.2.2.2.2.1 a1).2.1≤(rd (τ:=Y6) a0.2.2.2.2.1 (IntKind.wrap .i64 (a1-1))).2.1))then some 24 else some 0)else some 0))else none)else some 0)))))else none:=
 (aa cfg 269 _).trans (by kernel_rfl)
noncomputable def gT (a0:D9):Option (Int×Int):=au cfg 194 [.agg [.str a0.1,.int .i64 a0.2.1,.list Y5 a0.2.2.1,.list (.pair .str .str) a0.2.2.2.1,.list Y6 a0.2.2.2.2.1,.list (.pair (.int .i64) .bool) a0.2.2.2.2.2]]
noncomputable def gT.a (x1:D9) (x53:List D6) (x54 x55:Int):Option (Int×Int):=LA 194 Tryz.f194 [1,1,0,1,0] ⟨165,af [vP 1 191,vL 53 Y5 x53,vI 54 x54,vI 55 x55],ai [(191,.box [.str x1.1,.int .i64 x1.2.1,.list Y5 x1.2.2.1,.list (.pair .str .str) x1.2.2.2.1,.list Y6 x1.2.2.2.2.1,.list (.pair (.int .i64) .bool) x1.2.2.2.2.2])]⟩
noncomputable def gT.b (x1:D9) (x84:List D7) (x85 x86:Int):Option (Int×Int):=LA 194 Tryz.f194 [1,1,1,0,1,0] ⟨165,af [vP 1 191,vL 84 (.pair .str .str) x84,vI 85 x85,vI 86 x86],ai [(191,.box [.str x1.1,.int .i64 x1.2.1,.list Y5 x1.2.2.1,.list (.pair .str .str) x1.2.2.2.1,.list Y6 x1.2.2.2.2.1,.list (.pair (.int .i64) .bool) x1.2.2.2.2.2])]⟩
noncomputable def gT.c (x1:D9) (x122 x123:Int):Option (Int×Int):=LA 194 Tryz.f194 [1,1,1,1,0,1,0] ⟨165,af [vP 1 191,vI 122 x122,vI 123 x123],ai [(191,.box [.str x1.1,.int .i64 x1.2.1,.list Y5 x1.2.2.1,.list (.pair .str .str) x1.2.2.2.1,.list Y6 x1.2.2.2.2.1,.list (.pair (.int .i64) .bool) x1.2.2.2.2.2])]⟩
noncomputable def gT.d (x1:D9) (x135:List (Int×Bool)) (x136 x137:Int):Option (Int×Int):=LA 194 Tryz.f194 [1,1,1,1,1,0,1,0] ⟨165,af [vP 1 191,vL 135 (.pair (.int .i64) .bool) x135,vI 136 x136,vI 137 x137],ai [(191,.box [.str x1.1,.int .i64 x1.2.1,.list Y5 x1.2.2.1,.list (.pair .str .str) x1.2.2.2.1,.list Y6 x1.2.2.2.2.1,.list (.pair (.int .i64) .bool) x1.2.2.2.2.2])]⟩
theorem Mr (a0:D9):gT a0=(oD a0.1).bind fun r1=>bif (!r1)then some (0,3)else((gg a0.2.1 0 5).bind fun r2=>bif (!r2)then some (0,27)else(bif (decide ((a0.2.2.1.length:Int)=0))then some (0,5)else(bif (decide ((a0.2.2.1.length:Int)>4))then some (0,6)else(bif (decide ((a0.2.2.2.1.length:Int)>4))then some (0,6)else(bif (decide ((a0.2.2.2.2.1.length:Int)>32))then some (0,6)else(bif (decide ((a0.2.2.2.2.2.length:Int)>4))then some (0,6)else gT.a a0 a0.2.2.1 (a0.2.2.1.length:Int) 0)))))):=
 (aa cfg 194 _).trans (by kernel_rfl)
theorem gT.a_eq (x1:D9) (x53:List D6) (x54 x55:Int):gT.a x1 x53 x54 x55=bif (decide (x55<x54))then(bif (ao x55 (x53.length))then((Qu x1 ((rd (τ:=Y5) x53 x55).1) x55).bind fun r33=>bif (!decide (r33=0))then some (x55,r33)else((PM ((rd (τ:=Y5) x53 x55).2.2.1)).bind fun r34=>bif (!r34)then some (x55,17)else((Qm ((rd (τ:=Y5) x53 x55).2.2.2)).bind fun r35=>bif (!r35)then some (x55,8)else gT.a x1 x53 x54 (IntKind.wrap .i64 (x55+1)))))else none)else gT.b x1 x1.2.2.2.1 (x1.2.2.2.1.length:Int) 0:=
 (ak cfg 194 _ _ _).trans (by kernel_rfl)
theorem gT.b_eq (x1:D9) (x84:List D7) (x85 x86:Int):gT.b x1 x84 x85 x86=bif (decide (x86<x85))then(bif (ao x86 (x84.length))then((Qu x1 ((rd (τ:=(.pair .str .str)) x84 x86).1) (IntKind.wrap .i64 ((x1.2.2.1.length:Int)+x86))).bind fun r36=>bif (!decide (r36=0))then some (x86,r36)else((gg (((rd (τ:=(.pair .str .str)) x84 x86).2).size:Int) 8 64).bind fun r37=>bif (!r37)then some (x86,8)else(bif (!decide (((((rd (τ:=(.pair .str .str)) x84 x86).2).size:Int).tmod 8)=0))then some (x86,8)else gT.b x1 x84 x85 (IntKind.wrap .i64 (x86+1)))))else none)else gT.c x1 (x1.2.2.2.2.1.length:Int) 0:=
 (ak cfg 194 _ _ _).trans (by kernel_rfl)
theorem gT.c_eq (x1:D9) (x122 x123:Int):gT.c x1 x122 x123=bif (decide (x123<x122))then((RH x1 x123).bind fun r46=>bif (!decide (r46=0))then some (x123,r46)else gT.c x1 x122 (IntKind.wrap .i64 (x123+1)))else gT.d x1 x1.2.2.2.2.2 (x1.2.2.2.2.2.length:Int) 0:=
 (ak cfg 194 _ _ _).trans (by kernel_rfl)
theorem gT.d_eq (x1:D9) (x135:List (Int×Bool)) (x136 x137:Int):gT.d x1 x135 x136 x137=bif (decide (x137<x136))then(bif (ao x137 (x135.length))then((gg ((rd (τ:=(.pair (.int .i64) .bool)) x135 x137).1) 0 255).bind fun r47=>bif (!r47)then some (x137,4)else(bif (decide (x137>0))then(bif (ao (IntKind.wrap .i64 (x137-1)) (x1.2.2.2.2.2.length))then(bif (decide ((rd (τ:=(.pair (.int .i64) .bool)) x135 x137).1≤(rd (τ:=(.pair (.int .i64) .bool)) x1.2.2.2.2.2 (IntKind.wrap .i64 (x137-1))).1))then some (x137,24)else gT.d x1 x135 x136 (IntKind.wrap .i64 (x137+1)))else none)else gT.d x1 x135 x136 (IntKind.wrap .i64 (x137+1))))else none)else some (0,0):=
 (ak cfg 194 _ _ _).trans (by kernel_rfl)
noncomputable def PP (a0:D9):Option Bool:=au cfg 118 [.agg [.str a0.1,.int .i64 a0.2.1,.list Y5 a0.2.2.1,.list (.pair .str .str) a0.2.2.2.1,.list Y6 a0.2.2.2.2.1,.list (.pair (.int .i64) .bool) a0.2.2.2.2.2]]
theorem Ms (a0:D9):PP a0=(gT a0).bind fun r1=>some (decide (r1.2=0)):=
 (aa cfg 118 _).trans (by kernel_rfl)
noncomputable def Se (a0:Int×Bool) (a1:Int):Option Bool:=au cfg 271 [.agg [.int .i64 a0.1,.bool a0.2],.v (.cptr (.int .i64) a1 0)]
theorem Mt (a0:Int×Bool) (a1:Int):Se a0 a1=some (decide (a0.1=a1)):=
 (aa cfg 271 _).trans (by kernel_rfl)
noncomputable def G9 (c1_0:Int) (a0:List (Int×Bool)):Option Int:=au cfg 270 [.v (.list (.pair (.int .i64) .bool) a0),.v (.fn 271 [.cref (.int .i64) c1_0])]
noncomputable def G9.a (c1_0:Int) (x0:List (Int×Bool)) (x7 x8:Int):Option Int:=LA 270 Tryz.f270 [1,0,1,0] ⟨19,af [vL 0 (.pair (.int .i64) .bool) x0,(1,.v (.fn 271 [.cref (.int .i64) c1_0])),vI 7 x7,vI 8 x8],ai []⟩
theorem Mu (c1_0:Int) (a0:List (Int×Bool)):G9 c1_0 a0=G9.a c1_0 a0 (a0.length:Int) 0:=
 (aa cfg 270 _).trans (by kernel_rfl)
theorem G9.a_eq (c1_0:Int) (x0:List (Int×Bool)) (x7 x8:Int):G9.a c1_0 x0 x7 x8=bif (decide (x8<x7))then(bif (ao x8 (x0.length))then((Se (rd (τ:=(.pair (.int .i64) .bool)) x0 x8) c1_0).bind fun r1=>bif r1 then some x8 else G9.a c1_0 x0 x7 (IntKind.wrap .i64 (x8+1)))else none)else some (-1):=
 (ak cfg 270 _ _ _).trans (by kernel_rfl)
noncomputable def Sf (c1_0:Int) (a0:List (Int×Bool)):Option Bool:=au cfg 195 [.v (.list (.pair (.int .i64) .bool) a0),.v (.fn 271 [.cref (.int .i64) c1_0])]
theorem Mv (c1_0:Int) (a0:List (Int×Bool)):Sf c1_0 a0=(G9 c1_0 a0).bind fun r1=>some (decide (r1≥0)):=
 (aa cfg 195 _).trans (by kernel_rfl)
noncomputable def RI (a0:D9) (a1:Int):Option Bool:=au cfg 197 [.agg [.str a0.1,.int .i64 a0.2.1,.list Y5 a0.2.2.1,.list (.pair .str .str) a0.2.2.2.1,.list Y6 a0.2.2.2.2.1,.list (.pair (.int .i64) .bool) a0.2.2.2.2.2],.v (.int .i64 a1)]
theorem Mw (a0:D9) (a1:Int):RI a0 a1=(Sf a1 a0.2.2.2.2.2).bind fun r1=>some r1:=
 (aa cfg 197 _).trans (by kernel_rfl)
noncomputable def Si (a0:Int×Bool) (a1:D9):Option Bool:=au cfg 196 [.agg [.int .i64 a0.1,.bool a0.2],.v (.cptr Y7 a1 0)]
theorem Mx (a0:Int×Bool) (a1:D9):Si a0 a1=(RI a1 a0.1).bind fun r1=>some r1:=
 (aa cfg 196 _).trans (by kernel_rfl)
noncomputable def Ha (c1_0:D9) (a0:List (Int×Bool)):Option Int:=au cfg 270 [.v (.list (.pair (.int .i64) .bool) a0),.v (.fn 196 [.cref Y7 c1_0])]
noncomputable def Ha.a (c1_0:D9) (x0:List (Int×Bool)) (x7 x8:Int):Option Int:=LA 270 Tryz.f270 [1,0,1,0] ⟨19,af [vL 0 (.pair (.int .i64) .bool) x0,(1,.v (.fn 196 [.cref Y7 c1_0])),vI 7 x7,vI 8 x8],ai []⟩
theorem My (c1_0:D9) (a0:List (Int×Bool)):Ha c1_0 a0=Ha.a c1_0 a0 (a0.length:Int) 0:=
 (aa cfg 270 _).trans (by kernel_rfl)
theorem Ha.a_eq (c1_0:D9) (x0:List (Int×Bool)) (x7 x8:Int):Ha.a c1_0 x0 x7 x8=bif (decide (x8<x7))then(bif (ao x8 (x0.length))then((Si (rd (τ:=(.pair (.int .i64) .bool)) x0 x8) c1_0).bind fun r1=>bif r1 then some x8 else Ha.a c1_0 x0 x7 (IntKind.wrap .i64 (x8+1)))else none)else some (-1):=
 (ak cfg 270 _ _ _).trans (by kernel_rfl)
noncomputable def Sj (c1_0:D9) (a0:List (Int×Bool)):Option Bool:=au cfg 195 [.v (.list (.pair (.int .i64) .bool) a0),.v (.fn 196 [.cref Y7 c1_0])]
theorem Mz (c1_0:D9) (a0:List (Int×Bool)):Sj c1_0 a0=(Ha c1_0 a0).bind fun r1=>some (decide (r1≥0)):=
 (aa cfg 195 _).trans (by kernel_rfl)
noncomputable def RJ (a0 a1:D9):Option Bool:=au cfg 119 [.agg [.str a0.1,.int .i64 a0.2.1,.list Y5 a0.2.2.1,.list (.pair .str .str) a0.2.2.2.1,.list Y6 a0.2.2.2.2.1,.list (.pair (.int .i64) .bool) a0.2.2.2.2.2],.agg [.str a1.1,.int .i64 a1.2.1,.list Y5 a1.2.2.1,.list (.pair .str .str) a1.2.2.2.1,.list Y6 a1.2.2.2.2.1,.list (.pair (.int .i64) .bool) a1.2.2.2.2.2]]
theorem MA (a0 a1:D9):RJ a0 a1=(Sj a1 a0.2.2.2.2.2).bind fun r1=>some r1:=
 (aa cfg 119 _).trans (by kernel_rfl)
noncomputable def Sk (a0:D0) (a1:ByteArray):Option Bool:=au cfg 280 [.agg [.str a0.1,.int .i64 a0.2.1,.int .i64 a0.2.2.1,.int .i64 a0.2.2.2.1,.int .i64 a0.2.2.2.2.1,.int .i64 a0.2.2.2.2.2],.v (.cptr .str a1 0)]
theorem MB (a0:D0) (a1:ByteArray):Sk a0 a1=some (bo a0.1 a1):=
 (aa cfg 280 _).trans (by kernel_rfl)
noncomputable def Hb (c1_0:ByteArray) (a0:List D0):Option Int:=au cfg 279 [.v (.list Y1 a0),.v (.fn 280 [.cref .str c1_0])]
noncomputable def Hb.a (c1_0:ByteArray) (x0:List D0) (x7 x8:Int):Option Int:=LA 279 Tryz.f279 [1,0,1,0] ⟨19,af [vL 0 Y1 x0,(1,.v (.fn 280 [.cref .str c1_0])),vI 7 x7,vI 8 x8],ai []⟩
theorem MC (c1_0:ByteArray) (a0:List D0):Hb c1_0 a0=Hb.a c1_0 a0 (a0.length:Int) 0:=
 (aa cfg 279 _).trans (by kernel_rfl)
theorem Hb.a_eq (c1_0:ByteArray) (x0:List D0) (x7 x8:Int):Hb.a c1_0 x0 x7 x8=bif (decide (x8<x7))then(bif (ao x8 (x0.length))then((Sk (rd (τ:=Y1) x0 x8) c1_0).bind fun r1=>bif r1 then some x8 else Hb.a c1_0 x0 x7 (IntKind.wrap .i64 (x8+1)))else none)else some (-1):=
 (ak cfg 279 _ _ _).trans (by kernel_rfl)
noncomputable def IU (a0:List D0) (a1:ByteArray):Option Int:=au cfg 200 [.v (.list Y1 a0),.v (.str a1)]
theorem MD (a0:List D0) (a1:ByteArray):IU a0 a1=(Hb a1 a0).bind fun r1=>some r1:=
 (aa cfg 200 _).trans (by kernel_rfl)
noncomputable def RK (a0:D0):Option Bool:=au cfg 206 [.agg [.str a0.1,.int .i64 a0.2.1,.int .i64 a0.2.2.1,.int .i64 a0.2.2.2.1,.int .i64 a0.2.2.2.2.1,.int .i64 a0.2.2.2.2.2]]
theorem ME (a0:D0):RK a0=(oD a0.1).bind fun r1=>bif r1 then((Qn a0.2.2.1).bind fun r2=>bif r2 then((gg a0.2.2.2.1 1 1024).bind fun r3=>bif r3 then((gg a0.2.2.2.2.2 0 6).bind fun r4=>bif r4 then(bif (decide (a0.2.1=1))then((PM a0.2.2.2.2.1).bind fun r5=>bif r5 then some true else(bif (decide (a0.2.1=2))then some (decide (a0.2.2.2.2.1=0))else some false))else(bif (decide (a0.2.1=2))then some (decide (a0.2.2.2.2.1=0))else some false))else some false)else some false)else some false)else some false:=
 (aa cfg 206 _).trans (by kernel_rfl)
noncomputable def Al (a0:List D0):Option Bool:=au cfg 124 [.v (.list Y1 a0)]
noncomputable def Al.a (x0 x8:List D0) (x9 x10:Int):Option Bool:=LA 124 Tryz.f124 [1,1,0,1,0] ⟨28,af [vL 0 Y1 x0,vL 8 Y1 x8,vI 9 x9,vI 10 x10],ai []⟩
theorem MF (a0:List D0):Al a0=bif (decide ((a0.length:Int)>64))then some false else Al.a a0 a0 (a0.length:Int) 0:=
 (aa cfg 124 _).trans (by kernel_rfl)
theorem Al.a_eq (x0 x8:List D0) (x9 x10:Int):Al.a x0 x8 x9 x10=bif (decide (x10<x9))then(bif (ao x10 (x8.length))then((RK (rd (τ:=Y1) x8 x10)).bind fun r1=>bif (!r1)then some false else(bif (decide (0≤0)&&decide (0≤x10)&&decide (x10≤(x0.length:Int)))then((IU ((x0.take (Int.toNat x10)).drop (Int.toNat 0)) ((rd (τ:=Y1) x8 x10).1)).bind fun r2=>bif (decide (r2≥0))then some false else Al.a x0 x8 x9 (IntKind.wrap .i64 (x10+1)))else none))else none)else some true:=
 (ak cfg 124 _ _ _).trans (by kernel_rfl)
noncomputable def Qv (a0:Int×Int×Int):Option Bool:=au cfg 272 [.agg [.int .i64 a0.1,.int .i64 a0.2.1,.int .i64 a0.2.2]]
theorem MG (a0:Int×Int×Int):Qv a0=(gg a0.1 0 1048575).bind fun r1=>bif r1 then((gg a0.2.1 0 (IntKind.wrap .i64 (1048576-a0.1))).bind fun r2=>bif r2 then((gg a0.2.2 a0.1 (IntKind.wrap .i64 (a0.1+a0.2.1))).bind fun r3=>bif r3 then(bif (decide ((a0.1.tmod 8)=0))then(bif (decide ((a0.2.1.tmod 8)=0))then some (decide ((a0.2.2.tmod 8)=0))else some false)else some false)else some false)else some false)else some false:=
 (aa cfg 272 _).trans (by kernel_rfl)
noncomputable def qS (a0:mi):Option Int:=au cfg 273 [.v (.cptr oC a0 0)]
noncomputable def qS.a (x0:mi) (x12:List D6) (x13 x14:Int):Option Int:=LA 273 Tryz.f273 [1,0,1,0] ⟨74,af [(0,.v (.cptr oC x0 0)),vL 12 Y5 x12,vI 13 x13,vI 14 x14],ai []⟩
noncomputable def qS.b (x0:mi) (x59:List D7) (x60 x61:Int):Option Int:=LA 273 Tryz.f273 [1,1,0,1,0] ⟨74,af [(0,.v (.cptr oC x0 0)),vL 59 (.pair .str .str) x59,vI 60 x60,vI 61 x61],ai []⟩
theorem MH (a0:mi):qS a0=qS.a a0 a0.2.2.2.2.1 (a0.2.2.2.2.1.length:Int) 0:=
 (aa cfg 273 _).trans (by kernel_rfl)
theorem qS.a_eq (x0:mi) (x12:List D6) (x13 x14:Int):qS.a x0 x12 x13 x14=bif (decide (x14<x13))then(bif (ao x14 (x12.length))then((IU x0.2.1 ((rd (τ:=Y5) x12 x14).1)).bind fun r1=>av (fun kr13=>bif (rd (τ:=Y5) x12 x14).2.1 then kr13 (decide (r1<0))else kr13 false) fun(r2:Bool)=>bif r2 then some 23 else(av (fun kr10=>bif (rd (τ:=Y5) x12 x14).2.1 then(bif (ao r1 (x0.2.1.length))then kr10 (!decide ((rd (τ:=Y1) x0.2.1 r1).2.1=1))else none)else kr10 false) fun(r4:Bool)=>bif r4 then some 26 else(bif (!(rd (τ:=Y5) x12 x14).2.1)then(bif (decide (r1≥0))then some 24 else qS.a x0 x12 x13 (IntKind.wrap .i64 (x14+1)))else qS.a x0 x12 x13 (IntKind.wrap .i64 (x14+1)))))else none)else qS.b x0 x0.2.2.2.2.2.1 (x0.2.2.2.2.2.1.length:Int) 0:=
 (ak cfg 273 _ _ _).trans (by kernel_rfl)
theorem qS.b_eq (x0:mi) (x59:List D7) (x60 x61:Int):qS.b x0 x59 x60 x61=bif (decide (x61<x60))then(bif (ao x61 (x59.length))then((IU x0.2.1 ((rd (τ:=(.pair .str .str)) x59 x61).1)).bind fun r18=>bif (decide (r18≥0))then some 24 else qS.b x0 x59 x60 (IntKind.wrap .i64 (x61+1)))else none)else some 0:=
 (ak cfg 273 _ _ _).trans (by kernel_rfl)
noncomputable def Qw (a0:Int×Int×Int) (a1:Int):Option Q6:=au cfg 274 [.agg [.int .i64 a0.1,.int .i64 a0.2.1,.int .i64 a0.2.2],.v (.int .i64 a1)]
theorem MI (a0:Int×Int×Int) (a1:Int):Qw a0 a1=bif (decide ((IntKind.wrap .i64 ((IntKind.wrap .i64 ((IntKind.wrap .i64 (a1+7)).tdiv 8))*8))>(IntKind.wrap .i64 ((IntKind.wrap .i64 (a0.1+a0.2.1))-a0.2.2))))then some (a0,0,false)else some ((a0.1,a0.2.1,(IntKind.wrap .i64 (a0.2.2+(IntKind.wrap .i64 ((IntKind.wrap .i64 ((IntKind.wrap .i64 (a1+7)).tdiv 8))*8))))),a0.2.2,true):=
 (aa cfg 274 _).trans (by kernel_rfl)
noncomputable def w6 (a0 a1:Int):Option ByteArray:=au cfg 283 [.v (.int .i64 a0),.v (.int .i64 a1)]
noncomputable def w6.a (x0 x1:Int) (x5:List Int):Option ByteArray:=LA 283 Tryz.f283 [1,1,0,0] ⟨19,af [vI 0 x0,vI 1 x1,(5,.v (.own 672))],ai [(672,.rows 5 (.int .u8) .no x5)]⟩
theorem MJ (a0 a1:Int):w6 a0 a1=w6.a a0 a1 []:=
 (aa cfg 283 _).trans (by kernel_rfl)
theorem w6.a_eq (x0 x1:Int) (x5:List Int):w6.a x0 x1 x5=bif (decide (x1>0))then(bif (ar ((x5.length)+([(IntKind.wrap .u8 (x0))].length)) 1)then w6.a (lH .i64 x0 8) (IntKind.wrap .i64 (x1-1)) (x5++[(IntKind.wrap .u8 (x0))])else none)else some (aC x5):=
 (ak cfg 283 _ _ _).trans (by kernel_rfl)
noncomputable def qT (a0:mi) (a1:ByteArray):Option (Int×Bool):=au cfg 338 [.v (.cptr oC a0 0),.v (.str a1)]
noncomputable def qT.a (x0:mi) (x1:ByteArray) (x15:List D6) (x16 x17:Int):Option (Int×Bool):=LA 338 Tryz.f338 [1,0,1,0] ⟨80,af [(0,.v (.cptr oC x0 0)),(1,.v (.str x1)),vL 15 Y5 x15,vI 16 x16,vI 17 x17],ai []⟩
noncomputable def qT.b (x0:mi) (x1:ByteArray) (x44:List D7) (x45 x46:Int):Option (Int×Bool):=LA 338 Tryz.f338 [1,1,0,1,0] ⟨80,af [(0,.v (.cptr oC x0 0)),(1,.v (.str x1)),vL 44 (.pair .str .str) x44,vI 45 x45,vI 46 x46],ai []⟩
theorem ML (a0:mi) (a1:ByteArray):qT a0 a1=qT.a a0 a1 a0.2.2.2.2.1 (a0.2.2.2.2.1.length:Int) 0:=
 (aa cfg 338 _).trans (by kernel_rfl)
theorem qT.a_eq (x0:mi) (x1:ByteArray) (x15:List D6) (x16 x17:Int):qT.a x0 x1 x15 x16 x17=bif (decide (x17<x16))then(bif (ao x17 (x15.length))then(bif (bo ((rd (τ:=Y5) x15 x17).1) x1)then(bif (!(rd (τ:=Y5) x15 x17).2.1)then(bif (ao x17 (x0.1.1.length))then some ((rd (τ:=(.int .i64)) x0.1.1 x17),true)else none)else qT.a x0 x1 x15 x16 (IntKind.wrap .i64 (x17+1)))else qT.a x0 x1 x15 x16 (IntKind.wrap .i64 (x17+1)))else none)else qT.b x0 x1 x0.2.2.2.2.2.1 (x0.2.2.2.2.2.1.length:Int) 0:=
 (ak cfg 338 _ _ _).trans (by kernel_rfl)
theorem qT.b_eq (x0:mi) (x1:ByteArray) (x44:List D7) (x45 x46:Int):qT.b x0 x1 x44 x45 x46=bif (decide (x46<x45))then(bif (ao x46 (x44.length))then(bif (bo ((rd (τ:=(.pair .str .str)) x44 x46).1) x1)then(bif (ao x46 (x0.1.2.2.1.length))then some ((rd (τ:=(.int .i64)) x0.1.2.2.1 x46),true)else none)else qT.b x0 x1 x44 x45 (IntKind.wrap .i64 (x46+1)))else none)else((IU x0.2.1 x1).bind fun r5=>bif (decide (r5<0))then some (0,false)else(bif (ao r5 (x0.2.1.length))then some ((rd (τ:=Y1) x0.2.1 r5).2.2.1,true)else none)):=
 (ak cfg 338 _ _ _).trans (by kernel_rfl)
noncomputable def Qx (a0:ByteArray) (a1:Int) (a2:ByteArray):Option ByteArray:=au cfg 339 [.v (.str a0),.v (.int .i64 a1),.v (.str a2)]
theorem MM (a0:ByteArray) (a1:Int) (a2:ByteArray):Qx a0 a1 a2=bif (decide (0≤0)&&decide (0≤a1)&&decide (a1≤(a0.size:Int)))then(bif (decide ((a0.extract (Int.toNat 0) (Int.toNat a1)).size+a2.size≤9223372036854775807))then(bif (decide (0≤(IntKind.wrap .i64 (a1+(a2.size:Int))))&&decide ((IntKind.wrap .i64 (a1+(a2.size:Int)))≤(a0.size:Int))&&decide ((a0.size:Int)≤(a0.size:Int)))then(bif (decide (((a0.extract (Int.toNat 0) (Int.toNat a1))++a2).size+(a0.extract (Int.toNat (IntKind.wrap .i64 (a1+(a2.size:Int)))) (Int.toNat (a0.size:Int))).size≤9223372036854775807))then some (((a0.extract (Int.toNat 0) (Int.toNat a1))++a2)++(a0.extract (Int.toNat (IntKind.wrap .i64 (a1+(a2.size:Int)))) (Int.toNat (a0.size:Int))))else none)else none)else none)else none:=
 (aa cfg 339 _).trans (by kernel_rfl)
noncomputable def PQ (a0:Int):Option Int:=au cfg 388 [.v (.int .i64 a0)]
theorem MN (a0:Int):PQ a0=some (tB .i64 (IntKind.wrap .i64 (a0+2048)) 4095):=
 (aa cfg 388 _).trans (by kernel_rfl)
noncomputable def OF (a0:Int):Option Int:=au cfg 389 [.v (.int .i64 a0)]
theorem MO (a0:Int):OF a0=(PQ a0).bind fun r1=>some (IntKind.wrap .i64 (a0-r1)):=
 (aa cfg 389 _).trans (by kernel_rfl)
noncomputable def Qy (a0:cz):Option Bool:=au cfg 390 [.agg [.int .i64 a0.1,.int .i64 a0.2.1,.int .i64 a0.2.2.1,.int .i64 a0.2.2.2.1,.int .i64 a0.2.2.2.2]]
theorem MP (a0:cz):Qy a0=(PN a0.1).bind fun r1=>bif (decide (r1.1=3))then some (!decide (a0.1=4))else some false:=
 (aa cfg 390 _).trans (by kernel_rfl)
noncomputable def RL (a0:cz) (a1 a2 a3:Int):Option (Int×Bool):=au cfg 376 [.agg [.int .i64 a0.1,.int .i64 a0.2.1,.int .i64 a0.2.2.1,.int .i64 a0.2.2.2.1,.int .i64 a0.2.2.2.2],.v (.int .i64 a1),.v (.int .i64 a2),.v (.int .i64 a3)]
theorem MQ (a0:cz) (a1 a2 a3:Int):RL a0 a1 a2 a3=bif (decide (a1=1))then((PQ a2).bind fun r1=>some (r1,(decide (a0.1=1))))else(bif (decide (a1=2))then((OF a2).bind fun r2=>(Qy a0).bind fun r3=>some (r2,r3))else(bif (decide (a1=3))then((OF a2).bind fun r4=>(OE a0.1).bind fun r5=>some (r4,r5))else(bif (decide (a1=4))then((PQ (IntKind.wrap .i64 (a2-a3))).bind fun r6=>some (r6,(decide (a0.1=2))))else(bif (decide (a1=5))then((OF (IntKind.wrap .i64 (a2-(IntKind.wrap .i64 (a3-4))))).bind fun r7=>(Qy a0).bind fun r8=>some (r7,r8))else(bif (decide (a1=6))then((OF (IntKind.wrap .i64 (a2-(IntKind.wrap .i64 (a3-4))))).bind fun r9=>(OE a0.1).bind fun r10=>some (r9,r10))else(bif (decide (a1=7))then some ((IntKind.wrap .i64 (a2-a3)),(decide (a0.1=3)))else((Qt a0.1).bind fun r11=>some ((IntKind.wrap .i64 (a2-a3)),r11)))))))):=
 (aa cfg 376 _).trans (by kernel_rfl)
noncomputable def RM (a0 a1:Int):Option Bool:=au cfg 377 [.v (.int .i64 a0),.v (.int .i64 a1)]
theorem MR (a0 a1:Int):RM a0 a1=bif (decide (a0=1))then((gg a1 (-2147483648) 2147479552).bind fun r1=>bif r1 then some (decide ((a1.tmod 4096)=0))else some false)else(bif (decide (a0=2))then((gg a1 (-1048576) 1048574).bind fun r4=>bif r4 then some (decide ((a1.tmod 2)=0))else some false)else(av (fun kr14=>bif (decide (a0=3))then kr14 (decide (a0=3))else kr14 (decide (a0=5))) fun(r7:Bool)=>bif r7 then((gg a1 (-2048) 2047).bind fun r8=>some r8)else(bif (decide (a0=4))then((gg a1 (-4096) 4094).bind fun r9=>bif r9 then some (decide ((a1.tmod 2)=0))else some false)else(bif (decide (a0=6))then((gg a1 0 63).bind fun r12=>some r12)else(bif (decide (a0=7))then((gg a1 0 31).bind fun r13=>some r13)else some (decide (a1=0))))))):=
 (aa cfg 377 _).trans (by kernel_rfl)
noncomputable def RN (a0 a1 a2 a3:Int):Option (Int×Int):=au cfg 340 [.v (.int .i64 a0),.v (.int .i64 a1),.v (.int .i64 a2),.v (.int .i64 a3)]
theorem MS (a0 a1 a2 a3:Int):RN a0 a1 a2 a3=(ml a0).bind fun r1=>bif (!r1.2)then some (0,10)else((RL r1.1 a1 a2 a3).bind fun r2=>bif (!r2.2)then some (0,26)else((PN r1.1.1).bind fun r3=>(RM r3.1 r2.1).bind fun r4=>bif (!r4)then some (0,25)else((w5 (r1.1.1,r1.1.2.1,r1.1.2.2.1,r1.1.2.2.2.1,r2.1)).bind fun r5=>some (r5,0)))):=
 (aa cfg 340 _).trans (by kernel_rfl)
noncomputable def RO (a0:mi) (a1:D8):Option SA:=au cfg 275 [.agg [.list (.int .i64) a0.1.1,.list .str a0.1.2.1,.list (.int .i64) a0.1.2.2.1,.list .str a0.1.2.2.2,.list Y1 a0.2.1,.str a0.2.2.1,.int .i64 a0.2.2.2.1,.list Y5 a0.2.2.2.2.1,.list (.pair .str .str) a0.2.2.2.2.2.1,.list Y6 a0.2.2.2.2.2.2.1,.list (.pair (.int .i64) .bool) a0.2.2.2.2.2.2.2],.agg [.int .i64 a1.1,.int .i64 a1.2.1,.int .i64 a1.2.2.1,.str a1.2.2.2.1,.int .i64 a1.2.2.2.2]]
theorem MT (a0:mi) (a1:D8):RO a0 a1=(qT a0 a1.2.2.2.1).bind fun r1=>bif (!r1.2)then some (23,a0)else(bif (decide ((IntKind.wrap .i64 (a1.1-(a0.2.2.2.2.1.length:Int)))≥0))then(bif (ao (IntKind.wrap .i64 (a1.1-(a0.2.2.2.2.1.length:Int))) (a0.1.2.2.2.length))then((w6 (IntKind.wrap .i64 (r1.1+a1.2.2.2.2)) 8).bind fun r2=>(Qx (rd (τ:= .str) a0.1.2.2.2 (IntKind.wrap .i64 (a1.1-(a0.2.2.2.2.1.length:Int)))) (IntKind.wrap .i64 (8*a1.2.1)) r2).bind fun r3=>bif (ao (IntKind.wrap .i64 (a1.1-(a0.2.2.2.2.1.length:Int))) (a0.1.2.2.2.length))then(letB (a0.1.2.2.2.set (Int.toNat (IntKind.wrap .i64 (a1.1-(a0.2.2.2.2.1.length:Int)))) r3) fun r4=>some (0,(a0.1.1,a0.1.2.1,a0.1.2.2.1,r4),a0.2))else none)else none)else(bif (ao a1.1 (a0.1.2.1.length))then(bif (decide (0≤(IntKind.wrap .i64 (4*a1.2.1)))&&decide ((IntKind.wrap .i64 (4*a1.2.1))≤(IntKind.wrap .i64 ((IntKind.wrap .i64 (4*a1.2.1))+4)))&&decide ((IntKind.wrap .i64 ((IntKind.wrap .i64 (4*a1.2.1))+4))≤((rd (τ:= .str) a0.1.2.1 a1.1).size:Int)))then((Ak ((rd (τ:= .str) a0.1.2.1 a1.1).extract (Int.toNat (IntKind.wrap .i64 (4*a1.2.1))) (Int.toNat (IntKind.wrap .i64 ((IntKind.wrap .i64 (4*a1.2.1))+4))))).bind fun r5=>bif (ao a1.1 (a0.1.1.length))then((RN r5 a1.2.2.1 (IntKind.wrap .i64 (r1.1+a1.2.2.2.2)) (IntKind.wrap .i64 ((rd (τ:=(.int .i64)) a0.1.1 a1.1)+(IntKind.wrap .i64 (4*a1.2.1))))).bind fun r6=>bif (decide (r6.2=0))then((w6 r6.1 4).bind fun r7=>(Qx (rd (τ:= .str) a0.1.2.1 a1.1) (IntKind.wrap .i64 (4*a1.2.1)) r7).bind fun r8=>bif (ao a1.1 (a0.1.2.1.length))then some (r6.2,(a0.1.1,(a0.1.2.1.set (Int.toNat a1.1) r8),a0.1.2.2),a0.2)else none)else some (r6.2,a0))else none)else none)else none)):=
 (aa cfg 275 _).trans (by kernel_rfl)
noncomputable def nL (a0:mi):Option (List Int):=au cfg 276 [.v (.cptr oC a0 0)]
noncomputable def nL.a (x0:mi) (x3:List Int) (x11:List D0) (x12 x13:Int):Option (List Int):=LA 276 Tryz.f276 [1,1,0,1,0] ⟨53,af [(0,.v (.cptr oC x0 0)),(3,.v (.own 416)),vL 11 Y1 x11,vI 12 x12,vI 13 x13],ai [(416,.rows 3 (.int .i64) .no x3)]⟩
noncomputable def nL.b (x0:mi) (x3:List Int) (x30:List D6) (x31 x32:Int):Option (List Int):=LA 276 Tryz.f276 [1,1,1,0,1,0] ⟨53,af [(0,.v (.cptr oC x0 0)),(3,.v (.own 416)),vL 30 Y5 x30,vI 31 x31,vI 32 x32],ai [(416,.rows 3 (.int .i64) .no x3)]⟩
theorem MU (a0:mi):nL a0=nL.a a0 [] a0.2.1 (a0.2.1.length:Int) 0:=
 (aa cfg 276 _).trans (by kernel_rfl)
theorem nL.a_eq (x0:mi) (x3:List Int) (x11:List D0) (x12 x13:Int):nL.a x0 x3 x11 x12 x13=bif (decide (x13<x12))then(bif (ao x13 (x11.length))then(bif (decide ((rd (τ:=Y1) x11 x13).2.1=1))then(bif (ar ((x3.length)+([(rd (τ:=Y1) x11 x13).2.2.1].length)) 8)then nL.a x0 (x3++[(rd (τ:=Y1) x11 x13).2.2.1]) x11 x12 (IntKind.wrap .i64 (x13+1))else none)else nL.a x0 x3 x11 x12 (IntKind.wrap .i64 (x13+1)))else none)else nL.b x0 x3 x0.2.2.2.2.1 (x0.2.2.2.2.1.length:Int) 0:=
 (ak cfg 276 _ _ _).trans (by kernel_rfl)
theorem nL.b_eq (x0:mi) (x3:List Int) (x30:List D6) (x31 x32:Int):nL.b x0 x3 x30 x31 x32=bif (decide (x32<x31))then(bif (ao x32 (x30.length))then(bif (!(rd (τ:=Y5) x30 x32).2.1)then(bif (ao x32 (x0.1.1.length))then(bif (ar ((x3.length)+([(rd (τ:=(.int .i64)) x0.1.1 x32)].length)) 8)then nL.b x0 (x3++[(rd (τ:=(.int .i64)) x0.1.1 x32)]) x30 x31 (IntKind.wrap .i64 (x32+1))else none)else none)else nL.b x0 x3 x30 x31 (IntKind.wrap .i64 (x32+1)))else none)else some x3:=
 (ak cfg 276 _ _ _).trans (by kernel_rfl)
end Go.Proofs.YtiahcgampoehdaaGreatDoor.S
