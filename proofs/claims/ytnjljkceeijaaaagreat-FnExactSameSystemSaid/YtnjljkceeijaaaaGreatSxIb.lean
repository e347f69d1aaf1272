import Derived.Test.YtnjljkceeijaaaaGreatSxIa
import Derived.Test.YtnjljkceeijaaaaGreatProg
namespace Go.Proofs.YtnjljkceeijaaaaGreat.S
open Go.Ps
set_option linter.unusedVariables false
set_option maxRecDepth 100000
set_option maxHeartbeats 0
noncomputable def RM (a0:ByteArray) (a1:Int):Option ByteArray:=aw cfg 283 [.v (.str a0),.v (.int .i64 a1)]
noncomputable def SJ (a0:List D0):Option (List D0):=aw cfg 293 [.v (.list aL a0)]
noncomputable def SK (a0:List D1) (a1:Int) (a2:List D1):Option (List D1):=aw cfg 316 [.v (.list au a0),.v (.int .i64 a1),.v (.list au a2)]
noncomputable def QO (a0:List D1):Option (List D1):=aw cfg 317 [.v (.list au a0)]
theorem Hc (a0:ByteArray) (a1:Int):RM a0 a1=bif (decide (0≤a1)&&decide (a1≤9223372036854775807)&&decide (a0.size*a1.toNat≤140737488355328))then some (rt a0 a1)else none:=by
 refine(aa cfg 283 _).trans ?_
 show Option.bind (bif (decide (0≤a1)&&decide (a1≤9223372036854775807)&&decide (a0.size*a1.toNat≤140737488355328))then some _ else none) _=_
 cases (decide (0≤a1)&&decide (a1≤9223372036854775807)&&decide (a0.size*a1.toNat≤140737488355328))
 ·exact(by kernel_rfl)
 ·exact(by kernel_rfl)
theorem KY (a0:List D0):SJ a0=bif (ay a0.length 56)then some a0 else none:=by
 refine(aa cfg 293 _).trans ?_
 show Option.bind (bif (ay a0.length 56)then some _ else none) _=_
 cases (ay a0.length 56)
 ·exact(by kernel_rfl)
 ·exact(by kernel_rfl)
theorem KZ (a0:List D1) (a1:Int) (a2:List D1):SK a0 a1 a2=bif (decide (a1=(a0.length:Int))&&ay (a0.length+a2.length) 32)then some (a0++a2)else none:=by
 refine(aa cfg 316 _).trans ?_
 show Option.bind (bif (decide (a1=(a0.length:Int))&&ay (a0.length+a2.length) 32)then some _ else none) _=_
 cases (decide (a1=(a0.length:Int))&&ay (a0.length+a2.length) 32)
 ·exact(by kernel_rfl)
 ·exact(by kernel_rfl)
theorem K0 (a0:List D1):QO a0=bif (ay a0.length 32)then some a0 else none:=by
 refine(aa cfg 317 _).trans ?_
 show Option.bind (bif (ay a0.length 32)then some _ else none) _=_
 cases (ay a0.length 32)
 ·exact(by kernel_rfl)
 ·exact(by kernel_rfl)
noncomputable def Qb (a0:D2) (a1:Int):Option Int:=aw cfg 57 [.agg [.str a0.1,.int .i64 a0.2.1,.int .i64 a0.2.2.1,.int .i64 a0.2.2.2.1,.int .i64 a0.2.2.2.2],.v (.int .i64 a1)]
theorem K3 (a0:D2) (a1:Int):Qb a0 a1=bif (decide ((IntKind.wrap .i64 (a1-(a0.1.size:Int)))<0))then some (-1)else some (IntKind.wrap .i64 (a1-(a0.1.size:Int))):=
 (aa cfg 57 _).trans (by kernel_rfl)
noncomputable def AG (a0:List D2) (a1:Int):Option Int:=aw cfg 24 [.v (.list Y0 a0),.v (.int .i64 a1)]
noncomputable def AG.a (x0:List D2) (x1 x5:Int):Option Int:=LA 24 Tryz.f24 [1,1,1,0,1,0] ⟨27,af [vL 0 Y0 x0,vI 1 x1,vI 5 x5],ai []⟩
theorem K4 (a0:List D2) (a1:Int):AG a0 a1=bif (decide ((IntKind.wrap .i64 (a1-(a0.length:Int)))<0))then some (-1)else AG.a a0 (IntKind.wrap .i64 (a1-(a0.length:Int))) 0:=
 (aa cfg 24 _).trans (by kernel_rfl)
theorem AG.a_eq (x0:List D2) (x1 x5:Int):AG.a x0 x1 x5=bif (decide (x5< (x0.length:Int)))then(bif (aq x5 (x0.length))then((Qb (rd (τ:=Y0) x0 x5) x1).bind fun r1=>bif (decide (r1<0))then some (-1)else AG.a x0 r1 (IntKind.wrap .i64 (x5+1)))else none)else some x1:=
 (ak cfg 24 _ _ _).trans (by kernel_rfl)
noncomputable def QP (a0:D3) (a1:Int):Option Int:=aw cfg 9 [.agg [.str a0.1,.str a0.2.1,.list Y0 a0.2.2],.v (.int .i64 a1)]
theorem K5 (a0:D3) (a1:Int):QP a0 a1=bif (decide ((IntKind.wrap .i64 (a1-(a0.1.size:Int)))<0))then some (-1)else(bif (decide ((IntKind.wrap .i64 ((IntKind.wrap .i64 (a1-(a0.1.size:Int)))-(a0.2.1.size:Int)))<0))then some (-1)else((AG a0.2.2 (IntKind.wrap .i64 ((IntKind.wrap .i64 (a1-(a0.1.size:Int)))-(a0.2.1.size:Int)))).bind fun r1=>bif (decide (r1<0))then some (-1)else some r1)):=
 (aa cfg 9 _).trans (by kernel_rfl)
noncomputable def Qc (a0:D1) (a1:Int):Option Int:=aw cfg 104 [.agg [.int .i64 a0.1,.int .i64 a0.2.1,.str a0.2.2],.v (.int .i64 a1)]
theorem K6 (a0:D1) (a1:Int):Qc a0 a1=bif (decide ((IntKind.wrap .i64 (a1-(a0.2.2.size:Int)))<0))then some (-1)else some (IntKind.wrap .i64 (a1-(a0.2.2.size:Int))):=
 (aa cfg 104 _).trans (by kernel_rfl)
noncomputable def DL (a0:List D1) (a1:Int):Option Int:=aw cfg 58 [.v (.list au a0),.v (.int .i64 a1)]
noncomputable def DL.a (x0:List D1) (x1 x5:Int):Option Int:=LA 58 Tryz.f58 [1,1,1,0,1,0] ⟨27,af [vL 0 au x0,vI 1 x1,vI 5 x5],ai []⟩
theorem K7 (a0:List D1) (a1:Int):DL a0 a1=bif (decide ((IntKind.wrap .i64 (a1-(a0.length:Int)))<0))then some (-1)else DL.a a0 (IntKind.wrap .i64 (a1-(a0.length:Int))) 0:=
 (aa cfg 58 _).trans (by kernel_rfl)
theorem DL.a_eq (x0:List D1) (x1 x5:Int):DL.a x0 x1 x5=bif (decide (x5< (x0.length:Int)))then(bif (aq x5 (x0.length))then((Qc (rd (τ:=au) x0 x5) x1).bind fun r1=>bif (decide (r1<0))then some (-1)else DL.a x0 r1 (IntKind.wrap .i64 (x5+1)))else none)else some x1:=
 (ak cfg 58 _ _ _).trans (by kernel_rfl)
noncomputable def QQ (a0:List D1) (a1:Int):Option Int:=aw cfg 25 [.agg [.list au a0],.v (.int .i64 a1)]
theorem K8 (a0:List D1) (a1:Int):QQ a0 a1=(DL a0 a1).bind fun r1=>bif (decide (r1<0))then some (-1)else some r1:=
 (aa cfg 25 _).trans (by kernel_rfl)
noncomputable def Pf (a0:List Int) (a1:Int):Option Int:=aw cfg 105 [.v (.list (.int .i64) a0),.v (.int .i64 a1)]
theorem K9 (a0:List Int) (a1:Int):Pf a0 a1=bif (decide ((IntKind.wrap .i64 (a1-(a0.length:Int)))<0))then some (-1)else some (IntKind.wrap .i64 (a1-(a0.length:Int))):=
 (aa cfg 105 _).trans (by kernel_rfl)
noncomputable def Qd (a0:D4) (a1:Int):Option Int:=aw cfg 59 [.agg [.int .i64 a0.1,.seg (.int .i64) 32 a0.2.1.1,.int .i64 a0.2.1.2,.list (.int .i64) a0.2.2.1,.int .i64 a0.2.2.2],.v (.int .i64 a1)]
theorem La (a0:D4) (a1:Int):Qd a0 a1=(Pf a0.2.2.1 a1).bind fun r1=>bif (decide (r1<0))then some (-1)else some r1:=
 (aa cfg 59 _).trans (by kernel_rfl)
noncomputable def DM (a0:List D4) (a1:Int):Option Int:=aw cfg 26 [.v (.list Y8 a0),.v (.int .i64 a1)]
noncomputable def DM.a (x0:List D4) (x1 x5:Int):Option Int:=LA 26 Tryz.f26 [1,1,1,0,1,0] ⟨27,af [vL 0 Y8 x0,vI 1 x1,vI 5 x5],ai []⟩
theorem Lb (a0:List D4) (a1:Int):DM a0 a1=bif (decide ((IntKind.wrap .i64 (a1-(a0.length:Int)))<0))then some (-1)else DM.a a0 (IntKind.wrap .i64 (a1-(a0.length:Int))) 0:=
 (aa cfg 26 _).trans (by kernel_rfl)
theorem DM.a_eq (x0:List D4) (x1 x5:Int):DM.a x0 x1 x5=bif (decide (x5< (x0.length:Int)))then(bif (aq x5 (x0.length))then((Qd (rd (τ:=Y8) x0 x5) x1).bind fun r1=>bif (decide (r1<0))then some (-1)else DM.a x0 r1 (IntKind.wrap .i64 (x5+1)))else none)else some x1:=
 (ak cfg 26 _ _ _).trans (by kernel_rfl)
noncomputable def Qe (a0:D0) (a1:Int):Option Int:=aw cfg 60 [.agg [.str a0.1,.int .i64 a0.2.1,.int .i64 a0.2.2.1,.int .i64 a0.2.2.2.1,.int .i64 a0.2.2.2.2.1,.int .i64 a0.2.2.2.2.2],.v (.int .i64 a1)]
theorem Lc (a0:D0) (a1:Int):Qe a0 a1=bif (decide ((IntKind.wrap .i64 (a1-(a0.1.size:Int)))<0))then some (-1)else some (IntKind.wrap .i64 (a1-(a0.1.size:Int))):=
 (aa cfg 60 _).trans (by kernel_rfl)
noncomputable def DN (a0:List D0) (a1:Int):Option Int:=aw cfg 27 [.v (.list aL a0),.v (.int .i64 a1)]
noncomputable def DN.a (x0:List D0) (x1 x5:Int):Option Int:=LA 27 Tryz.f27 [1,1,1,0,1,0] ⟨27,af [vL 0 aL x0,vI 1 x1,vI 5 x5],ai []⟩
theorem Ld (a0:List D0) (a1:Int):DN a0 a1=bif (decide ((IntKind.wrap .i64 (a1-(a0.length:Int)))<0))then some (-1)else DN.a a0 (IntKind.wrap .i64 (a1-(a0.length:Int))) 0:=
 (aa cfg 27 _).trans (by kernel_rfl)
theorem DN.a_eq (x0:List D0) (x1 x5:Int):DN.a x0 x1 x5=bif (decide (x5< (x0.length:Int)))then(bif (aq x5 (x0.length))then((Qe (rd (τ:=aL) x0 x5) x1).bind fun r1=>bif (decide (r1<0))then some (-1)else DN.a x0 r1 (IntKind.wrap .i64 (x5+1)))else none)else some x1:=
 (ak cfg 27 _ _ _).trans (by kernel_rfl)
noncomputable def QR (a0:List (Int×Int×Int)) (a1:Int):Option Int:=aw cfg 28 [.v (.list Y9 a0),.v (.int .i64 a1)]
theorem Lf (a0:List (Int×Int×Int)) (a1:Int):QR a0 a1=bif (decide ((IntKind.wrap .i64 (a1-(a0.length:Int)))<0))then some (-1)else some (IntKind.wrap .i64 (a1-(a0.length:Int))):=
 (aa cfg 28 _).trans (by kernel_rfl)
noncomputable def QS (a0:D5) (a1:Int):Option Int:=aw cfg 10 [.agg [.list au a0.1,.list Y8 a0.2.1,.list aL a0.2.2.1,.list Y9 a0.2.2.2],.v (.int .i64 a1)]
theorem Lg (a0:D5) (a1:Int):QS a0 a1=(QQ a0.1 a1).bind fun r1=>bif (decide (r1<0))then some (-1)else((DM a0.2.1 r1).bind fun r2=>bif (decide (r2<0))then some (-1)else((DN a0.2.2.1 r2).bind fun r3=>bif (decide (r3<0))then some (-1)else((QR a0.2.2.2 r3).bind fun r4=>bif (decide (r4<0))then some (-1)else some r4))):=
 (aa cfg 10 _).trans (by kernel_rfl)
noncomputable def Qf (a0:D6) (a1:Int):Option Int:=aw cfg 153 [.agg [.str a0.1,.bool a0.2.1,.int .i64 a0.2.2.1,.str a0.2.2.2],.v (.int .i64 a1)]
theorem Lh (a0:D6) (a1:Int):Qf a0 a1=bif (decide ((IntKind.wrap .i64 (a1-(a0.1.size:Int)))<0))then some (-1)else(bif (decide ((IntKind.wrap .i64 ((IntKind.wrap .i64 (a1-(a0.1.size:Int)))-(a0.2.2.2.size:Int)))<0))then some (-1)else some (IntKind.wrap .i64 ((IntKind.wrap .i64 (a1-(a0.1.size:Int)))-(a0.2.2.2.size:Int)))):=
 (aa cfg 153 _).trans (by kernel_rfl)
noncomputable def Dc (a0:List D6) (a1:Int):Option Int:=aw cfg 106 [.v (.list Y1 a0),.v (.int .i64 a1)]
noncomputable def Dc.a (x0:List D6) (x1 x5:Int):Option Int:=LA 106 Tryz.f106 [1,1,1,0,1,0] ⟨27,af [vL 0 Y1 x0,vI 1 x1,vI 5 x5],ai []⟩
theorem Li (a0:List D6) (a1:Int):Dc a0 a1=bif (decide ((IntKind.wrap .i64 (a1-(a0.length:Int)))<0))then some (-1)else Dc.a a0 (IntKind.wrap .i64 (a1-(a0.length:Int))) 0:=
 (aa cfg 106 _).trans (by kernel_rfl)
theorem Dc.a_eq (x0:List D6) (x1 x5:Int):Dc.a x0 x1 x5=bif (decide (x5< (x0.length:Int)))then(bif (aq x5 (x0.length))then((Qf (rd (τ:=Y1) x0 x5) x1).bind fun r1=>bif (decide (r1<0))then some (-1)else Dc.a x0 r1 (IntKind.wrap .i64 (x5+1)))else none)else some x1:=
 (ak cfg 106 _ _ _).trans (by kernel_rfl)
noncomputable def Qg (a0:D7) (a1:Int):Option Int:=aw cfg 154 [.agg [.str a0.1,.str a0.2],.v (.int .i64 a1)]
theorem Lj (a0:D7) (a1:Int):Qg a0 a1=bif (decide ((IntKind.wrap .i64 (a1-(a0.1.size:Int)))<0))then some (-1)else(bif (decide ((IntKind.wrap .i64 ((IntKind.wrap .i64 (a1-(a0.1.size:Int)))-(a0.2.size:Int)))<0))then some (-1)else some (IntKind.wrap .i64 ((IntKind.wrap .i64 (a1-(a0.1.size:Int)))-(a0.2.size:Int)))):=
 (aa cfg 154 _).trans (by kernel_rfl)
noncomputable def Dd (a0:List D7) (a1:Int):Option Int:=aw cfg 107 [.v (.list (.pair .str .str) a0),.v (.int .i64 a1)]
noncomputable def Dd.a (x0:List D7) (x1 x5:Int):Option Int:=LA 107 Tryz.f107 [1,1,1,0,1,0] ⟨27,af [vL 0 (.pair .str .str) x0,vI 1 x1,vI 5 x5],ai []⟩
theorem Lk (a0:List D7) (a1:Int):Dd a0 a1=bif (decide ((IntKind.wrap .i64 (a1-(a0.length:Int)))<0))then some (-1)else Dd.a a0 (IntKind.wrap .i64 (a1-(a0.length:Int))) 0:=
 (aa cfg 107 _).trans (by kernel_rfl)
theorem Dd.a_eq (x0:List D7) (x1 x5:Int):Dd.a x0 x1 x5=bif (decide (x5< (x0.length:Int)))then(bif (aq x5 (x0.length))then((Qg (rd (τ:=(.pair .str .str)) x0 x5) x1).bind fun r1=>bif (decide (r1<0))then some (-1)else Dd.a x0 r1 (IntKind.wrap .i64 (x5+1)))else none)else some x1:=
 (ak cfg 107 _ _ _).trans (by kernel_rfl)
noncomputable def Qh (a0:D8) (a1:Int):Option Int:=aw cfg 155 [.agg [.int .i64 a0.1,.int .i64 a0.2.1,.int .i64 a0.2.2.1,.str a0.2.2.2.1,.int .i64 a0.2.2.2.2],.v (.int .i64 a1)]
theorem Ll (a0:D8) (a1:Int):Qh a0 a1=bif (decide ((IntKind.wrap .i64 (a1-(a0.2.2.2.1.size:Int)))<0))then some (-1)else some (IntKind.wrap .i64 (a1-(a0.2.2.2.1.size:Int))):=
 (aa cfg 155 _).trans (by kernel_rfl)
noncomputable def De (a0:List D8) (a1:Int):Option Int:=aw cfg 108 [.v (.list Y2 a0),.v (.int .i64 a1)]
noncomputable def De.a (x0:List D8) (x1 x5:Int):Option Int:=LA 108 Tryz.f108 [1,1,1,0,1,0] ⟨27,af [vL 0 Y2 x0,vI 1 x1,vI 5 x5],ai []⟩
theorem Lm (a0:List D8) (a1:Int):De a0 a1=bif (decide ((IntKind.wrap .i64 (a1-(a0.length:Int)))<0))then some (-1)else De.a a0 (IntKind.wrap .i64 (a1-(a0.length:Int))) 0:=
 (aa cfg 108 _).trans (by kernel_rfl)
theorem De.a_eq (x0:List D8) (x1 x5:Int):De.a x0 x1 x5=bif (decide (x5< (x0.length:Int)))then(bif (aq x5 (x0.length))then((Qh (rd (τ:=Y2) x0 x5) x1).bind fun r1=>bif (decide (r1<0))then some (-1)else De.a x0 r1 (IntKind.wrap .i64 (x5+1)))else none)else some x1:=
 (ak cfg 108 _ _ _).trans (by kernel_rfl)
noncomputable def Qi (a0:List (Int×Bool)) (a1:Int):Option Int:=aw cfg 109 [.v (.list (.pair (.int .i64) .bool) a0),.v (.int .i64 a1)]
theorem Ln (a0:List (Int×Bool)) (a1:Int):Qi a0 a1=bif (decide ((IntKind.wrap .i64 (a1-(a0.length:Int)))<0))then some (-1)else some (IntKind.wrap .i64 (a1-(a0.length:Int))):=
 (aa cfg 109 _).trans (by kernel_rfl)
noncomputable def QT (a0:D9) (a1:Int):Option Int:=aw cfg 61 [.agg [.str a0.1,.int .i64 a0.2.1,.list Y1 a0.2.2.1,.list (.pair .str .str) a0.2.2.2.1,.list Y2 a0.2.2.2.2.1,.list (.pair (.int .i64) .bool) a0.2.2.2.2.2],.v (.int .i64 a1)]
theorem Lo (a0:D9) (a1:Int):QT a0 a1=bif (decide ((IntKind.wrap .i64 (a1-(a0.1.size:Int)))<0))then some (-1)else((Dc a0.2.2.1 (IntKind.wrap .i64 (a1-(a0.1.size:Int)))).bind fun r1=>bif (decide (r1<0))then some (-1)else((Dd a0.2.2.2.1 r1).bind fun r2=>bif (decide (r2<0))then some (-1)else((De a0.2.2.2.2.1 r2).bind fun r3=>bif (decide (r3<0))then some (-1)else((Qi a0.2.2.2.2.2 r3).bind fun r4=>bif (decide (r4<0))then some (-1)else some r4)))):=
 (aa cfg 61 _).trans (by kernel_rfl)
noncomputable def Df (a0:List ByteArray) (a1:Int):Option Int:=aw cfg 110 [.v (.list .str a0),.v (.int .i64 a1)]
noncomputable def Df.a (x0:List ByteArray) (x1 x5:Int):Option Int:=LA 110 Tryz.f110 [1,1,1,0,1,0] ⟨28,af [vL 0 .str x0,vI 1 x1,vI 5 x5],ai []⟩
theorem Lq (a0:List ByteArray) (a1:Int):Df a0 a1=bif (decide ((IntKind.wrap .i64 (a1-(a0.length:Int)))<0))then some (-1)else Df.a a0 (IntKind.wrap .i64 (a1-(a0.length:Int))) 0:=
 (aa cfg 110 _).trans (by kernel_rfl)
theorem Df.a_eq (x0:List ByteArray) (x1 x5:Int):Df.a x0 x1 x5=bif (decide (x5< (x0.length:Int)))then(bif (aq x5 (x0.length))then(bif (decide ((IntKind.wrap .i64 (x1-((rd (τ:= .str) x0 x5).size:Int)))<0))then some (-1)else Df.a x0 (IntKind.wrap .i64 (x1-((rd (τ:= .str) x0 x5).size:Int))) (IntKind.wrap .i64 (x5+1)))else none)else some x1:=
 (ak cfg 110 _ _ _).trans (by kernel_rfl)
noncomputable def QU (a0:b9) (a1:Int):Option Int:=aw cfg 62 [.agg [.list (.int .i64) a0.1,.list .str a0.2.1,.list (.int .i64) a0.2.2.1,.list .str a0.2.2.2],.v (.int .i64 a1)]
theorem Lr (a0:b9) (a1:Int):QU a0 a1=(Pf a0.1 a1).bind fun r1=>bif (decide (r1<0))then some (-1)else((Df a0.2.1 r1).bind fun r2=>bif (decide (r2<0))then some (-1)else((Pf a0.2.2.1 r2).bind fun r3=>bif (decide (r3<0))then some (-1)else((Df a0.2.2.2 r3).bind fun r4=>bif (decide (r4<0))then some (-1)else some r4))):=
 (aa cfg 62 _).trans (by kernel_rfl)
noncomputable def QV (a0:List (Int×Int)) (a1:Int):Option Int:=aw cfg 63 [.v (.list Y5 a0),.v (.int .i64 a1)]
theorem Ls (a0:List (Int×Int)) (a1:Int):QV a0 a1=bif (decide ((IntKind.wrap .i64 (a1-(a0.length:Int)))<0))then some (-1)else some (IntKind.wrap .i64 (a1-(a0.length:Int))):=
 (aa cfg 63 _).trans (by kernel_rfl)
noncomputable def Qj (a0:eu) (a1:Int):Option Int:=aw cfg 29 [.agg [.str a0.1.1,.int .i64 a0.1.2.1,.list Y1 a0.1.2.2.1,.list (.pair .str .str) a0.1.2.2.2.1,.list Y2 a0.1.2.2.2.2.1,.list (.pair (.int .i64) .bool) a0.1.2.2.2.2.2,.list (.int .i64) a0.2.1.1,.list .str a0.2.1.2.1,.list (.int .i64) a0.2.1.2.2.1,.list .str a0.2.1.2.2.2,.list Y5 a0.2.2],.v (.int .i64 a1)]
theorem Lt (a0:eu) (a1:Int):Qj a0 a1=(QT a0.1 a1).bind fun r1=>bif (decide (r1<0))then some (-1)else((QU a0.2.1 r1).bind fun r2=>bif (decide (r2<0))then some (-1)else((QV a0.2.2 r2).bind fun r3=>bif (decide (r3<0))then some (-1)else some r3)):=
 (aa cfg 29 _).trans (by kernel_rfl)
noncomputable def DO (a0:List eu) (a1:Int):Option Int:=aw cfg 11 [.v (.list Y6 a0),.v (.int .i64 a1)]
noncomputable def DO.a (x0:List eu) (x1 x5:Int):Option Int:=LA 11 Tryz.f11 [1,1,1,0,1,0] ⟨27,af [vL 0 Y6 x0,vI 1 x1,vI 5 x5],ai []⟩
theorem Lu (a0:List eu) (a1:Int):DO a0 a1=bif (decide ((IntKind.wrap .i64 (a1-(a0.length:Int)))<0))then some (-1)else DO.a a0 (IntKind.wrap .i64 (a1-(a0.length:Int))) 0:=
 (aa cfg 11 _).trans (by kernel_rfl)
theorem DO.a_eq (x0:List eu) (x1 x5:Int):DO.a x0 x1 x5=bif (decide (x5< (x0.length:Int)))then(bif (aq x5 (x0.length))then((Qj (rd (τ:=Y6) x0 x5) x1).bind fun r1=>bif (decide (r1<0))then some (-1)else DO.a x0 r1 (IntKind.wrap .i64 (x5+1)))else none)else some x1:=
 (ak cfg 11 _ _ _).trans (by kernel_rfl)
noncomputable def Qk (a0:oz) (a1:Int):Option Int:=aw cfg 4 [.agg [.str a0.1.1,.str a0.1.2.1,.list Y0 a0.1.2.2,.list au a0.2.1.1,.list Y8 a0.2.1.2.1,.list aL a0.2.1.2.2.1,.list Y9 a0.2.1.2.2.2,.list Y6 a0.2.2],.v (.int .i64 a1)]
theorem Lv (a0:oz) (a1:Int):Qk a0 a1=(QP a0.1 a1).bind fun r1=>bif (decide (r1<0))then some (-1)else((QS a0.2.1 r1).bind fun r2=>bif (decide (r2<0))then some (-1)else((DO a0.2.2 r2).bind fun r3=>bif (decide (r3<0))then some (-1)else some r3)):=
 (aa cfg 4 _).trans (by kernel_rfl)
noncomputable def QW (a0:Int):Option Bool:=aw cfg 259 [.v (.int .u8 a0)]
theorem Lw (a0:Int):QW a0=bif (decide (a0≥97))then(bif (decide (a0≤122))then some true else(bif (decide (a0≥65))then(bif (decide (a0≤90))then some true else some (decide (a0=95)))else some (decide (a0=95))))else(bif (decide (a0≥65))then(bif (decide (a0≤90))then some true else some (decide (a0=95)))else some (decide (a0=95))):=
 (aa cfg 259 _).trans (by kernel_rfl)
noncomputable def RN (a0:Int):Option Bool:=aw cfg 260 [.v (.int .u8 a0)]
theorem Lx (a0:Int):RN a0=bif (decide (a0≥48))then some (decide (a0≤57))else some false:=
 (aa cfg 260 _).trans (by kernel_rfl)
noncomputable def uP (a0:ByteArray):Option Bool:=aw cfg 208 [.v (.str a0)]
noncomputable def uP.a (x0:ByteArray) (x3:Int):Option Bool:=LA 208 Tryz.f208 [1,1,0,1,0] ⟨36,af [(0,.v (.str x0)),vI 3 x3],ai []⟩
theorem Hd (a0:ByteArray):uP a0=bif (decide ((a0.size:Int)<1))then some false else(bif (decide ((a0.size:Int)>20))then some false else(bif (aq 0 a0.size)then((QW (bt a0 0)).bind fun r1=>bif (!r1)then some false else uP.a a0 1)else none)):=
 (aa cfg 208 _).trans (by kernel_rfl)
theorem uP.a_eq (x0:ByteArray) (x3:Int):uP.a x0 x3=bif (decide (x3< (x0.size:Int)))then(bif (aq x3 x0.size)then((QW (bt x0 x3)).bind fun r6=>bif (!r6)then(bif (aq x3 x0.size)then((RN (bt x0 x3)).bind fun r7=>bif (!r7)then some false else uP.a x0 (IntKind.wrap .i64 (x3+1)))else none)else uP.a x0 (IntKind.wrap .i64 (x3+1)))else none)else some true:=
 (ak cfg 208 _ _ _).trans (by kernel_rfl)
noncomputable def ox (a0:D3):Option (Int×Int):=aw cfg 156 [.agg [.str a0.1,.str a0.2.1,.list Y0 a0.2.2]]
noncomputable def ox.a (x1:D3) (x4 x5 x6:Int):Option (Int×Int):=LA 156 Tryz.f156 [1,1,1,0,1,0] ⟨139,af [vP 1 191,vI 4 x4,vI 5 x5,vI 6 x6],ai [(191,.box [.str x1.1,.str x1.2.1,.list Y0 x1.2.2])]⟩
noncomputable def ox.b (x1:D3) (x4 x5 x6:Int) (x7:D2) (x8:Int):Option (Int×Int):=LA 156 Tryz.f156 [1,1,1,0,1,0,0,1,0,0,1,1,0,1,0] ⟨139,af [vP 1 191,vI 4 x4,vI 5 x5,vI 6 x6,vP 7 959,vI 8 x8],ai [(191,.box [.str x1.1,.str x1.2.1,.list Y0 x1.2.2]),(959,.box [.str x7.1,.int .i64 x7.2.1,.int .i64 x7.2.2.1,.int .i64 x7.2.2.2.1,.int .i64 x7.2.2.2.2])]⟩
theorem Ly (a0:D3):ox a0=ox.a a0 0 0 0:=
 (aa cfg 156 _).trans (by kernel_rfl)
theorem ox.a_eq (x1:D3) (x4 x5 x6:Int):ox.a x1 x4 x5 x6=bif (decide (x6< (x1.2.2.length:Int)))then(bif (aq x6 (x1.2.2.length))then((uP ((rd (τ:=Y0) x1.2.2 x6).1)).bind fun r3=>bif (!r3)then some (x6,3)else ox.b x1 x4 x5 x6 (rd (τ:=Y0) x1.2.2 x6) 0)else none)else(bif (decide ((x1.2.2.length:Int)=0))then some (0,23)else(bif (aq 0 (x1.2.2.length))then(bif (!decide ((rd (τ:=Y0) x1.2.2 0).2.1=1))then some (0,23)else(bif (!decide (x4=(x1.1.size:Int)))then some (0,22)else some (0,0)))else none)):=
 (ak cfg 156 _ _ _).trans (by kernel_rfl)
theorem ox.b_eq (x1:D3) (x4 x5 x6:Int) (x7:D2) (x8:Int):ox.b x1 x4 x5 x6 x7 x8=bif (decide (x8<x6))then(bif (aq x8 (x1.2.2.length))then(bif (bh ((rd (τ:=Y0) x1.2.2 x8).1) x7.1)then some (x6,24)else ox.b x1 x4 x5 x6 x7 (IntKind.wrap .i64 (x8+1)))else none)else(bif (decide (x7.2.1=1))then(bif (!decide (x7.2.2.1=x4))then some (x6,4)else(bif (decide (x7.2.2.2.1<1))then some (x6,4)else(bif (decide (x7.2.2.2.1>(IntKind.wrap .i64 ((x1.1.size:Int)-x4))))then some (x6,4)else ox.a x1 (IntKind.wrap .i64 (x4+x7.2.2.2.1)) x5 (IntKind.wrap .i64 (x6+1)))))else(bif (decide (x7.2.1=2))then(bif (decide (x7.2.2.1<x5))then some (x6,4)else(bif (decide (x7.2.2.1>(x1.2.1.size:Int)))then some (x6,4)else(bif (decide (x7.2.2.2.1<1))then some (x6,4)else(bif (decide (x7.2.2.2.1>(IntKind.wrap .i64 ((x1.2.1.size:Int)-x7.2.2.1))))then some (x6,4)else(bif (!decide ((x7.2.2.1.tmod 8)=0))then some (x6,4)else(bif (!decide ((x7.2.2.2.1.tmod 8)=0))then some (x6,4)else(bif (!decide (x7.2.2.2.2=0))then some (x6,17)else ox.a x1 x4 (IntKind.wrap .i64 (x7.2.2.1+x7.2.2.2.1)) (IntKind.wrap .i64 (x6+1)))))))))else some (x6,26))):=
 (ak cfg 156 _ _ _).trans (by kernel_rfl)
noncomputable def Lz (a0:D2):Option Int:=aw cfg 159 [.agg [.str a0.1,.int .i64 a0.2.1,.int .i64 a0.2.2.1,.int .i64 a0.2.2.2.1,.int .i64 a0.2.2.2.2]]
theorem He (a0:D2):Lz a0=bif (decide (a0.2.1=1))then some (IntKind.wrap .i64 (4096+a0.2.2.1))else some (IntKind.wrap .i64 (16384+a0.2.2.1)):=
 (aa cfg 159 _).trans (by kernel_rfl)
noncomputable def DP (a0:List D2):Option (List Int):=aw cfg 157 [.v (.list Y0 a0)]
noncomputable def DP.a (x0:List D2) (x3:List Int) (x4:Int):Option (List Int):=LA 157 Tryz.f157 [1,1,0,1,0] ⟨27,af [vL 0 Y0 x0,(3,.v (.own 416)),vI 4 x4],ai [(416,.rows 3 (.int .i64) .no x3)]⟩
theorem LB (a0:List D2):DP a0=DP.a a0 [] 0:=
 (aa cfg 157 _).trans (by kernel_rfl)
theorem DP.a_eq (x0:List D2) (x3:List Int) (x4:Int):DP.a x0 x3 x4=bif (decide (x4< (x0.length:Int)))then(bif (aq x4 (x0.length))then(bif (decide ((rd (τ:=Y0) x0 x4).2.1=1))then(bif (aq x4 (x0.length))then((Lz (rd (τ:=Y0) x0 x4)).bind fun r1=>bif (ay ((x3.length)+([r1].length)) 8)then DP.a x0 (x3++[r1]) (IntKind.wrap .i64 (x4+1))else none)else none)else DP.a x0 x3 (IntKind.wrap .i64 (x4+1)))else none)else some x3:=
 (ak cfg 157 _ _ _).trans (by kernel_rfl)
noncomputable def oc (a0 a1 a2:Int):Option Bool:=aw cfg 166 [.v (.int .i64 a0),.v (.int .i64 a1),.v (.int .i64 a2)]
theorem zH (a0 a1 a2:Int):oc a0 a1 a2=bif (decide (a0≥a1))then some (decide (a0≤a2))else some false:=
 (aa cfg 166 _).trans (by kernel_rfl)
noncomputable def Ql (a0:Int):Option Bool:=aw cfg 209 [.v (.int .i64 a0)]
theorem LC (a0:Int):Ql a0=(oc a0 16 128).bind fun r1=>bif r1 then some (decide ((a0.tmod 16)=0))else some false:=
 (aa cfg 209 _).trans (by kernel_rfl)
noncomputable def RO (a0:ByteArray):Option Bool:=aw cfg 210 [.v (.str a0)]
theorem LD (a0:ByteArray):RO a0=bif (decide (((a0.size:Int).tmod 4)=0))then some (decide ((a0.size:Int)≤256))else some false:=
 (aa cfg 210 _).trans (by kernel_rfl)
noncomputable def xu (a0:ByteArray) (a1 a2:Int):Option Int:=aw cfg 223 [.v (.str a0),.v (.int .i64 a1),.v (.int .i64 a2)]
noncomputable def xu.a (x0:ByteArray) (x1 x7 x8:Int):Option Int:=LA 223 Tryz.f223 [1,1,0,1,0] ⟨26,af [(0,.v (.str x0)),vI 1 x1,(7,.v (.int .u64 x7)),vI 8 x8],ai []⟩
theorem LE (a0:ByteArray) (a1 a2:Int):xu a0 a1 a2=xu.a a0 a1 0 (IntKind.wrap .i64 (a2-1)):=
 (aa cfg 223 _).trans (by kernel_rfl)
theorem xu.a_eq (x0:ByteArray) (x1 x7 x8:Int):xu.a x0 x1 x7 x8=bif (decide (x8≥0))then(bif (aq (IntKind.wrap .i64 (x1+x8)) x0.size)then xu.a x0 x1 (IntKind.wrap .u64 ((IntKind.wrap .u64 (256*x7))+(IntKind.wrap .u64 ((bt x0 (IntKind.wrap .i64 (x1+x8))))))) (IntKind.wrap .i64 (x8-1))else none)else some (IntKind.wrap .i64 (x7)):=
 (ak cfg 223 _ _ _).trans (by kernel_rfl)
noncomputable def Ju (a0:Int):Option Pk:=aw cfg 266 [.v (.int .i64 a0)]
theorem LF (a0:Int):Ju a0=bif (decide (a0=1))then some (1,55,0,0)else(bif (decide (a0=2))then some (1,23,0,0)else(bif (decide (a0=3))then some (2,111,0,0)else(bif (decide (a0=4))then some (3,103,0,0)else(bif (decide (a0=5))then some (4,99,0,0)else(bif (decide (a0=6))then some (4,99,1,0)else(bif (decide (a0=7))then some (4,99,4,0)else(bif (decide (a0=8))then some (4,99,5,0)else(bif (decide (a0=9))then some (4,99,6,0)else(bif (decide (a0=10))then some (4,99,7,0)else(bif (decide (a0=11))then some (3,3,0,0)else(bif (decide (a0=12))then some (3,3,1,0)else(bif (decide (a0=13))then some (3,3,2,0)else(bif (decide (a0=14))then some (3,3,3,0)else(bif (decide (a0=15))then some (3,3,4,0)else(bif (decide (a0=16))then some (3,3,5,0)else(bif (decide (a0=17))then some (3,3,6,0)else(bif (decide (a0=18))then some (5,35,0,0)else(bif (decide (a0=19))then some (5,35,1,0)else(bif (decide (a0=20))then some (5,35,2,0)else(bif (decide (a0=21))then some (5,35,3,0)else(bif (decide (a0=22))then some (3,19,0,0)else(bif (decide (a0=23))then some (3,19,2,0)else(bif (decide (a0=24))then some (3,19,3,0)else(bif (decide (a0=25))then some (3,19,4,0)else(bif (decide (a0=26))then some (3,19,6,0)else(bif (decide (a0=27))then some (3,19,7,0)else(bif (decide (a0=28))then some (6,19,1,0)else(bif (decide (a0=29))then some (6,19,5,0)else(bif (decide (a0=30))then some (6,19,5,32)else(bif (decide (a0=31))then some (8,51,0,0)else(bif (decide (a0=32))then some (8,51,0,32)else(bif (decide (a0=33))then some (8,51,1,0)else(bif (decide (a0=34))then some (8,51,2,0)else(bif (decide (a0=35))then some (8,51,3,0)else(bif (decide (a0=36))then some (8,51,4,0)else(bif (decide (a0=37))then some (8,51,5,0)else(bif (decide (a0=38))then some (8,51,5,32)else(bif (decide (a0=39))then some (8,51,6,0)else(bif (decide (a0=40))then some (8,51,7,0)else(bif (decide (a0=41))then some (3,27,0,0)else(bif (decide (a0=42))then some (7,27,1,0)else(bif (decide (a0=43))then some (7,27,5,0)else(bif (decide (a0=44))then some (7,27,5,32)else(bif (decide (a0=45))then some (8,59,0,0)else(bif (decide (a0=46))then some (8,59,0,32)else(bif (decide (a0=47))then some (8,59,1,0)else(bif (decide (a0=48))then some (8,59,5,0)else(bif (decide (a0=49))then some (8,59,5,32)else(bif (decide (a0=50))then some (8,51,0,1)else(bif (decide (a0=51))then some (8,51,1,1)else(bif (decide (a0=52))then some (8,51,2,1)else(bif (decide (a0=53))then some (8,51,3,1)else(bif (decide (a0=54))then some (8,51,4,1)else(bif (decide (a0=55))then some (8,51,5,1)else(bif (decide (a0=56))then some (8,51,6,1)else(bif (decide (a0=57))then some (8,51,7,1)else(bif (decide (a0=58))then some (8,59,0,1)else(bif (decide (a0=59))then some (8,59,4,1)else(bif (decide (a0=60))then some (8,59,5,1)else(bif (decide (a0=61))then some (8,59,6,1)else(bif (decide (a0=62))then some (8,59,7,1)else(bif (decide (a0=63))then some (9,115,0,0)else(bif (decide (a0=64))then some (9,115,0,1)else some (0,0,0,0)))))))))))))))))))))))))))))))))))))))))))))))))))))))))))))))):=
 (aa cfg 266 _).trans (by kernel_rfl)
noncomputable def xw (a0 a1:Int):Option Int:=aw cfg 276 [.v (.int .i64 a0),.v (.int .i64 a1)]
theorem LG (a0 a1:Int):xw a0 a1=bif (decide ((IntKind.wrap .u64 (a1))<0))then none else(bif (decide (((lZ .u64 (IntKind.wrap .u64 (a0)) (IntKind.wrap .u64 (a1))).tmod 2)=1))then some 1 else some 0):=
 (aa cfg 276 _).trans (by kernel_rfl)
noncomputable def gu (a0 a1 a2 a3:Int):Option Int:=aw cfg 275 [.v (.int .i64 a0),.v (.int .i64 a1),.v (.int .i64 a2),.v (.int .i64 a3)]
noncomputable def gu.a (x0 x1 x2 x3 x9 x10:Int):Option Int:=LA 275 Tryz.f275 [1,1,0,1,0] ⟨39,af [vI 0 x0,vI 1 x1,vI 2 x2,vI 3 x3,vI 9 x9,vI 10 x10],ai []⟩
theorem LH (a0 a1 a2 a3:Int):gu a0 a1 a2 a3=gu.a a0 a1 a2 a3 0 31:=
 (aa cfg 275 _).trans (by kernel_rfl)
theorem gu.a_eq (x0 x1 x2 x3 x9 x10:Int):gu.a x0 x1 x2 x3 x9 x10=bif (decide (x10≥0))then((xw x0 x10).bind fun r1=>bif (decide (x10≥x1))then(bif (decide (x10< (IntKind.wrap .i64 (x1+x2))))then((xw x3 (IntKind.wrap .i64 (x10-x1))).bind fun r6=>gu.a x0 x1 x2 x3 (IntKind.wrap .i64 ((IntKind.wrap .i64 (2*x9))+r6)) (IntKind.wrap .i64 (x10-1)))else gu.a x0 x1 x2 x3 (IntKind.wrap .i64 ((IntKind.wrap .i64 (2*x9))+r1)) (IntKind.wrap .i64 (x10-1)))else gu.a x0 x1 x2 x3 (IntKind.wrap .i64 ((IntKind.wrap .i64 (2*x9))+r1)) (IntKind.wrap .i64 (x10-1)))else some x9:=
 (ak cfg 275 _ _ _).trans (by kernel_rfl)
noncomputable def ii (a0:cG):Option Int:=aw cfg 225 [.agg [.int .i64 a0.1,.int .i64 a0.2.1,.int .i64 a0.2.2.1,.int .i64 a0.2.2.2.1,.int .i64 a0.2.2.2.2]]
noncomputable def ii.a (x1:cG) (x4 x5:Int):Option Int:=LA 225 Tryz.f225 [1,1,1,0,1,0,1,1,1,0,1,1,0] ⟨184,af [vP 1 191,vI 4 x4,vI 5 x5],ai [(191,.box [.int .i64 x1.1,.int .i64 x1.2.1,.int .i64 x1.2.2.1,.int .i64 x1.2.2.2.1,.int .i64 x1.2.2.2.2])]⟩
noncomputable def ii.b (x1:cG) (x4 x7:Int):Option Int:=LA 225 Tryz.f225 [1,1,1,0,1,0,1,1,1,1,1,1,1,0,1,1,1,1,0] ⟨184,af [vP 1 191,vI 4 x4,vI 7 x7],ai [(191,.box [.int .i64 x1.1,.int .i64 x1.2.1,.int .i64 x1.2.2.1,.int .i64 x1.2.2.2.1,.int .i64 x1.2.2.2.2])]⟩
noncomputable def ii.c (x1:cG) (x4 x9:Int):Option Int:=LA 225 Tryz.f225 [1,1,1,0,1,0,1,1,1,1,1,1,1,1,1,0,1,1,1,1,1,0] ⟨184,af [vP 1 191,vI 4 x4,vI 9 x9],ai [(191,.box [.int .i64 x1.1,.int .i64 x1.2.1,.int .i64 x1.2.2.1,.int .i64 x1.2.2.2.1,.int .i64 x1.2.2.2.2])]⟩
theorem LI (a0:cG):ii a0=(Ju a0.1).bind fun r1=>bif (decide (r1.1=1))then((gu r1.2.1 7 5 a0.2.1).bind fun r2=>(gu r2 12 20 (IntKind.wrap .i64 (a0.2.2.2.2.tdiv 4096))).bind fun r3=>some r3)else(bif (decide (r1.1=2))then((gu r1.2.1 7 5 a0.2.1).bind fun r4=>ii.a a0 r4 1)else(bif (decide (r1.1=3))then((gu r1.2.1 7 5 a0.2.1).bind fun r5=>(gu r5 12 3 r1.2.2.1).bind fun r6=>(gu r6 15 5 a0.2.2.1).bind fun r7=>(gu r7 20 12 a0.2.2.2.2).bind fun r8=>some r8)else(bif (decide (r1.1=4))then((gu r1.2.1 12 3 r1.2.2.1).bind fun r9=>(gu r9 15 5 a0.2.2.1).bind fun r10=>(gu r10 20 5 a0.2.2.2.1).bind fun r11=>ii.b a0 r11 1)else(bif (decide (r1.1=5))then((gu r1.2.1 7 5 a0.2.2.2.2).bind fun r12=>(gu r12 12 3 r1.2.2.1).bind fun r13=>(gu r13 15 5 a0.2.2.1).bind fun r14=>(gu r14 20 5 a0.2.2.2.1).bind fun r15=>ii.c a0 r15 5)else(aA (fun kr30=>bif (decide (r1.1=6))then kr30 (decide (r1.1=6))else(bif (decide (r1.1=7))then kr30 (decide (r1.1=7))else kr30 (decide (r1.1=8)))) fun(r17:Bool)=>bif r17 then((gu r1.2.1 7 5 a0.2.1).bind fun r18=>(gu r18 12 3 r1.2.2.1).bind fun r19=>(gu r19 15 5 a0.2.2.1).bind fun r20=>(gu r20 25 7 r1.2.2.2).bind fun r21=>bif (decide (r1.1=6))then((gu r21 20 6 a0.2.2.2.2).bind fun r22=>some r22)else(bif (decide (r1.1=7))then((gu r21 20 5 a0.2.2.2.2).bind fun r23=>some r23)else((gu r21 20 5 a0.2.2.2.1).bind fun r24=>some r24)))else(bif (decide (r1.1=9))then((gu r1.2.1 20 12 r1.2.2.2).bind fun r27=>some r27)else some r1.2.1)))))):=
 (aa cfg 225 _).trans (by kernel_rfl)
theorem ii.a_eq (x1:cG) (x4 x5:Int):ii.a x1 x4 x5=bif (decide (x5<21))then(aA (fun kr47=>bif (decide (x5>10))then kr47 (IntKind.wrap .i64 (9+x5))else kr47 (IntKind.wrap .i64 (20+x5))) fun(r37:Int)=>aA (fun kr46=>bif (decide (x5>11))then kr46 x5 else kr46 r37) fun(r38:Int)=>bif (decide (x5=20))then((xw x1.2.2.2.2 x5).bind fun r42=>(gu x4 31 1 r42).bind fun r43=>ii.a x1 r43 (IntKind.wrap .i64 (x5+1)))else((xw x1.2.2.2.2 x5).bind fun r44=>(gu x4 r38 1 r44).bind fun r45=>ii.a x1 r45 (IntKind.wrap .i64 (x5+1))))else some x4:=
 (ak cfg 225 _ _ _).trans (by kernel_rfl)
theorem ii.b_eq (x1:cG) (x4 x7:Int):ii.b x1 x4 x7=bif (decide (x7<13))then(aA (fun kr61=>bif (decide (x7>4))then kr61 (IntKind.wrap .i64 (20+x7))else kr61 (IntKind.wrap .i64 (7+x7))) fun(r51:Int)=>aA (fun kr60=>bif (decide (x7=11))then kr60 7 else kr60 r51) fun(r52:Int)=>bif (decide (x7=12))then((xw x1.2.2.2.2 x7).bind fun r56=>(gu x4 31 1 r56).bind fun r57=>ii.b x1 r57 (IntKind.wrap .i64 (x7+1)))else((xw x1.2.2.2.2 x7).bind fun r58=>(gu x4 r52 1 r58).bind fun r59=>ii.b x1 r59 (IntKind.wrap .i64 (x7+1))))else some x4:=
 (ak cfg 225 _ _ _).trans (by kernel_rfl)
theorem ii.c_eq (x1:cG) (x4 x9:Int):ii.c x1 x4 x9=bif (decide (x9<12))then((xw x1.2.2.2.2 x9).bind fun r65=>(gu x4 (IntKind.wrap .i64 (20+x9)) 1 r65).bind fun r66=>ii.c x1 r66 (IntKind.wrap .i64 (x9+1)))else some x4:=
 (ak cfg 225 _ _ _).trans (by kernel_rfl)
noncomputable def RP (a0:Int):Option Bool:=aw cfg 307 [.v (.int .i64 a0)]
theorem LJ (a0:Int):RP a0=(oc a0 1 64).bind fun r1=>some r1:=
 (aa cfg 307 _).trans (by kernel_rfl)
noncomputable def Qm (a0:Int):Option Bool:=aw cfg 308 [.v (.int .i64 a0)]
theorem LL (a0:Int):Qm a0=(oc a0 0 31).bind fun r1=>some r1:=
 (aa cfg 308 _).trans (by kernel_rfl)
noncomputable def QX (a0:cG):Option Bool:=aw cfg 274 [.agg [.int .i64 a0.1,.int .i64 a0.2.1,.int .i64 a0.2.2.1,.int .i64 a0.2.2.2.1,.int .i64 a0.2.2.2.2]]
theorem LM (a0:cG):QX a0=aA (fun kr47=>(RP a0.1).bind fun r1=>bif (!r1)then kr47 true else((Qm a0.2.1).bind fun r2=>bif (!r2)then kr47 true else((Qm a0.2.2.1).bind fun r3=>bif (!r3)then kr47 true else((Qm a0.2.2.2.1).bind fun r4=>kr47 (!r4))))) fun(r10:Bool)=>bif r10 then some false else((Ju a0.1).bind fun r11=>aA (fun kr46=>bif (decide (r11.1=4))then kr46 (!decide (a0.2.1=0))else(bif (decide (r11.1=5))then kr46 (!decide (a0.2.1=0))else(bif (decide (r11.1=9))then kr46 (!decide (a0.2.1=0))else kr46 false))) fun(r17:Bool)=>bif r17 then some false else(aA (fun kr45=>bif (decide (r11.1=1))then kr45 (!decide (a0.2.2.1=0))else(bif (decide (r11.1=2))then kr45 (!decide (a0.2.2.1=0))else(bif (decide (r11.1=9))then kr45 (!decide (a0.2.2.1=0))else kr45 false))) fun(r23:Bool)=>bif r23 then some false else(aA (fun kr44=>bif (!decide (r11.1=4))then(bif (!decide (r11.1=5))then(bif (!decide (r11.1=8))then kr44 (!decide (a0.2.2.2.1=0))else kr44 false)else kr44 false)else kr44 false) fun(r29:Bool)=>bif r29 then some false else(bif (decide (r11.1=1))then((oc a0.2.2.2.2 (-2147483648) 2147479552).bind fun r30=>bif r30 then some (decide ((a0.2.2.2.2.tmod 4096)=0))else some false)else(bif (decide (r11.1=2))then((oc a0.2.2.2.2 (-1048576) 1048574).bind fun r33=>bif r33 then some (decide ((a0.2.2.2.2.tmod 2)=0))else some false)else(aA (fun kr43=>bif (decide (r11.1=3))then kr43 (decide (r11.1=3))else kr43 (decide (r11.1=5))) fun(r36:Bool)=>bif r36 then((oc a0.2.2.2.2 (-2048) 2047).bind fun r37=>some r37)else(bif (decide (r11.1=4))then((oc a0.2.2.2.2 (-4096) 4094).bind fun r38=>bif r38 then some (decide ((a0.2.2.2.2.tmod 2)=0))else some false)else(bif (decide (r11.1=6))then((oc a0.2.2.2.2 0 63).bind fun r41=>some r41)else(bif (decide (r11.1=7))then((oc a0.2.2.2.2 0 31).bind fun r42=>some r42)else some (decide (a0.2.2.2.2=0))))))))))):=
 (aa cfg 274 _).trans (by kernel_rfl)
noncomputable def q7 (a0 a1 a2:Int):Option Int:=aw cfg 330 [.v (.int .i64 a0),.v (.int .i64 a1),.v (.int .i64 a2)]
noncomputable def q7.a (x0 x1 x7 x8:Int):Option Int:=LA 330 Tryz.f330 [1,1,0,1,0] ⟨24,af [vI 0 x0,vI 1 x1,vI 7 x7,vI 8 x8],ai []⟩
theorem LN (a0 a1 a2:Int):q7 a0 a1 a2=q7.a a0 a1 0 (IntKind.wrap .i64 (a2-1)):=
 (aa cfg 330 _).trans (by kernel_rfl)
theorem q7.a_eq (x0 x1 x7 x8:Int):q7.a x0 x1 x7 x8=bif (decide (x8≥0))then((xw x0 (IntKind.wrap .i64 (x1+x8))).bind fun r1=>q7.a x0 x1 (IntKind.wrap .i64 ((IntKind.wrap .i64 (2*x7))+r1)) (IntKind.wrap .i64 (x8-1)))else some x7:=
 (ak cfg 330 _ _ _).trans (by kernel_rfl)
noncomputable def xx (a0 a1:Int):Option Int:=aw cfg 331 [.v (.int .i64 a0),.v (.int .i64 a1)]
noncomputable def xx.a (x0 x1 x5 x6:Int):Option Int:=LA 331 Tryz.f331 [1,1,0,1,0] ⟨23,af [vI 0 x0,vI 1 x1,(5,.v (.int .u64 x5)),vI 6 x6],ai []⟩
theorem LO (a0 a1:Int):xx a0 a1=xx.a a0 a1 0 63:=
 (aa cfg 331 _).trans (by kernel_rfl)
theorem xx.a_eq (x0 x1 x5 x6:Int):xx.a x0 x1 x5 x6=bif (decide (x6≥0))then((xw x0 (if(IntKind.wrap .i64 (x1-1))<x6 then(IntKind.wrap .i64 (x1-1))else x6)).bind fun r1=>xx.a x0 x1 (IntKind.wrap .u64 ((IntKind.wrap .u64 (2*x5))+(IntKind.wrap .u64 (r1)))) (IntKind.wrap .i64 (x6-1)))else some (IntKind.wrap .i64 (x5)):=
 (ak cfg 331 _ _ _).trans (by kernel_rfl)
noncomputable def RQ (a0 a1:Int):Option cG:=aw cfg 301 [.v (.int .i64 a0),.v (.int .i64 a1)]
theorem LP (a0 a1:Int):RQ a0 a1=(q7 a1 7 5).bind fun r1=>(q7 a1 15 5).bind fun r2=>(q7 a1 20 5).bind fun r3=>(Ju a0).bind fun r4=>bif (decide (r4.1=1))then((q7 a1 12 20).bind fun r5=>(xx r5 20).bind fun r6=>some (a0,r1,0,0,(IntKind.wrap .i64 (r6*4096))))else(bif (decide (r4.1=2))then((q7 a1 21 10).bind fun r7=>(xw a1 20).bind fun r8=>(q7 a1 12 8).bind fun r9=>(xw a1 31).bind fun r10=>(xx (IntKind.wrap .i64 ((IntKind.wrap .i64 ((IntKind.wrap .i64 ((IntKind.wrap .i64 (r7*2))+(IntKind.wrap .i64 (r8*2048))))+(IntKind.wrap .i64 (r9*4096))))+(IntKind.wrap .i64 (r10*1048576)))) 21).bind fun r11=>some (a0,r1,0,0,r11))else(bif (decide (r4.1=3))then((q7 a1 20 12).bind fun r12=>(xx r12 12).bind fun r13=>some (a0,r1,r2,0,r13))else(bif (decide (r4.1=4))then((q7 a1 8 4).bind fun r14=>(q7 a1 25 6).bind fun r15=>(xw a1 7).bind fun r16=>(xw a1 31).bind fun r17=>(xx (IntKind.wrap .i64 ((IntKind.wrap .i64 ((IntKind.wrap .i64 ((IntKind.wrap .i64 (r14*2))+(IntKind.wrap .i64 (r15*32))))+(IntKind.wrap .i64 (r16*2048))))+(IntKind.wrap .i64 (r17*4096)))) 13).bind fun r18=>some (a0,0,r2,r3,r18))else(bif (decide (r4.1=5))then((q7 a1 25 7).bind fun r19=>(xx (IntKind.wrap .i64 (r1+(IntKind.wrap .i64 (r19*32)))) 12).bind fun r20=>some (a0,0,r2,r3,r20))else(bif (decide (r4.1=6))then((q7 a1 20 6).bind fun r21=>some (a0,r1,r2,0,r21))else(bif (decide (r4.1=7))then some (a0,r1,r2,0,r3)else(bif (decide (r4.1=8))then some (a0,r1,r2,r3,0)else some (a0,0,0,0,0)))))))):=
 (aa cfg 301 _).trans (by kernel_rfl)
noncomputable def xy (a0:Int):Option (cG×Bool):=aw cfg 261 [.v (.int .i64 a0)]
noncomputable def xy.a (x0:Int) (x2:cG) (x4:Int):Option (cG×Bool):=LA 261 Tryz.f261 [1,0,1,0] ⟨44,af [vI 0 x0,vP 2 319,vI 4 x4],ai [(319,.box [.int .i64 x2.1,.int .i64 x2.2.1,.int .i64 x2.2.2.1,.int .i64 x2.2.2.2.1,.int .i64 x2.2.2.2.2])]⟩
theorem LQ (a0:Int):xy a0=xy.a a0 (0,0,0,0,0) 1:=
 (aa cfg 261 _).trans (by kernel_rfl)
theorem xy.a_eq (x0:Int) (x2:cG) (x4:Int):xy.a x0 x2 x4=bif (decide (x4≤64))then((Ju x4).bind fun r1=>aA (fun kr10=>bif (!decide (r1.2.1=(x0.tmod 128)))then kr10 true else((oc r1.1 3 8).bind fun r2=>bif r2 then kr10 (!decide (r1.2.2.1=((IntKind.wrap .i64 (x0.tdiv 4096)).tmod 8)))else kr10 false)) fun(r4:Bool)=>bif r4 then xy.a x0 x2 (IntKind.wrap .i64 (x4+1))else((RQ x4 x0).bind fun r5=>(QX r5).bind fun r6=>bif r6 then((ii r5).bind fun r7=>bif (decide (r7=x0))then some (r5,true)else xy.a x0 x2 (IntKind.wrap .i64 (x4+1)))else xy.a x0 x2 (IntKind.wrap .i64 (x4+1))))else some ((0,0,0,0,0),false):=
 (ak cfg 261 _ _ _).trans (by kernel_rfl)
noncomputable def Dg (a0:ByteArray):Option (List cG×Int):=aw cfg 211 [.v (.str a0)]
noncomputable def Dg.a (x0:ByteArray) (x4:List cG) (x5:Int):Option (List cG×Int):=LA 211 Tryz.f211 [1,1,0,1,0] ⟨33,af [(0,.v (.str x0)),(4,.v (.own 544)),vI 5 x5],ai [(544,.rows 283 bg .no x4)]⟩
theorem Hf (a0:ByteArray):Dg a0=Dg.a a0 [] 0:=
 (aa cfg 211 _).trans (by kernel_rfl)
theorem Dg.a_eq (x0:ByteArray) (x4:List cG) (x5:Int):Dg.a x0 x4 x5=bif (decide ((IntKind.wrap .i64 (4*x5))< (x0.size:Int)))then((xu x0 (IntKind.wrap .i64 (4*x5)) 4).bind fun r1=>(xy r1).bind fun r2=>bif (!r2.2)then some ([],x5)else(bif (ay ((x4.length)+([r2.1].length)) 40)then Dg.a x0 (x4++[r2.1]) (IntKind.wrap .i64 (x5+1))else none))else some (x4,(-1)):=
 (ak cfg 211 _ _ _).trans (by kernel_rfl)
noncomputable def SL (a0:Int):Option (List cG):=aw cfg 212 [.v (.int .i64 a0)]
theorem LR (a0:Int):SL a0=some [(22,2,2,0,(IntKind.wrap .i64 (0-a0))),(21,0,2,1,(IntKind.wrap .i64 (a0-8)))]:=
 (aa cfg 212 _).trans (by kernel_rfl)
noncomputable def RR (a0:Int):Option (Int×Bool):=aw cfg 262 [.v (.int .i64 a0)]
theorem LS (a0:Int):RR a0=bif (decide (a0=11))then some (1,true)else(aA (fun kr6=>bif (decide (a0=15))then kr6 (decide (a0=15))else kr6 (decide (a0=18))) fun(r1:Bool)=>bif r1 then some (1,false)else(bif (decide (a0=12))then some (2,true)else(aA (fun kr5=>bif (decide (a0=16))then kr5 (decide (a0=16))else kr5 (decide (a0=19))) fun(r2:Bool)=>bif r2 then some (2,false)else(bif (decide (a0=13))then some (4,true)else(aA (fun kr4=>bif (decide (a0=17))then kr4 (decide (a0=17))else kr4 (decide (a0=20))) fun(r3:Bool)=>bif r3 then some (4,false)else(bif (decide (a0=14))then some (8,true)else(bif (decide (a0=21))then some (8,false)else some (0,false)))))))):=
 (aa cfg 262 _).trans (by kernel_rfl)
noncomputable def RS (a0:Int):Option (List cG):=aw cfg 302 [.v (.int .i64 a0)]
theorem LT (a0:Int):RS a0=some [(14,1,2,0,(IntKind.wrap .i64 (a0-8))),(22,2,2,0,a0),(4,0,1,0,0)]:=
 (aa cfg 302 _).trans (by kernel_rfl)
noncomputable def I3 (a0:List cG) (a1 a2:Int):Option Bool:=aw cfg 263 [.v (.list bg a0),.v (.int .i64 a1),.v (.int .i64 a2)]
theorem LU (a0:List cG) (a1 a2:Int):I3 a0 a1 a2=(RS a2).bind fun r1=>bif (decide (a1≥2))then(bif (decide ((IntKind.wrap .i64 (a1+2))< (a0.length:Int)))then(bif (aq a1 (a0.length))then(bif (aq 0 (r1.length))then(bif (d9 bg (rd (τ:=bg) a0 a1) (rd (τ:=bg) r1 0))then(bif (aq (IntKind.wrap .i64 (a1+1)) (a0.length))then(bif (aq 1 (r1.length))then(bif (d9 bg (rd (τ:=bg) a0 (IntKind.wrap .i64 (a1+1))) (rd (τ:=bg) r1 1))then(bif (aq (IntKind.wrap .i64 (a1+2)) (a0.length))then(bif (aq 2 (r1.length))then some (d9 bg (rd (τ:=bg) a0 (IntKind.wrap .i64 (a1+2))) (rd (τ:=bg) r1 2))else none)else none)else some false)else none)else none)else some false)else none)else none)else some false)else some false:=
 (aa cfg 263 _).trans (by kernel_rfl)
noncomputable def Hg (a0:List Int) (a1:Int):Option Bool:=aw cfg 264 [.v (.list (.int .i64) a0),.v (.int .i64 a1)]
noncomputable def Hg.a (x0:List Int) (x1 x5:Int):Option Bool:=LA 264 Tryz.f264 [1,0,1,0] ⟨18,af [vL 0 (.int .i64) x0,vI 1 x1,vI 5 x5],ai []⟩
theorem LV (a0:List Int) (a1:Int):Hg a0 a1=Hg.a a0 a1 0:=
 (aa cfg 264 _).trans (by kernel_rfl)
theorem Hg.a_eq (x0:List Int) (x1 x5:Int):Hg.a x0 x1 x5=bif (decide (x5< (x0.length:Int)))then(bif (aq x5 (x0.length))then(bif (decide ((rd (τ:=(.int .i64)) x0 x5)=x1))then some true else Hg.a x0 x1 (IntKind.wrap .i64 (x5+1)))else none)else some false:=
 (ak cfg 264 _ _ _).trans (by kernel_rfl)
noncomputable def QY (a0:List cG) (a1 a2 a3:Int):Option Bool:=aw cfg 265 [.v (.list bg a0),.v (.int .i64 a1),.v (.int .i64 a2),.v (.int .i64 a3)]
theorem LW (a0:List cG) (a1 a2 a3:Int):QY a0 a1 a2 a3=bif (decide ((a2.tmod 4)=0))then(bif (decide ((IntKind.wrap .i64 (a1+(IntKind.wrap .i64 (a2.tdiv 4))))≥2))then(bif (decide ((IntKind.wrap .i64 (a1+(IntKind.wrap .i64 (a2.tdiv 4))))< (a0.length:Int)))then((I3 a0 (IntKind.wrap .i64 ((IntKind.wrap .i64 (a1+(IntKind.wrap .i64 (a2.tdiv 4))))-1)) a3).bind fun r1=>bif (!r1)then((I3 a0 (IntKind.wrap .i64 ((IntKind.wrap .i64 (a1+(IntKind.wrap .i64 (a2.tdiv 4))))-2)) a3).bind fun r2=>some (!r2))else some false)else some false)else some false)else some false:=
 (aa cfg 265 _).trans (by kernel_rfl)
noncomputable def RT (a0:List cG) (a1 a2 a3:Int) (a4:List Int):Option Int:=aw cfg 213 [.v (.list bg a0),.v (.int .i64 a1),.v (.int .i64 a2),.v (.int .i64 a3),.v (.list (.int .i64) a4)]
theorem LX (a0:List cG) (a1 a2 a3:Int) (a4:List Int):RT a0 a1 a2 a3 a4=bif (aq a1 (a0.length))then((RR ((rd (τ:=bg) a0 a1).1)).bind fun r1=>bif (decide ((rd (τ:=bg) a0 a1).1=4))then((I3 a0 (IntKind.wrap .i64 (a1-2)) a3).bind fun r2=>bif (!r2)then some 18 else some 0)else(aA (fun kr11=>bif (decide ((rd (τ:=bg) a0 a1).1=3))then kr11 (decide ((rd (τ:=bg) a0 a1).2.1=1))else kr11 false) fun(r3:Bool)=>bif r3 then((Hg a4 (IntKind.wrap .i64 ((IntKind.wrap .i64 (a2+(IntKind.wrap .i64 (4*a1))))+(rd (τ:=bg) a0 a1).2.2.2.2))).bind fun r5=>bif (!r5)then some 20 else some 0)else(bif (decide ((rd (τ:=bg) a0 a1).1=3))then(bif (!decide ((rd (τ:=bg) a0 a1).2.1=0))then some 19 else((QY a0 a1 ((rd (τ:=bg) a0 a1).2.2.2.2) a3).bind fun r6=>bif (!r6)then some 19 else some 0))else((Ju ((rd (τ:=bg) a0 a1).1)).bind fun r9=>bif (decide (r9.1=4))then((QY a0 a1 ((rd (τ:=bg) a0 a1).2.2.2.2) a3).bind fun r10=>bif (!r10)then some 19 else some 0)else(aA (fun kr26=>bif (decide ((rd (τ:=bg) a0 a1).2.1=1))then((I3 a0 a1 a3).bind fun r12=>bif (!r12)then kr26 true else(bif (decide ((rd (τ:=bg) a0 a1).2.1=2))then((I3 a0 (IntKind.wrap .i64 (a1-1)) a3).bind fun r13=>kr26 (!r13))else kr26 false))else(bif (decide ((rd (τ:=bg) a0 a1).2.1=2))then((I3 a0 (IntKind.wrap .i64 (a1-1)) a3).bind fun r14=>kr26 (!r14))else kr26 false)) fun(r18:Bool)=>bif r18 then some 21 else(bif (decide (r1.1>0))then(bif (decide ((rd (τ:=bg) a0 a1).2.2.1=2))then((I3 a0 a1 a3).bind fun r19=>bif (!r19)then(bif (decide ((rd (τ:=bg) a0 a1).2.2.2.2<0))then some 17 else(bif (decide ((rd (τ:=bg) a0 a1).2.2.2.2>(IntKind.wrap .i64 ((IntKind.wrap .i64 (a3-8))-r1.1))))then some 17 else(bif (decide (r1.1=0))then none else(bif (!decide ((((rd (τ:=bg) a0 a1).2.2.2.2).tmod r1.1)=0))then some 17 else some 0))))else some 0)else some 0)else some 0))))))else none:=
 (aa cfg 213 _).trans (by kernel_rfl)
noncomputable def q8 (a0:ByteArray) (a1 a2:Int) (a3:List Int):Option (Int×Int):=aw cfg 158 [.v (.str a0),.v (.int .i64 a1),.v (.int .i64 a2),.v (.list (.int .i64) a3)]
noncomputable def q8.a (x1 x2:Int) (x3:List Int) (x10:List cG) (x12:Int):Option (Int×Int):=LA 158 Tryz.f158 [1,1,1,1,1,1,0,1,0] ⟨100,af [vI 1 x1,vI 2 x2,vL 3 (.int .i64) x3,(10,.v (.own 1312)),vI 12 x12],ai [(1312,.rows 283 bg .no x10)]⟩
noncomputable def q8.b (x1 x2:Int) (x3:List Int) (x10:List cG) (x13 x14:Int):Option (Int×Int):=LA 158 Tryz.f158 [1,1,1,1,1,1,1,1,1,0,1,0] ⟨100,af [vI 1 x1,vI 2 x2,vL 3 (.int .i64) x3,(10,.v (.own 1312)),vI 13 x13,vI 14 x14],ai [(1312,.rows 283 bg .no x10)]⟩
theorem LY (a0:ByteArray) (a1 a2:Int) (a3:List Int):q8 a0 a1 a2 a3=aA (fun kr10=>(oc a1 0 1048575).bind fun r1=>bif (!r1)then kr10 true else kr10 (!decide ((a1.tmod 4)=0))) fun(r3:Bool)=>bif r3 then some (0,4)else((Ql a2).bind fun r4=>bif (!r4)then some (0,17)else(aA (fun kr9=>(RO a0).bind fun r5=>bif (!r5)then kr9 true else kr9 (decide ((a0.size:Int)<20))) fun(r7:Bool)=>bif r7 then some (0,8)else((Dg a0).bind fun r8=>bif (decide (r8.2≥0))then some (r8.2,10)else q8.a a1 a2 a3 r8.1 0))):=
 (aa cfg 158 _).trans (by kernel_rfl)
theorem q8.a_eq (x1 x2:Int) (x3:List Int) (x10:List cG) (x12:Int):q8.a x1 x2 x3 x10 x12=bif (decide (x12<2))then(bif (aq x12 (x10.length))then((SL x2).bind fun r15=>bif (aq x12 (r15.length))then(bif (!(d9 bg (rd (τ:=bg) x10 x12) (rd (τ:=bg) r15 x12)))then some (x12,17)else q8.a x1 x2 x3 x10 (IntKind.wrap .i64 (x12+1)))else none)else none)else(aA (fun kr14=>bif (aq (IntKind.wrap .i64 ((x10.length:Int)-1)) (x10.length))then(bif (decide ((rd (τ:=bg) x10 (IntKind.wrap .i64 ((x10.length:Int)-1))).1=4))then kr14 false else(bif (aq (IntKind.wrap .i64 ((x10.length:Int)-1)) (x10.length))then(bif (decide ((rd (τ:=bg) x10 (IntKind.wrap .i64 ((x10.length:Int)-1))).1=3))then(bif (aq (IntKind.wrap .i64 ((x10.length:Int)-1)) (x10.length))then kr14 (!(decide ((rd (τ:=bg) x10 (IntKind.wrap .i64 ((x10.length:Int)-1))).2.1=0)))else none)else kr14 true)else none))else none) fun(r13:Bool)=>bif r13 then some ((IntKind.wrap .i64 ((x10.length:Int)-1)),22)else q8.b x1 x2 x3 x10 (IntKind.wrap .i64 ((x10.length:Int)-1)) 2):=
 (ak cfg 158 _ _ _).trans (by kernel_rfl)
theorem q8.b_eq (x1 x2:Int) (x3:List Int) (x10:List cG) (x13 x14:Int):q8.b x1 x2 x3 x10 x13 x14=bif (decide (x14≤x13))then((RT x10 x14 x1 x2 x3).bind fun r16=>bif (!decide (r16=0))then some (x14,r16)else q8.b x1 x2 x3 x10 x13 (IntKind.wrap .i64 (x14+1)))else some (0,0):=
 (ak cfg 158 _ _ _).trans (by kernel_rfl)
noncomputable def DQ (a0:D3):Option (Int×Int×Int):=aw cfg 111 [.agg [.str a0.1,.str a0.2.1,.list Y0 a0.2.2]]
noncomputable def DQ.a (x1:D3) (x7:List Int) (x8:Int):Option (Int×Int×Int):=LA 111 Tryz.f111 [1,1,1,1,1,0,1,0] ⟨77,af [vP 1 191,(7,.v (.own 928)),vI 8 x8],ai [(191,.box [.str x1.1,.str x1.2.1,.list Y0 x1.2.2]),(928,.rows 3 (.int .i64) .no x7)]⟩
theorem LZ (a0:D3):DQ a0=bif (decide ((a0.2.2.length:Int)>16))then some (0,0,6)else(aA (fun kr5=>bif (decide ((a0.1.size:Int)>1024))then kr5 true else kr5 (decide ((a0.2.1.size:Int)>256))) fun(r2:Bool)=>bif r2 then some (0,0,8)else((ox a0).bind fun r3=>bif (!decide (r3.2=0))then some (r3.1,0,r3.2)else((DP a0.2.2).bind fun r4=>DQ.a a0 r4 0))):=
 (aa cfg 111 _).trans (by kernel_rfl)
theorem DQ.a_eq (x1:D3) (x7:List Int) (x8:Int):DQ.a x1 x7 x8=bif (decide (x8< (x1.2.2.length:Int)))then(bif (aq x8 (x1.2.2.length))then(bif (!decide ((rd (τ:=Y0) x1.2.2 x8).2.1=1))then DQ.a x1 x7 (IntKind.wrap .i64 (x8+1))else(bif (decide (0≤(rd (τ:=Y0) x1.2.2 x8).2.2.1)&&decide ((rd (τ:=Y0) x1.2.2 x8).2.2.1≤(IntKind.wrap .i64 ((rd (τ:=Y0) x1.2.2 x8).2.2.1+(rd (τ:=Y0) x1.2.2 x8).2.2.2.1)))&&decide ((IntKind.wrap .i64 ((rd (τ:=Y0) x1.2.2 x8).2.2.1+(rd (τ:=Y0) x1.2.2 x8).2.2.2.1))≤(x1.1.size:Int)))then((Lz (rd (τ:=Y0) x1.2.2 x8)).bind fun r6=>(q8 (x1.1.extract (Int.toNat ((rd (τ:=Y0) x1.2.2 x8).2.2.1)) (Int.toNat (IntKind.wrap .i64 ((rd (τ:=Y0) x1.2.2 x8).2.2.1+(rd (τ:=Y0) x1.2.2 x8).2.2.2.1)))) r6 ((rd (τ:=Y0) x1.2.2 x8).2.2.2.2) x7).bind fun r7=>bif (!decide (r7.2=0))then some (x8,r7)else DQ.a x1 x7 (IntKind.wrap .i64 (x8+1)))else none))else none)else some (0,0,0):=
 (ak cfg 111 _ _ _).trans (by kernel_rfl)
noncomputable def QZ (a0:D3):Option Bool:=aw cfg 64 [.agg [.str a0.1,.str a0.2.1,.list Y0 a0.2.2]]
theorem L8 (a0:D3):QZ a0=(DQ a0).bind fun r1=>some (decide (r1.2.2=0)):=
 (aa cfg 64 _).trans (by kernel_rfl)
noncomputable def RU (a0:Int):Option Bool:=aw cfg 160 [.v (.int .i64 a0)]
theorem L9 (a0:Int):RU a0=(oc a0 0 1048575).bind fun r1=>bif r1 then some (decide ((a0.tmod 128)=0))else some false:=
 (aa cfg 160 _).trans (by kernel_rfl)
noncomputable def RV (a0:Int):Option Bool:=aw cfg 161 [.v (.int .i64 a0)]
theorem Ma (a0:Int):RV a0=(oc a0 0 15).bind fun r1=>some r1:=
 (aa cfg 161 _).trans (by kernel_rfl)
noncomputable def DR (a0:List D1):Option Bool:=aw cfg 112 [.agg [.list au a0]]
noncomputable def DR.a (x1:List D1) (x3:Int):Option Bool:=LA 112 Tryz.f112 [1,1,0,1,0] ⟨53,af [vP 1 191,vI 3 x3],ai [(191,.box [.list au x1])]⟩
theorem Mb (a0:List D1):DR a0=bif (decide ((a0.length:Int)>64))then some false else DR.a a0 0:=
 (aa cfg 112 _).trans (by kernel_rfl)
theorem DR.a_eq (x1:List D1) (x3:Int):DR.a x1 x3=bif (decide (x3< (x1.length:Int)))then(bif (aq x3 (x1.length))then((RU ((rd (τ:=au) x1 x3).1)).bind fun r1=>bif (!r1)then some false else((RV ((rd (τ:=au) x1 x3).2.1)).bind fun r2=>bif (!r2)then some false else(bif (!decide ((((rd (τ:=au) x1 x3).2.2).size:Int)=128))then some false else(bif (decide (x3>0))then(bif (aq (IntKind.wrap .i64 (x3-1)) (x1.length))then(bif (decide ((rd (τ:=au) x1 x3).1≤(rd (τ:=au) x1 (IntKind.wrap .i64 (x3-1))).1))then some false else DR.a x1 (IntKind.wrap .i64 (x3+1)))else none)else DR.a x1 (IntKind.wrap .i64 (x3+1))))))else none)else some true:=
 (ak cfg 112 _ _ _).trans (by kernel_rfl)
noncomputable def RW (a0:D0):Option Bool:=aw cfg 162 [.agg [.str a0.1,.int .i64 a0.2.1,.int .i64 a0.2.2.1,.int .i64 a0.2.2.2.1,.int .i64 a0.2.2.2.2.1,.int .i64 a0.2.2.2.2.2]]
theorem Mc (a0:D0):RW a0=aA (fun kr18=>(uP a0.1).bind fun r1=>bif (!r1)then kr18 true else((oc a0.2.2.1 0 1048575).bind fun r2=>bif (!r2)then kr18 true else(bif (!decide ((a0.2.2.1.tmod 4)=0))then kr18 true else((oc a0.2.2.2.1 1 1024).bind fun r3=>bif (!r3)then kr18 true else((oc a0.2.2.2.2.2 0 6).bind fun r4=>kr18 (!r4)))))) fun(r12:Bool)=>bif r12 then some false else(bif (decide (a0.2.1=1))then((Ql a0.2.2.2.2.1).bind fun r13=>bif r13 then some true else(bif (decide (a0.2.1=2))then some (decide (a0.2.2.2.2.1=0))else some false))else(bif (decide (a0.2.1=2))then some (decide (a0.2.2.2.2.1=0))else some false)):=
 (aa cfg 162 _).trans (by kernel_rfl)
noncomputable def xz (a0:List D0) (a1:ByteArray):Option Int:=aw cfg 163 [.v (.list aL a0),.v (.str a1)]
noncomputable def xz.a (x0:List D0) (x1:ByteArray) (x5:Int):Option Int:=LA 163 Tryz.f163 [1,0,1,0] ⟨20,af [vL 0 aL x0,(1,.v (.str x1)),vI 5 x5],ai []⟩
theorem Md (a0:List D0) (a1:ByteArray):xz a0 a1=xz.a a0 a1 0:=
 (aa cfg 163 _).trans (by kernel_rfl)
theorem xz.a_eq (x0:List D0) (x1:ByteArray) (x5:Int):xz.a x0 x1 x5=bif (decide (x5< (x0.length:Int)))then(bif (aq x5 (x0.length))then(bif (bh ((rd (τ:=aL) x0 x5).1) x1)then some x5 else xz.a x0 x1 (IntKind.wrap .i64 (x5+1)))else none)else some (-1):=
 (ak cfg 163 _ _ _).trans (by kernel_rfl)
noncomputable def Hh (a0:List D0):Option Bool:=aw cfg 113 [.v (.list aL a0)]
noncomputable def Hh.a (x0:List D0) (x3:Int):Option Bool:=LA 113 Tryz.f113 [1,1,1,0,1,0] ⟨34,af [vL 0 aL x0,vI 3 x3],ai []⟩
theorem Me (a0:List D0):Hh a0=bif (decide ((a0.length:Int)>4096))then some false else(bif (decide ((a0.length:Int)>64))then some false else Hh.a a0 0):=
 (aa cfg 113 _).trans (by kernel_rfl)
theorem Hh.a_eq (x0:List D0) (x3:Int):Hh.a x0 x3=bif (decide (x3< (x0.length:Int)))then(bif (aq x3 (x0.length))then((RW (rd (τ:=aL) x0 x3)).bind fun r1=>bif (!r1)then some false else(bif (decide (0≤0)&&decide (0≤x3)&&decide (x3≤(x0.length:Int)))then(bif (aq x3 (x0.length))then((xz ((x0.take (Int.toNat x3)).drop (Int.toNat 0)) ((rd (τ:=aL) x0 x3).1)).bind fun r2=>bif (decide (r2≥0))then some false else Hh.a x0 (IntKind.wrap .i64 (x3+1)))else none)else none))else none)else some true:=
 (ak cfg 113 _ _ _).trans (by kernel_rfl)
noncomputable def RX (a0:Int):Option Bool:=aw cfg 164 [.v (.int .i64 a0)]
theorem Mf (a0:Int):RX a0=(oc a0 0 255).bind fun r1=>some r1:=
 (aa cfg 164 _).trans (by kernel_rfl)
noncomputable def DS (a0 a1:List Int):Option Bool:=aw cfg 165 [.v (.list (.int .i64) a0),.v (.list (.int .i64) a1)]
noncomputable def DS.a (x0 x1:List Int) (x5:Int):Option Bool:=LA 165 Tryz.f165 [1,0,1,0] ⟨41,af [vL 0 (.int .i64) x0,vL 1 (.int .i64) x1,vI 5 x5],ai []⟩
theorem Mg (a0 a1:List Int):DS a0 a1=DS.a a0 a1 0:=
 (aa cfg 165 _).trans (by kernel_rfl)
theorem DS.a_eq (x0 x1:List Int) (x5:Int):DS.a x0 x1 x5=aA (fun kr3=>bif (decide (x5< (x0.length:Int)))then kr3 (decide (x5< (x1.length:Int)))else kr3 false) fun(r2:Bool)=>bif r2 then(bif (aq x5 (x0.length))then(bif (aq x5 (x1.length))then(bif (!decide ((rd (τ:=(.int .i64)) x0 x5)=(rd (τ:=(.int .i64)) x1 x5)))then(bif (aq x5 (x0.length))then(bif (aq x5 (x1.length))then some (decide ((rd (τ:=(.int .i64)) x0 x5)< (rd (τ:=(.int .i64)) x1 x5)))else none)else none)else DS.a x0 x1 (IntKind.wrap .i64 (x5+1)))else none)else none)else some (decide ((x0.length:Int)< (x1.length:Int))):=
 (ak cfg 165 _ _ _).trans (by kernel_rfl)
noncomputable def DT (a0:List (Int×Int×Int)):Option Bool:=aw cfg 114 [.v (.list Y9 a0)]
noncomputable def DT.a (x0:List (Int×Int×Int)) (x3:Int):Option Bool:=LA 114 Tryz.f114 [1,1,1,0,1,0] ⟨53,af [vL 0 Y9 x0,vI 3 x3],ai []⟩
theorem Mh (a0:List (Int×Int×Int)):DT a0=bif (decide ((a0.length:Int)>4096))then some false else(bif (decide ((a0.length:Int)>16))then some false else DT.a a0 0):=
 (aa cfg 114 _).trans (by kernel_rfl)
theorem DT.a_eq (x0:List (Int×Int×Int)) (x3:Int):DT.a x0 x3=bif (decide (x3< (x0.length:Int)))then(bif (aq x3 (x0.length))then((RX ((rd (τ:=Y9) x0 x3).2.1)).bind fun r1=>bif (!r1)then some false else(bif (decide (x3>0))then(bif (aq (IntKind.wrap .i64 (x3-1)) (x0.length))then(bif (aq (IntKind.wrap .i64 (x3-1)) (x0.length))then(bif (aq x3 (x0.length))then(bif (aq x3 (x0.length))then((DS [(rd (τ:=Y9) x0 (IntKind.wrap .i64 (x3-1))).1,(rd (τ:=Y9) x0 (IntKind.wrap .i64 (x3-1))).2.1] [(rd (τ:=Y9) x0 x3).1,(rd (τ:=Y9) x0 x3).2.1]).bind fun r2=>bif (!r2)then some false else DT.a x0 (IntKind.wrap .i64 (x3+1)))else none)else none)else none)else none)else DT.a x0 (IntKind.wrap .i64 (x3+1))))else none)else some true:=
 (ak cfg 114 _ _ _).trans (by kernel_rfl)
noncomputable def RY (a0:List Int×Int):Option Bool:=aw cfg 167 [.agg [.seg (.int .i64) 32 a0.1,.int .i64 a0.2]]
theorem Mi (a0:List Int×Int):RY a0=bif (aq 0 32)then some (decide ((rd (τ:=(.int .i64)) a0.1 0)=0))else none:=
 (aa cfg 167 _).trans (by kernel_rfl)
noncomputable def RZ (a0:D4):Option Bool:=aw cfg 115 [.agg [.int .i64 a0.1,.seg (.int .i64) 32 a0.2.1.1,.int .i64 a0.2.1.2,.list (.int .i64) a0.2.2.1,.int .i64 a0.2.2.2]]
theorem Mj (a0:D4):RZ a0=aA (fun kr8=>(oc a0.1 1 3).bind fun r1=>bif (!r1)then kr8 true else((RY a0.2.1).bind fun r2=>bif (!r2)then kr8 true else kr8 (decide ((a0.2.2.1.length:Int)>32)))) fun(r6:Bool)=>bif r6 then some false else(bif (decide (a0.1=3))then((oc a0.2.2.2 1 31).bind fun r7=>some r7)else some (decide (a0.2.2.2=0))):=
 (aa cfg 115 _).trans (by kernel_rfl)
noncomputable def Hi (a0:D5):Option Bool:=aw cfg 65 [.agg [.list au a0.1,.list Y8 a0.2.1,.list aL a0.2.2.1,.list Y9 a0.2.2.2]]
noncomputable def Hi.a (x1:D5) (x3:Int):Option Bool:=LA 65 Tryz.f65 [1,1,0,1,0] ⟨46,af [vP 1 191,vI 3 x3],ai [(191,.box [.list au x1.1,.list Y8 x1.2.1,.list aL x1.2.2.1,.list Y9 x1.2.2.2])]⟩
theorem Mk (a0:D5):Hi a0=(DR a0.1).bind fun r1=>bif (!r1)then some false else(bif (decide ((a0.2.1.length:Int)<1))then some false else(bif (decide ((a0.2.1.length:Int)>4))then some false else((Hh a0.2.2.1).bind fun r2=>bif (!r2)then some false else((DT a0.2.2.2).bind fun r3=>bif (!r3)then some false else Hi.a a0 0)))):=
 (aa cfg 65 _).trans (by kernel_rfl)
theorem Hi.a_eq (x1:D5) (x3:Int):Hi.a x1 x3=bif (decide (x3< (x1.2.1.length:Int)))then(bif (aq x3 (x1.2.1.length))then((RZ (rd (τ:=Y8) x1.2.1 x3)).bind fun r12=>bif (!r12)then some false else Hi.a x1 (IntKind.wrap .i64 (x3+1)))else none)else some true:=
 (ak cfg 65 _ _ _).trans (by kernel_rfl)
noncomputable def DU (a0:D3):Option (List D0):=aw cfg 168 [.agg [.str a0.1,.str a0.2.1,.list Y0 a0.2.2]]
noncomputable def DU.a (x1:D3) (x3:List D0) (x4:Int):Option (List D0):=LA 168 Tryz.f168 [1,1,0,1,0] ⟨34,af [vP 1 191,(3,.v (.own 416)),vI 4 x4],ai [(191,.box [.str x1.1,.str x1.2.1,.list Y0 x1.2.2]),(416,.rows 121 aL .no x3)]⟩
theorem Ml (a0:D3):DU a0=DU.a a0 [] 0:=
 (aa cfg 168 _).trans (by kernel_rfl)
theorem DU.a_eq (x1:D3) (x3:List D0) (x4:Int):DU.a x1 x3 x4=bif (decide (x4< (x1.2.2.length:Int)))then(bif (aq x4 (x1.2.2.length))then((Lz (rd (τ:=Y0) x1.2.2 x4)).bind fun r1=>bif (ay ((x3.length)+([((rd (τ:=Y0) x1.2.2 x4).1,(rd (τ:=Y0) x1.2.2 x4).2.1,r1,(rd (τ:=Y0) x1.2.2 x4).2.2.2.1,(rd (τ:=Y0) x1.2.2 x4).2.2.2.2,0)].length)) 56)then DU.a x1 (x3++[((rd (τ:=Y0) x1.2.2 x4).1,(rd (τ:=Y0) x1.2.2 x4).2.1,r1,(rd (τ:=Y0) x1.2.2 x4).2.2.2.1,(rd (τ:=Y0) x1.2.2 x4).2.2.2.2,0)]) (IntKind.wrap .i64 (x4+1))else none)else none)else some x3:=
 (ak cfg 168 _ _ _).trans (by kernel_rfl)
noncomputable def Dh (a0:D3):Option (List cG):=aw cfg 169 [.agg [.str a0.1,.str a0.2.1,.list Y0 a0.2.2]]
noncomputable def Dh.a (x1:D3) (x3:List cG) (x4:Int):Option (List cG):=LA 169 Tryz.f169 [1,1,0,1,0] ⟨34,af [vP 1 191,(3,.v (.own 416)),vI 4 x4],ai [(191,.box [.str x1.1,.str x1.2.1,.list Y0 x1.2.2]),(416,.rows 255 bg .no x3)]⟩
theorem Mm (a0:D3):Dh a0=Dh.a a0 [] 0:=
 (aa cfg 169 _).trans (by kernel_rfl)
theorem Dh.a_eq (x1:D3) (x3:List cG) (x4:Int):Dh.a x1 x3 x4=bif (decide (x4< (x1.2.2.length:Int)))then(bif (aq x4 (x1.2.2.length))then(bif (decide ((rd (τ:=Y0) x1.2.2 x4).2.1=1))then((Lz (rd (τ:=Y0) x1.2.2 x4)).bind fun r1=>bif (ay ((x3.length)+([(x4,0,r1,(rd (τ:=Y0) x1.2.2 x4).2.2.2)].length)) 40)then Dh.a x1 (x3++[(x4,0,r1,(rd (τ:=Y0) x1.2.2 x4).2.2.2)]) (IntKind.wrap .i64 (x4+1))else none)else Dh.a x1 x3 (IntKind.wrap .i64 (x4+1)))else none)else some x3:=
 (ak cfg 169 _ _ _).trans (by kernel_rfl)
noncomputable def AH (a0:List D1) (a1:Int):Option Int:=aw cfg 267 [.agg [.list au a0],.v (.int .i64 a1)]
noncomputable def AH.a (x1:Int) (x2:List D1) (x5:Int):Option Int:=LA 267 Tryz.f267 [1,0,1,0] ⟨33,af [vI 1 x1,vP 2 319,vI 5 x5],ai [(319,.box [.list au x2])]⟩
theorem Mn (a0:List D1) (a1:Int):AH a0 a1=AH.a a1 a0 0:=
 (aa cfg 267 _).trans (by kernel_rfl)
theorem AH.a_eq (x1:Int) (x2:List D1) (x5:Int):AH.a x1 x2 x5=bif (decide (x5< (x2.length:Int)))then(bif (aq x5 (x2.length))then(bif (decide ((rd (τ:=au) x2 x5).1≤x1))then(bif (aq x5 (x2.length))then(bif (decide ((IntKind.wrap .i64 (x1-(rd (τ:=au) x2 x5).1))<128))then some x5 else AH.a x1 x2 (IntKind.wrap .i64 (x5+1)))else none)else AH.a x1 x2 (IntKind.wrap .i64 (x5+1)))else none)else some (-1):=
 (ak cfg 267 _ _ _).trans (by kernel_rfl)
noncomputable def R0 (a0:List D1):Option (List D1):=aw cfg 303 [.agg [.list au a0]]
theorem Mo (a0:List D1):R0 a0=bif (ay (0+(a0.length)) 32)then some a0 else none:=
 (aa cfg 303 _).trans (by kernel_rfl)
noncomputable def R1 (a0:List D1) (a1:Int) (a2:ByteArray):Option (List D1):=aw cfg 268 [.agg [.list au a0],.v (.int .i64 a1),.v (.str a2)]
theorem Mp (a0:List D1) (a1:Int) (a2:ByteArray):R1 a0 a1 a2=(R0 a0).bind fun r1=>(AH a0 a1).bind fun r2=>bif (aq r2 (a0.length))then(bif (aq r2 (a0.length))then(bif (decide (0≤0)&&decide (0≤(IntKind.wrap .i64 (a1-(rd (τ:=au) a0 r2).1)))&&decide ((IntKind.wrap .i64 (a1-(rd (τ:=au) a0 r2).1))≤(((rd (τ:=au) a0 r2).2.2).size:Int)))then(bif (decide ((((rd (τ:=au) a0 r2).2.2).extract (Int.toNat 0) (Int.toNat (IntKind.wrap .i64 (a1-(rd (τ:=au) a0 r2).1)))).size+a2.size≤9223372036854775807))then(bif (decide (0≤(IntKind.wrap .i64 ((IntKind.wrap .i64 (a1-(rd (τ:=au) a0 r2).1))+(a2.size:Int))))&&decide ((IntKind.wrap .i64 ((IntKind.wrap .i64 (a1-(rd (τ:=au) a0 r2).1))+(a2.size:Int)))≤(((rd (τ:=au) a0 r2).2.2).size:Int))&&decide ((((rd (τ:=au) a0 r2).2.2).size:Int)≤(((rd (τ:=au) a0 r2).2.2).size:Int)))then(bif (decide (((((rd (τ:=au) a0 r2).2.2).extract (Int.toNat 0) (Int.toNat (IntKind.wrap .i64 (a1-(rd (τ:=au) a0 r2).1))))++a2).size+(((rd (τ:=au) a0 r2).2.2).extract (Int.toNat (IntKind.wrap .i64 ((IntKind.wrap .i64 (a1-(rd (τ:=au) a0 r2).1))+(a2.size:Int)))) (Int.toNat (((rd (τ:=au) a0 r2).2.2).size:Int))).size≤9223372036854775807))then(bif (aq r2 (r1.length))then(letB (r1.set (Int.toNat r2) ((rd (τ:=au) r1 r2).1,(rd (τ:=au) r1 r2).2.1,(((((rd (τ:=au) a0 r2).2.2).extract (Int.toNat 0) (Int.toNat (IntKind.wrap .i64 (a1-(rd (τ:=au) a0 r2).1))))++a2)++(((rd (τ:=au) a0 r2).2.2).extract (Int.toNat (IntKind.wrap .i64 ((IntKind.wrap .i64 (a1-(rd (τ:=au) a0 r2).1))+(a2.size:Int)))) (Int.toNat (((rd (τ:=au) a0 r2).2.2).size:Int)))))) fun r3=>some r3)else none)else none)else none)else none)else none)else none)else none:=
 (aa cfg 268 _).trans (by kernel_rfl)
noncomputable def xA (a0:List D1) (a1:Int) (a2:ByteArray):Option (List D1):=aw cfg 214 [.agg [.list au a0],.v (.int .i64 a1),.v (.str a2)]
noncomputable def xA.a (x1:Int) (x2:ByteArray) (x3 x6:List D1):Option (List D1):=LA 214 Tryz.f214 [1,0,0] ⟨40,af [vI 1 x1,(2,.v (.str x2)),vP 3 447,vP 6 831],ai [(447,.box [.list au x3]),(800,.rows 176 au .no x6),(831,.box [.own 800])]⟩
theorem Mq (a0:List D1) (a1:Int) (a2:ByteArray):xA a0 a1 a2=xA.a a1 a2 a0 []:=
 (aa cfg 214 _).trans (by kernel_rfl)
theorem xA.a_eq (x1:Int) (x2:ByteArray) (x3 x6:List D1):xA.a x1 x2 x3 x6=bif (decide ((x2.size:Int)>0))then((AH x3 x1).bind fun r1=>bif (aq r1 (x3.length))then(bif (decide (0≤0)&&decide (0≤(if(IntKind.wrap .i64 ((IntKind.wrap .i64 ((rd (τ:=au) x3 r1).1+128))-x1))< (x2.size:Int)then(IntKind.wrap .i64 ((IntKind.wrap .i64 ((rd (τ:=au) x3 r1).1+128))-x1))else(x2.size:Int)))&&decide ((if(IntKind.wrap .i64 ((IntKind.wrap .i64 ((rd (τ:=au) x3 r1).1+128))-x1))< (x2.size:Int)then(IntKind.wrap .i64 ((IntKind.wrap .i64 ((rd (τ:=au) x3 r1).1+128))-x1))else(x2.size:Int))≤(x2.size:Int)))then((R1 x3 x1 (x2.extract (Int.toNat 0) (Int.toNat (if(IntKind.wrap .i64 ((IntKind.wrap .i64 ((rd (τ:=au) x3 r1).1+128))-x1))< (x2.size:Int)then(IntKind.wrap .i64 ((IntKind.wrap .i64 ((rd (τ:=au) x3 r1).1+128))-x1))else(x2.size:Int))))).bind fun r2=>bif (decide (0≤(if(IntKind.wrap .i64 ((IntKind.wrap .i64 ((rd (τ:=au) x3 r1).1+128))-x1))< (x2.size:Int)then(IntKind.wrap .i64 ((IntKind.wrap .i64 ((rd (τ:=au) x3 r1).1+128))-x1))else(x2.size:Int)))&&decide ((if(IntKind.wrap .i64 ((IntKind.wrap .i64 ((rd (τ:=au) x3 r1).1+128))-x1))< (x2.size:Int)then(IntKind.wrap .i64 ((IntKind.wrap .i64 ((rd (τ:=au) x3 r1).1+128))-x1))else(x2.size:Int))≤(x2.size:Int))&&decide ((x2.size:Int)≤(x2.size:Int)))then xA.a (IntKind.wrap .i64 (x1+(if(IntKind.wrap .i64 ((IntKind.wrap .i64 ((rd (τ:=au) x3 r1).1+128))-x1))< (x2.size:Int)then(IntKind.wrap .i64 ((IntKind.wrap .i64 ((rd (τ:=au) x3 r1).1+128))-x1))else(x2.size:Int)))) (x2.extract (Int.toNat (if(IntKind.wrap .i64 ((IntKind.wrap .i64 ((rd (τ:=au) x3 r1).1+128))-x1))< (x2.size:Int)then(IntKind.wrap .i64 ((IntKind.wrap .i64 ((rd (τ:=au) x3 r1).1+128))-x1))else(x2.size:Int))) (Int.toNat (x2.size:Int))) r2 x6 else none)else none)else none)else some x3:=
 (ak cfg 214 _ _ _).trans (by kernel_rfl)
noncomputable def AI (a0:List D1) (a1 a2:Int):Option (List D1):=aw cfg 304 [.agg [.list au a0],.v (.int .i64 a1),.v (.int .i64 a2)]
noncomputable def AI.a (x1 x2:Int) (x3 x6 x7:List D1) (x8:Bool) (x9:Int):Option (List D1):=LA 304 Tryz.f304 [1,1,1,0,1,0] ⟨58,af [vI 1 x1,vI 2 x2,vP 3 447,vP 6 831,(7,.v (.own 928)),(8,.v (.bool x8)),vI 9 x9],ai [(447,.box [.list au x3]),(800,.rows 176 au .no x6),(831,.box [.own 800]),(928,.rows 176 au .no x7)]⟩
theorem Mr (a0:List D1) (a1 a2:Int):AI a0 a1 a2=AI.a a1 a2 a0 [] [] false 0:=
 (aa cfg 304 _).trans (by kernel_rfl)
theorem AI.a_eq (x1 x2:Int) (x3 x6 x7:List D1) (x8:Bool) (x9:Int):AI.a x1 x2 x3 x6 x7 x8 x9=bif (decide (x9< (x3.length:Int)))then(aA (fun kr3=>bif (!x8)then(bif (aq x9 (x3.length))then kr3 (decide ((rd (τ:=au) x3 x9).1>x1))else none)else kr3 false) fun(r2:Bool)=>bif r2 then(bif (decide (0≤128)&&ay (Int.toNat 128) 1)then(bif (ay ((x7.length)+([(x1,x2,(av (List.replicate (Int.toNat 128) (0:Int))))].length)) 32)then(bif (aq x9 (x3.length))then(bif (ay (((x7++[(x1,x2,(av (List.replicate (Int.toNat 128) (0:Int))))]).length)+([(rd (τ:=au) x3 x9)].length)) 32)then AI.a x1 x2 x3 x6 ((x7++[(x1,x2,(av (List.replicate (Int.toNat 128) (0:Int))))])++[(rd (τ:=au) x3 x9)]) true (IntKind.wrap .i64 (x9+1))else none)else none)else none)else none)else(bif (aq x9 (x3.length))then(bif (ay ((x7.length)+([(rd (τ:=au) x3 x9)].length)) 32)then AI.a x1 x2 x3 x6 (x7++[(rd (τ:=au) x3 x9)]) x8 (IntKind.wrap .i64 (x9+1))else none)else none))else(bif (!x8)then(bif (decide (0≤128)&&ay (Int.toNat 128) 1)then(bif (ay ((x7.length)+([(x1,x2,(av (List.replicate (Int.toNat 128) (0:Int))))].length)) 32)then some (x7++[(x1,x2,(av (List.replicate (Int.toNat 128) (0:Int))))])else none)else none)else some x7):=
 (ak cfg 304 _ _ _).trans (by kernel_rfl)
noncomputable def qW (a0:List D1) (a1 a2 a3:Int):Option (List D1):=aw cfg 269 [.agg [.list au a0],.v (.int .i64 a1),.v (.int .i64 a2),.v (.int .i64 a3)]
noncomputable def qW.a (x1 x2 x3:Int) (x4 x8:List D1) (x9:Int):Option (List D1):=LA 269 Tryz.f269 [1,0,1,0] ⟨22,af [vI 1 x1,vI 2 x2,vI 3 x3,vP 4 575,vP 8 1087,vI 9 x9],ai [(575,.box [.list au x4]),(1056,.rows 176 au .no x8),(1087,.box [.own 1056])]⟩
theorem Ms (a0:List D1) (a1 a2 a3:Int):qW a0 a1 a2 a3=qW.a a1 a2 a3 a0 [] 0:=
 (aa cfg 269 _).trans (by kernel_rfl)
theorem qW.a_eq (x1 x2 x3:Int) (x4 x8:List D1) (x9:Int):qW.a x1 x2 x3 x4 x8 x9=bif (decide (x9<x2))then((AI x4 (IntKind.wrap .i64 (x1+x9)) x3).bind fun r1=>qW.a x1 x2 x3 r1 x8 (IntKind.wrap .i64 (x9+128)))else some x4:=
 (ak cfg 269 _ _ _).trans (by kernel_rfl)
noncomputable def DV:Option (List D1):=aw cfg 215 []
noncomputable def DV.a (x0 x1:List D1) (x2:Int):Option (List D1):=LA 215 Tryz.f215 [1,1,1,1,1,0,1,0] ⟨21,af [vP 0 63,vP 1 191,vI 2 x2],ai [(32,.rows 176 au .no x0),(63,.box [.own 32]),(191,.box [.list au x1])]⟩
theorem Mt:DV=(qW [] 4096 1024 4).bind fun r1=>(qW r1 8192 1024 4).bind fun r2=>(qW r2 16384 256 3).bind fun r3=>(qW r3 20480 256 3).bind fun r4=>DV.a [] r4 0:=
 (aa cfg 215 _).trans (by kernel_rfl)
theorem DV.a_eq (x0 x1:List D1) (x2:Int):DV.a x0 x1 x2=bif (decide (x2<4))then((qW x1 (IntKind.wrap .i64 (32768+(IntKind.wrap .i64 (1024*x2)))) 512 11).bind fun r5=>DV.a x0 r5 (IntKind.wrap .i64 (x2+1)))else some x1:=
 (ak cfg 215 _ _ _).trans (by kernel_rfl)
noncomputable def R2 (a0:D3):Option (List D1):=aw cfg 170 [.agg [.str a0.1,.str a0.2.1,.list Y0 a0.2.2]]
theorem Mu (a0:D3):R2 a0=(DV).bind fun r1=>(xA r1 4096 a0.1).bind fun r2=>(xA r2 16384 a0.2.1).bind fun r3=>some r3:=
 (aa cfg 170 _).trans (by kernel_rfl)
noncomputable def R3 (a0:D3):Option Ds:=aw cfg 116 [.agg [.str a0.1,.str a0.2.1,.list Y0 a0.2.2]]
theorem Mv (a0:D3):R3 a0=(DU a0).bind fun r1=>(Dh a0).bind fun r2=>(R2 a0).bind fun r3=>some (r1,(8192,1024,8192),(20480,256,20480),r2,r3):=
 (aa cfg 116 _).trans (by kernel_rfl)
noncomputable def R4 (a0:ByteArray):Option Bool:=aw cfg 270 [.v (.str a0)]
theorem Mw (a0:ByteArray):R4 a0=bif (decide (((a0.size:Int).tmod 4)=0))then(bif (decide ((a0.size:Int)≥20))then some (decide ((a0.size:Int)≤256))else some false)else some false:=
 (aa cfg 270 _).trans (by kernel_rfl)
noncomputable def uQ (a0:D9):Option (Int×Int):=aw cfg 216 [.agg [.str a0.1,.int .i64 a0.2.1,.list Y1 a0.2.2.1,.list (.pair .str .str) a0.2.2.2.1,.list Y2 a0.2.2.2.2.1,.list (.pair (.int .i64) .bool) a0.2.2.2.2.2]]
noncomputable def uQ.a (x1:D9) (x4:Int):Option (Int×Int):=LA 216 Tryz.f216 [1,0,1,0] ⟨49,af [vP 1 191,vI 4 x4],ai [(191,.box [.str x1.1,.int .i64 x1.2.1,.list Y1 x1.2.2.1,.list (.pair .str .str) x1.2.2.2.1,.list Y2 x1.2.2.2.2.1,.list (.pair (.int .i64) .bool) x1.2.2.2.2.2])]⟩
noncomputable def uQ.b (x1:D9) (x4:Int) (x5:D6) (x6:Int):Option (Int×Int):=LA 216 Tryz.f216 [1,0,1,0,0,1,0,0,1,1,0,1,0] ⟨49,af [vP 1 191,vI 4 x4,vP 5 703,vI 6 x6],ai [(191,.box [.str x1.1,.int .i64 x1.2.1,.list Y1 x1.2.2.1,.list (.pair .str .str) x1.2.2.2.1,.list Y2 x1.2.2.2.2.1,.list (.pair (.int .i64) .bool) x1.2.2.2.2.2]),(703,.box [.str x5.1,.bool x5.2.1,.int .i64 x5.2.2.1,.str x5.2.2.2])]⟩
theorem Mx (a0:D9):uQ a0=uQ.a a0 0:=
 (aa cfg 216 _).trans (by kernel_rfl)
theorem uQ.a_eq (x1:D9) (x4:Int):uQ.a x1 x4=bif (decide (x4< (x1.2.2.1.length:Int)))then(bif (aq x4 (x1.2.2.1.length))then((uP ((rd (τ:=Y1) x1.2.2.1 x4).1)).bind fun r1=>bif (!r1)then some (x4,3)else uQ.b x1 x4 (rd (τ:=Y1) x1.2.2.1 x4) 0)else none)else some (0,0):=
 (ak cfg 216 _ _ _).trans (by kernel_rfl)
theorem uQ.b_eq (x1:D9) (x4:Int) (x5:D6) (x6:Int):uQ.b x1 x4 x5 x6=bif (decide (x6<x4))then(bif (aq x6 (x1.2.2.1.length))then(bif (bh ((rd (τ:=Y1) x1.2.2.1 x6).1) x5.1)then some (x4,24)else uQ.b x1 x4 x5 (IntKind.wrap .i64 (x6+1)))else none)else((Ql x5.2.2.1).bind fun r2=>bif (!r2)then some (x4,17)else((R4 x5.2.2.2).bind fun r3=>bif (!r3)then some (x4,8)else uQ.a x1 (IntKind.wrap .i64 (x4+1)))):=
 (ak cfg 216 _ _ _).trans (by kernel_rfl)
noncomputable def ny (a0:D9):Option (Int×Int):=aw cfg 217 [.agg [.str a0.1,.int .i64 a0.2.1,.list Y1 a0.2.2.1,.list (.pair .str .str) a0.2.2.2.1,.list Y2 a0.2.2.2.2.1,.list (.pair (.int .i64) .bool) a0.2.2.2.2.2]]
noncomputable def ny.a (x1:D9) (x4:Int):Option (Int×Int):=LA 217 Tryz.f217 [1,0,1,0] ⟨75,af [vP 1 191,vI 4 x4],ai [(191,.box [.str x1.1,.int .i64 x1.2.1,.list Y1 x1.2.2.1,.list (.pair .str .str) x1.2.2.2.1,.list Y2 x1.2.2.2.2.1,.list (.pair (.int .i64) .bool) x1.2.2.2.2.2])]⟩
noncomputable def ny.b (x1:D9) (x4:Int) (x5:D7) (x6:Int):Option (Int×Int):=LA 217 Tryz.f217 [1,0,1,0,0,1,0,0,1,1,0,1,0] ⟨75,af [vP 1 191,vI 4 x4,vP 5 703,vI 6 x6],ai [(191,.box [.str x1.1,.int .i64 x1.2.1,.list Y1 x1.2.2.1,.list (.pair .str .str) x1.2.2.2.1,.list Y2 x1.2.2.2.2.1,.list (.pair (.int .i64) .bool) x1.2.2.2.2.2]),(703,.box [.str x5.1,.str x5.2])]⟩
noncomputable def ny.c (x1:D9) (x4:Int) (x5:D7) (x7:Int):Option (Int×Int):=LA 217 Tryz.f217 [1,0,1,0,0,1,0,0,1,1,1,0,1,0] ⟨75,af [vP 1 191,vI 4 x4,vP 5 703,vI 7 x7],ai [(191,.box [.str x1.1,.int .i64 x1.2.1,.list Y1 x1.2.2.1,.list (.pair .str .str) x1.2.2.2.1,.list Y2 x1.2.2.2.2.1,.list (.pair (.int .i64) .bool) x1.2.2.2.2.2]),(703,.box [.str x5.1,.str x5.2])]⟩
theorem My (a0:D9):ny a0=ny.a a0 0:=
 (aa cfg 217 _).trans (by kernel_rfl)
theorem ny.a_eq (x1:D9) (x4:Int):ny.a x1 x4=bif (decide (x4< (x1.2.2.2.1.length:Int)))then(bif (aq x4 (x1.2.2.2.1.length))then((uP ((rd (τ:=(.pair .str .str)) x1.2.2.2.1 x4).1)).bind fun r1=>bif (!r1)then some (x4,3)else ny.b x1 x4 (rd (τ:=(.pair .str .str)) x1.2.2.2.1 x4) 0)else none)else some (0,0):=
 (ak cfg 217 _ _ _).trans (by kernel_rfl)
theorem ny.b_eq (x1:D9) (x4:Int) (x5:D7) (x6:Int):ny.b x1 x4 x5 x6=bif (decide (x6< (x1.2.2.1.length:Int)))then(bif (aq x6 (x1.2.2.1.length))then(bif (bh ((rd (τ:=Y1) x1.2.2.1 x6).1) x5.1)then some (x4,24)else ny.b x1 x4 x5 (IntKind.wrap .i64 (x6+1)))else none)else ny.c x1 x4 x5 0:=
 (ak cfg 217 _ _ _).trans (by kernel_rfl)
theorem ny.c_eq (x1:D9) (x4:Int) (x5:D7) (x7:Int):ny.c x1 x4 x5 x7=bif (decide (x7<x4))then(bif (aq x7 (x1.2.2.2.1.length))then(bif (bh ((rd (τ:=(.pair .str .str)) x1.2.2.2.1 x7).1) x5.1)then some (x4,24)else ny.c x1 x4 x5 (IntKind.wrap .i64 (x7+1)))else none)else(bif (!decide (((x5.2.size:Int).tmod 8)=0))then some (x4,8)else(bif (decide ((x5.2.size:Int)<8))then some (x4,8)else(bif (decide ((x5.2.size:Int)>64))then some (x4,8)else ny.a x1 (IntKind.wrap .i64 (x4+1))))):=
 (ak cfg 217 _ _ _).trans (by kernel_rfl)
noncomputable def Q0 (a0:D9) (a1:Int):Option Int:=aw cfg 271 [.agg [.str a0.1,.int .i64 a0.2.1,.list Y1 a0.2.2.1,.list (.pair .str .str) a0.2.2.2.1,.list Y2 a0.2.2.2.2.1,.list (.pair (.int .i64) .bool) a0.2.2.2.2.2],.v (.int .i64 a1)]
theorem Mz (a0:D9) (a1:Int):Q0 a0 a1=aA (fun kr6=>bif (decide (a1≥0))then kr6 (decide (a1< (a0.2.2.1.length:Int)))else kr6 false) fun(r2:Bool)=>bif r2 then(bif (aq a1 (a0.2.2.1.length))then some (IntKind.wrap .i64 ((((rd (τ:=Y1) a0.2.2.1 a1).2.2.2).size:Int).tdiv 4))else none)else(aA (fun kr5=>bif (decide (a1≥(a0.2.2.1.length:Int)))then kr5 (decide ((IntKind.wrap .i64 (a1-(a0.2.2.1.length:Int)))< (a0.2.2.2.1.length:Int)))else kr5 false) fun(r4:Bool)=>bif r4 then(bif (aq (IntKind.wrap .i64 (a1-(a0.2.2.1.length:Int))) (a0.2.2.2.1.length))then some (IntKind.wrap .i64 ((((rd (τ:=(.pair .str .str)) a0.2.2.2.1 (IntKind.wrap .i64 (a1-(a0.2.2.1.length:Int)))).2).size:Int).tdiv 8))else none)else some (-1)):=
 (aa cfg 271 _).trans (by kernel_rfl)
noncomputable def DW (a0:D9):Option (Int×Int):=aw cfg 218 [.agg [.str a0.1,.int .i64 a0.2.1,.list Y1 a0.2.2.1,.list (.pair .str .str) a0.2.2.2.1,.list Y2 a0.2.2.2.2.1,.list (.pair (.int .i64) .bool) a0.2.2.2.2.2]]
noncomputable def DW.a (x1:D9) (x4:Int):Option (Int×Int):=LA 218 Tryz.f218 [1,0,1,0] ⟨85,af [vP 1 191,vI 4 x4],ai [(191,.box [.str x1.1,.int .i64 x1.2.1,.list Y1 x1.2.2.1,.list (.pair .str .str) x1.2.2.2.1,.list Y2 x1.2.2.2.2.1,.list (.pair (.int .i64) .bool) x1.2.2.2.2.2])]⟩
theorem MA (a0:D9):DW a0=DW.a a0 0:=
 (aa cfg 218 _).trans (by kernel_rfl)
theorem DW.a_eq (x1:D9) (x4:Int):DW.a x1 x4=bif (decide (x4< (x1.2.2.2.2.1.length:Int)))then(bif (aq x4 (x1.2.2.2.2.1.length))then(aA (fun kr13=>bif (decide ((rd (τ:=Y2) x1.2.2.2.2.1 x4).2.1<0))then kr13 true else((Q0 x1 ((rd (τ:=Y2) x1.2.2.2.2.1 x4).1)).bind fun r1=>kr13 (decide ((rd (τ:=Y2) x1.2.2.2.2.1 x4).2.1≥r1)))) fun(r3:Bool)=>bif r3 then some (x4,4)else(aA (fun kr12=>(oc ((rd (τ:=Y2) x1.2.2.2.2.1 x4).2.2.1) 1 9).bind fun r4=>bif (!r4)then kr12 true else kr12 (!((decide ((rd (τ:=Y2) x1.2.2.2.2.1 x4).2.2.1=9))==(decide ((rd (τ:=Y2) x1.2.2.2.2.1 x4).1≥(x1.2.2.1.length:Int)))))) fun(r6:Bool)=>bif r6 then some (x4,26)else((uP ((rd (τ:=Y2) x1.2.2.2.2.1 x4).2.2.2.1)).bind fun r7=>bif (!r7)then some (x4,3)else((oc ((rd (τ:=Y2) x1.2.2.2.2.1 x4).2.2.2.2) (-2147483648) 2147483647).bind fun r8=>bif (!r8)then some (x4,4)else(bif (decide (x4>0))then(bif (aq (IntKind.wrap .i64 (x4-1)) (x1.2.2.2.2.1.length))then(bif (aq (IntKind.wrap .i64 (x4-1)) (x1.2.2.2.2.1.length))then((DS [(rd (τ:=Y2) x1.2.2.2.2.1 (IntKind.wrap .i64 (x4-1))).1,(rd (τ:=Y2) x1.2.2.2.2.1 (IntKind.wrap .i64 (x4-1))).2.1] [(rd (τ:=Y2) x1.2.2.2.2.1 x4).1,(rd (τ:=Y2) x1.2.2.2.2.1 x4).2.1]).bind fun r9=>bif (!r9)then some (x4,24)else DW.a x1 (IntKind.wrap .i64 (x4+1)))else none)else none)else DW.a x1 (IntKind.wrap .i64 (x4+1)))))))else none)else some (0,0):=
 (ak cfg 218 _ _ _).trans (by kernel_rfl)
noncomputable def DX (a0:D9):Option (Int×Int):=aw cfg 219 [.agg [.str a0.1,.int .i64 a0.2.1,.list Y1 a0.2.2.1,.list (.pair .str .str) a0.2.2.2.1,.list Y2 a0.2.2.2.2.1,.list (.pair (.int .i64) .bool) a0.2.2.2.2.2]]
noncomputable def DX.a (x1:D9) (x4:Int):Option (Int×Int):=LA 219 Tryz.f219 [1,0,1,0] ⟨40,af [vP 1 191,vI 4 x4],ai [(191,.box [.str x1.1,.int .i64 x1.2.1,.list Y1 x1.2.2.1,.list (.pair .str .str) x1.2.2.2.1,.list Y2 x1.2.2.2.2.1,.list (.pair (.int .i64) .bool) x1.2.2.2.2.2])]⟩
theorem MB (a0:D9):DX a0=DX.a a0 0:=
 (aa cfg 219 _).trans (by kernel_rfl)
theorem DX.a_eq (x1:D9) (x4:Int):DX.a x1 x4=bif (decide (x4< (x1.2.2.2.2.2.length:Int)))then(bif (aq x4 (x1.2.2.2.2.2.length))then((oc ((rd (τ:=(.pair (.int .i64) .bool)) x1.2.2.2.2.2 x4).1) 0 255).bind fun r1=>bif (!r1)then some (x4,4)else(bif (decide (x4>0))then(bif (aq x4 (x1.2.2.2.2.2.length))then(bif (aq (IntKind.wrap .i64 (x4-1)) (x1.2.2.2.2.2.length))then(bif (decide ((rd (τ:=(.pair (.int .i64) .bool)) x1.2.2.2.2.2 x4).1≤(rd (τ:=(.pair (.int .i64) .bool)) x1.2.2.2.2.2 (IntKind.wrap .i64 (x4-1))).1))then some (x4,24)else DX.a x1 (IntKind.wrap .i64 (x4+1)))else none)else none)else DX.a x1 (IntKind.wrap .i64 (x4+1))))else none)else some (0,0):=
 (ak cfg 219 _ _ _).trans (by kernel_rfl)
noncomputable def R5 (a0:D9):Option (Int×Int):=aw cfg 171 [.agg [.str a0.1,.int .i64 a0.2.1,.list Y1 a0.2.2.1,.list (.pair .str .str) a0.2.2.2.1,.list Y2 a0.2.2.2.2.1,.list (.pair (.int .i64) .bool) a0.2.2.2.2.2]]
theorem MC (a0:D9):R5 a0=(uP a0.1).bind fun r1=>bif (!r1)then some (0,3)else((oc a0.2.1 0 5).bind fun r2=>bif (!r2)then some (0,27)else(bif (decide ((a0.2.2.1.length:Int)=0))then some (0,5)else(aA (fun kr13=>bif (decide ((a0.2.2.1.length:Int)>4))then kr13 true else(bif (decide ((a0.2.2.2.1.length:Int)>4))then kr13 true else(bif (decide ((a0.2.2.2.2.1.length:Int)>32))then kr13 true else kr13 (decide ((a0.2.2.2.2.2.length:Int)>4))))) fun(r8:Bool)=>bif r8 then some (0,6)else((uQ a0).bind fun r9=>bif (!decide (r9.2=0))then some r9 else((ny a0).bind fun r10=>bif (!decide (r10.2=0))then some r10 else((DW a0).bind fun r11=>bif (!decide (r11.2=0))then some r11 else((DX a0).bind fun r12=>some r12))))))):=
 (aa cfg 171 _).trans (by kernel_rfl)
noncomputable def R6 (a0:D9):Option Bool:=aw cfg 117 [.agg [.str a0.1,.int .i64 a0.2.1,.list Y1 a0.2.2.1,.list (.pair .str .str) a0.2.2.2.1,.list Y2 a0.2.2.2.2.1,.list (.pair (.int .i64) .bool) a0.2.2.2.2.2]]
theorem MD (a0:D9):R6 a0=(R5 a0).bind fun r1=>some (decide (r1.2=0)):=
 (aa cfg 117 _).trans (by kernel_rfl)
noncomputable def jt (a0:List eu) (a1:D9):Option Int:=aw cfg 118 [.v (.list Y6 a0),.agg [.str a1.1,.int .i64 a1.2.1,.list Y1 a1.2.2.1,.list (.pair .str .str) a1.2.2.2.1,.list Y2 a1.2.2.2.2.1,.list (.pair (.int .i64) .bool) a1.2.2.2.2.2]]
noncomputable def jt.a (x0:List eu) (x3:D9) (x5:Int):Option Int:=LA 118 Tryz.f118 [1,0,1,0] ⟨62,af [vL 0 Y6 x0,vP 3 447,vI 5 x5],ai [(447,.box [.str x3.1,.int .i64 x3.2.1,.list Y1 x3.2.2.1,.list (.pair .str .str) x3.2.2.2.1,.list Y2 x3.2.2.2.2.1,.list (.pair (.int .i64) .bool) x3.2.2.2.2.2])]⟩
noncomputable def jt.b (x0:List eu) (x3:D9) (x6:Int):Option Int:=LA 118 Tryz.f118 [1,1,0,1,0] ⟨62,af [vL 0 Y6 x0,vP 3 447,vI 6 x6],ai [(447,.box [.str x3.1,.int .i64 x3.2.1,.list Y1 x3.2.2.1,.list (.pair .str .str) x3.2.2.2.1,.list Y2 x3.2.2.2.2.1,.list (.pair (.int .i64) .bool) x3.2.2.2.2.2])]⟩
noncomputable def jt.c (x0:List eu) (x3:D9) (x6:Int) (x7:List (Int×Bool)) (x8:Int):Option Int:=LA 118 Tryz.f118 [1,1,0,1,0,0,1,0,0,1,1,0] ⟨62,af [vL 0 Y6 x0,vP 3 447,vI 6 x6,vL 7 (.pair (.int .i64) .bool) x7,vI 8 x8],ai [(447,.box [.str x3.1,.int .i64 x3.2.1,.list Y1 x3.2.2.1,.list (.pair .str .str) x3.2.2.2.1,.list Y2 x3.2.2.2.2.1,.list (.pair (.int .i64) .bool) x3.2.2.2.2.2])]⟩
noncomputable def jt.d (x0:List eu) (x3:D9) (x6:Int) (x7:List (Int×Bool)) (x8 x9:Int):Option Int:=LA 118 Tryz.f118 [1,1,0,1,0,0,1,0,0,1,1,0,0,1,0,0,1,0] ⟨62,af [vL 0 Y6 x0,vP 3 447,vI 6 x6,vL 7 (.pair (.int .i64) .bool) x7,vI 8 x8,vI 9 x9],ai [(447,.box [.str x3.1,.int .i64 x3.2.1,.list Y1 x3.2.2.1,.list (.pair .str .str) x3.2.2.2.1,.list Y2 x3.2.2.2.2.1,.list (.pair (.int .i64) .bool) x3.2.2.2.2.2])]⟩
theorem ME (a0:List eu) (a1:D9):jt a0 a1=jt.a a0 a1 0:=
 (aa cfg 118 _).trans (by kernel_rfl)
theorem jt.a_eq (x0:List eu) (x3:D9) (x5:Int):jt.a x0 x3 x5=bif (decide (x5< (x0.length:Int)))then(bif (aq x5 (x0.length))then(bif (bh ((rd (τ:=Y6) x0 x5).1.1) x3.1)then some 24 else jt.a x0 x3 (IntKind.wrap .i64 (x5+1)))else none)else jt.b x0 x3 0:=
 (ak cfg 118 _ _ _).trans (by kernel_rfl)
theorem jt.b_eq (x0:List eu) (x3:D9) (x6:Int):jt.b x0 x3 x6=bif (decide (x6< (x0.length:Int)))then(bif (aq x6 (x0.length))then jt.c x0 x3 x6 ((rd (τ:=Y6) x0 x6).1.2.2.2.2.2) 0 else none)else some 0:=
 (ak cfg 118 _ _ _).trans (by kernel_rfl)
theorem jt.c_eq (x0:List eu) (x3:D9) (x6:Int) (x7:List (Int×Bool)) (x8:Int):jt.c x0 x3 x6 x7 x8=bif (decide (x8< (x7.length:Int)))then jt.d x0 x3 x6 x7 x8 0 else jt.b x0 x3 (IntKind.wrap .i64 (x6+1)):=
 (ak cfg 118 _ _ _).trans (by kernel_rfl)
theorem jt.d_eq (x0:List eu) (x3:D9) (x6:Int) (x7:List (Int×Bool)) (x8 x9:Int):jt.d x0 x3 x6 x7 x8 x9=bif (decide (x9< (x3.2.2.2.2.2.length:Int)))then(bif (aq x8 (x7.length))then(bif (aq x9 (x3.2.2.2.2.2.length))then(bif (decide ((rd (τ:=(.pair (.int .i64) .bool)) x7 x8).1=(rd (τ:=(.pair (.int .i64) .bool)) x3.2.2.2.2.2 x9).1))then some 30 else jt.d x0 x3 x6 x7 x8 (IntKind.wrap .i64 (x9+1)))else none)else none)else jt.c x0 x3 x6 x7 (IntKind.wrap .i64 (x8+1)):=
 (ak cfg 118 _ _ _).trans (by kernel_rfl)
noncomputable def tF (a0:List D0) (a1:D9):Option Int:=aw cfg 172 [.v (.list aL a0),.agg [.str a1.1,.int .i64 a1.2.1,.list Y1 a1.2.2.1,.list (.pair .str .str) a1.2.2.2.1,.list Y2 a1.2.2.2.2.1,.list (.pair (.int .i64) .bool) a1.2.2.2.2.2]]
noncomputable def tF.a (x0:List D0) (x3:D9) (x5:Int):Option Int:=LA 172 Tryz.f172 [1,0,1,0] ⟨56,af [vL 0 aL x0,vP 3 447,vI 5 x5],ai [(447,.box [.str x3.1,.int .i64 x3.2.1,.list Y1 x3.2.2.1,.list (.pair .str .str) x3.2.2.2.1,.list Y2 x3.2.2.2.2.1,.list (.pair (.int .i64) .bool) x3.2.2.2.2.2])]⟩
noncomputable def tF.b (x0:List D0) (x3:D9) (x7:Int):Option Int:=LA 172 Tryz.f172 [1,1,0,1,0] ⟨56,af [vL 0 aL x0,vP 3 447,vI 7 x7],ai [(447,.box [.str x3.1,.int .i64 x3.2.1,.list Y1 x3.2.2.1,.list (.pair .str .str) x3.2.2.2.1,.list Y2 x3.2.2.2.2.1,.list (.pair (.int .i64) .bool) x3.2.2.2.2.2])]⟩
theorem MF (a0:List D0) (a1:D9):tF a0 a1=tF.a a0 a1 0:=
 (aa cfg 172 _).trans (by kernel_rfl)
theorem tF.a_eq (x0:List D0) (x3:D9) (x5:Int):tF.a x0 x3 x5=bif (decide (x5< (x3.2.2.1.length:Int)))then(bif (aq x5 (x3.2.2.1.length))then((xz x0 ((rd (τ:=Y1) x3.2.2.1 x5).1)).bind fun r1=>bif (aq x5 (x3.2.2.1.length))then(bif (!(rd (τ:=Y1) x3.2.2.1 x5).2.1)then(bif (decide (r1≥0))then some 24 else tF.a x0 x3 (IntKind.wrap .i64 (x5+1)))else(bif (decide (r1<0))then some 23 else(bif (aq r1 (x0.length))then(bif (!decide ((rd (τ:=aL) x0 r1).2.1=1))then some 26 else tF.a x0 x3 (IntKind.wrap .i64 (x5+1)))else none)))else none)else none)else tF.b x0 x3 0:=
 (ak cfg 172 _ _ _).trans (by kernel_rfl)
theorem tF.b_eq (x0:List D0) (x3:D9) (x7:Int):tF.b x0 x3 x7=bif (decide (x7< (x3.2.2.2.1.length:Int)))then(bif (aq x7 (x3.2.2.2.1.length))then((xz x0 ((rd (τ:=(.pair .str .str)) x3.2.2.2.1 x7).1)).bind fun r2=>bif (decide (r2≥0))then some 24 else tF.b x0 x3 (IntKind.wrap .i64 (x7+1)))else none)else some 0:=
 (ak cfg 172 _ _ _).trans (by kernel_rfl)
noncomputable def DY (a0:Int×Int×Int) (a1:Int):Option Sy:=aw cfg 220 [.agg [.int .i64 a0.1,.int .i64 a0.2.1,.int .i64 a0.2.2],.v (.int .i64 a1)]
noncomputable def DY.a (x1:Int) (x2 x4:Int×Int×Int):Option Sy:=LA 220 Tryz.f220 [1,0,0] ⟨33,af [vI 1 x1,vP 2 319,vP 4 575],ai [(319,.box [.int .i64 x2.1,.int .i64 x2.2.1,.int .i64 x2.2.2]),(575,.box [.int .i64 x4.1,.int .i64 x4.2.1,.int .i64 x4.2.2])]⟩
theorem MG (a0:Int×Int×Int) (a1:Int):DY a0 a1=DY.a a1 a0 (0,0,0):=
 (aa cfg 220 _).trans (by kernel_rfl)
theorem DY.a_eq (x1:Int) (x2 x4:Int×Int×Int):DY.a x1 x2 x4=bif (!decide ((x1.tmod 8)=0))then DY.a (IntKind.wrap .i64 (x1+1)) x2 x4 else(bif (decide (x1>(IntKind.wrap .i64 ((IntKind.wrap .i64 (x2.1+x2.2.1))-x2.2.2))))then some (x2,0,false)else some ((x2.1,x2.2.1,(IntKind.wrap .i64 (x2.2.2+x1))),x2.2.2,true)):=
 (ak cfg 220 _ _ _).trans (by kernel_rfl)
noncomputable def qX (a0 a1:Int×Int×Int) (a2:D9):Option Sz:=aw cfg 173 [.agg [.int .i64 a0.1,.int .i64 a0.2.1,.int .i64 a0.2.2],.agg [.int .i64 a1.1,.int .i64 a1.2.1,.int .i64 a1.2.2],.agg [.str a2.1,.int .i64 a2.2.1,.list Y1 a2.2.2.1,.list (.pair .str .str) a2.2.2.2.1,.list Y2 a2.2.2.2.2.1,.list (.pair (.int .i64) .bool) a2.2.2.2.2.2]]
noncomputable def qX.a (x3 x4:Int×Int×Int) (x5:D9) (x6:b9) (x7 x8:Int×Int×Int) (x10:b9) (x11:Int):Option Sz:=LA 173 Tryz.f173 [1,1,0,1,0] ⟨113,af [vP 3 447,vP 4 575,vP 5 703,vP 6 831,vP 7 959,vP 8 1087,vP 10 1343,vI 11 x11],ai [(447,.box [.int .i64 x3.1,.int .i64 x3.2.1,.int .i64 x3.2.2]),(575,.box [.int .i64 x4.1,.int .i64 x4.2.1,.int .i64 x4.2.2]),(703,.box [.str x5.1,.int .i64 x5.2.1,.list Y1 x5.2.2.1,.list (.pair .str .str) x5.2.2.2.1,.list Y2 x5.2.2.2.2.1,.list (.pair (.int .i64) .bool) x5.2.2.2.2.2]),(800,.rows 3 (.int .i64) .no x6.1),(801,.rows 9 .str .no x6.2.1),(802,.rows 3 (.int .i64) .no x6.2.2.1),(803,.rows 9 .str .no x6.2.2.2),(831,.box [.own 800,.own 801,.own 802,.own 803]),(959,.box [.int .i64 x7.1,.int .i64 x7.2.1,.int .i64 x7.2.2]),(1087,.box [.int .i64 x8.1,.int .i64 x8.2.1,.int .i64 x8.2.2]),(1312,.rows 3 (.int .i64) .no x10.1),(1313,.rows 9 .str .no x10.2.1),(1314,.rows 3 (.int .i64) .no x10.2.2.1),(1315,.rows 9 .str .no x10.2.2.2),(1343,.box [.own 1312,.own 1313,.own 1314,.own 1315])]⟩
noncomputable def qX.b (x3 x4:Int×Int×Int) (x5:D9) (x6:b9) (x7 x8:Int×Int×Int) (x10:b9) (x15:Int):Option Sz:=LA 173 Tryz.f173 [1,1,1,0,1,0] ⟨113,af [vP 3 447,vP 4 575,vP 5 703,vP 6 831,vP 7 959,vP 8 1087,vP 10 1343,vI 15 x15],ai [(447,.box [.int .i64 x3.1,.int .i64 x3.2.1,.int .i64 x3.2.2]),(575,.box [.int .i64 x4.1,.int .i64 x4.2.1,.int .i64 x4.2.2]),(703,.box [.str x5.1,.int .i64 x5.2.1,.list Y1 x5.2.2.1,.list (.pair .str .str) x5.2.2.2.1,.list Y2 x5.2.2.2.2.1,.list (.pair (.int .i64) .bool) x5.2.2.2.2.2]),(800,.rows 3 (.int .i64) .no x6.1),(801,.rows 9 .str .no x6.2.1),(802,.rows 3 (.int .i64) .no x6.2.2.1),(803,.rows 9 .str .no x6.2.2.2),(831,.box [.own 800,.own 801,.own 802,.own 803]),(959,.box [.int .i64 x7.1,.int .i64 x7.2.1,.int .i64 x7.2.2]),(1087,.box [.int .i64 x8.1,.int .i64 x8.2.1,.int .i64 x8.2.2]),(1312,.rows 3 (.int .i64) .no x10.1),(1313,.rows 9 .str .no x10.2.1),(1314,.rows 3 (.int .i64) .no x10.2.2.1),(1315,.rows 9 .str .no x10.2.2.2),(1343,.box [.own 1312,.own 1313,.own 1314,.own 1315])]⟩
theorem MH (a0 a1:Int×Int×Int) (a2:D9):qX a0 a1 a2=qX.a a0 a1 a2 ([],[],[],[]) (0,0,0) (0,0,0) ([],[],[],[]) 0:=
 (aa cfg 173 _).trans (by kernel_rfl)
theorem qX.a_eq (x3 x4:Int×Int×Int) (x5:D9) (x6:b9) (x7 x8:Int×Int×Int) (x10:b9) (x11:Int):qX.a x3 x4 x5 x6 x7 x8 x10 x11=bif (decide (x11< (x5.2.2.1.length:Int)))then(bif (aq x11 (x5.2.2.1.length))then((DY x3 (((rd (τ:=Y1) x5.2.2.1 x11).2.2.2).size:Int)).bind fun r1=>bif (!r1.2.2)then some (x10,x3,x4,false)else(bif (ay ((x10.1.length)+([r1.2.1].length)) 8)then(bif (aq x11 (x5.2.2.1.length))then(bif (ay ((x10.2.1.length)+([(rd (τ:=Y1) x5.2.2.1 x11).2.2.2].length)) 16)then qX.a r1.1 x4 x5 x6 x7 x8 ((x10.1++[r1.2.1]),(x10.2.1++[(rd (τ:=Y1) x5.2.2.1 x11).2.2.2]),x10.2.2) (IntKind.wrap .i64 (x11+1))else none)else none)else none))else none)else qX.b x3 x4 x5 x6 x7 x8 x10 0:=
 (ak cfg 173 _ _ _).trans (by kernel_rfl)
theorem qX.b_eq (x3 x4:Int×Int×Int) (x5:D9) (x6:b9) (x7 x8:Int×Int×Int) (x10:b9) (x15:Int):qX.b x3 x4 x5 x6 x7 x8 x10 x15=bif (decide (x15< (x5.2.2.2.1.length:Int)))then(bif (aq x15 (x5.2.2.2.1.length))then((DY x4 (((rd (τ:=(.pair .str .str)) x5.2.2.2.1 x15).2).size:Int)).bind fun r2=>bif (!r2.2.2)then some (x10,x3,x4,false)else(bif (ay ((x10.2.2.1.length)+([r2.2.1].length)) 8)then(bif (aq x15 (x5.2.2.2.1.length))then(bif (ay ((x10.2.2.2.length)+([(rd (τ:=(.pair .str .str)) x5.2.2.2.1 x15).2].length)) 16)then qX.b x3 r2.1 x5 x6 x7 x8 (x10.1,x10.2.1,(x10.2.2.1++[r2.2.1]),(x10.2.2.2++[(rd (τ:=(.pair .str .str)) x5.2.2.2.1 x15).2])) (IntKind.wrap .i64 (x15+1))else none)else none)else none))else none)else some (x10,x3,x4,true):=
 (ak cfg 173 _ _ _).trans (by kernel_rfl)
noncomputable def ic (a0 a1:Int):Option ByteArray:=aw cfg 69 [.v (.int .i64 a0),.v (.int .i64 a1)]
noncomputable def ic.a (x0 x1:Int) (x5:List Int) (x6:Int):Option ByteArray:=LA 69 Tryz.f69 [1,1,0,1,0] ⟨25,af [vI 0 x0,vI 1 x1,(5,.v (.own 672)),vI 6 x6],ai [(672,.rows 5 (.int .u8) .no x5)]⟩
theorem MI (a0 a1:Int):ic a0 a1=ic.a a0 a1 [] 0:=
 (aa cfg 69 _).trans (by kernel_rfl)
theorem ic.a_eq (x0 x1:Int) (x5:List Int) (x6:Int):ic.a x0 x1 x5 x6=bif (decide (x6<x1))then(bif (decide ((IntKind.wrap .u64 ((IntKind.wrap .i64 (8*x6))))<0))then none else(bif (ay ((x5.length)+([(IntKind.wrap .u8 ((lZ .u64 (IntKind.wrap .u64 (x0)) (IntKind.wrap .u64 ((IntKind.wrap .i64 (8*x6)))))))].length)) 1)then ic.a x0 x1 (x5++[(IntKind.wrap .u8 ((lZ .u64 (IntKind.wrap .u64 (x0)) (IntKind.wrap .u64 ((IntKind.wrap .i64 (8*x6)))))))]) (IntKind.wrap .i64 (x6+1))else none))else some (av x5):=
 (ak cfg 69 _ _ _).trans (by kernel_rfl)
noncomputable def tG (a0:List D0) (a1:D9) (a2:b9) (a3:ByteArray):Option (Int×Bool):=aw cfg 221 [.v (.list aL a0),.agg [.str a1.1,.int .i64 a1.2.1,.list Y1 a1.2.2.1,.list (.pair .str .str) a1.2.2.2.1,.list Y2 a1.2.2.2.2.1,.list (.pair (.int .i64) .bool) a1.2.2.2.2.2],.agg [.list (.int .i64) a2.1,.list .str a2.2.1,.list (.int .i64) a2.2.2.1,.list .str a2.2.2.2],.v (.str a3)]
noncomputable def tG.a (x0:List D0) (x3:ByteArray) (x5:D9) (x6:b9) (x10:Int):Option (Int×Bool):=LA 221 Tryz.f221 [1,0,1,0] ⟨72,af [vL 0 aL x0,(3,.v (.str x3)),vP 5 703,vP 6 831,vI 10 x10],ai [(703,.box [.str x5.1,.int .i64 x5.2.1,.list Y1 x5.2.2.1,.list (.pair .str .str) x5.2.2.2.1,.list Y2 x5.2.2.2.2.1,.list (.pair (.int .i64) .bool) x5.2.2.2.2.2]),(831,.box [.list (.int .i64) x6.1,.list .str x6.2.1,.list (.int .i64) x6.2.2.1,.list .str x6.2.2.2])]⟩
noncomputable def tG.b (x0:List D0) (x3:ByteArray) (x5:D9) (x6:b9) (x11:Int):Option (Int×Bool):=LA 221 Tryz.f221 [1,1,0,1,0] ⟨72,af [vL 0 aL x0,(3,.v (.str x3)),vP 5 703,vP 6 831,vI 11 x11],ai [(703,.box [.str x5.1,.int .i64 x5.2.1,.list Y1 x5.2.2.1,.list (.pair .str .str) x5.2.2.2.1,.list Y2 x5.2.2.2.2.1,.list (.pair (.int .i64) .bool) x5.2.2.2.2.2]),(831,.box [.list (.int .i64) x6.1,.list .str x6.2.1,.list (.int .i64) x6.2.2.1,.list .str x6.2.2.2])]⟩
theorem MJ (a0:List D0) (a1:D9) (a2:b9) (a3:ByteArray):tG a0 a1 a2 a3=tG.a a0 a3 a1 a2 0:=
 (aa cfg 221 _).trans (by kernel_rfl)
theorem tG.a_eq (x0:List D0) (x3:ByteArray) (x5:D9) (x6:b9) (x10:Int):tG.a x0 x3 x5 x6 x10=bif (decide (x10< (x5.2.2.1.length:Int)))then(bif (aq x10 (x5.2.2.1.length))then(bif (!(rd (τ:=Y1) x5.2.2.1 x10).2.1)then(bif (aq x10 (x5.2.2.1.length))then(bif (bh ((rd (τ:=Y1) x5.2.2.1 x10).1) x3)then(bif (aq x10 (x6.1.length))then some ((rd (τ:=(.int .i64)) x6.1 x10),true)else none)else tG.a x0 x3 x5 x6 (IntKind.wrap .i64 (x10+1)))else none)else tG.a x0 x3 x5 x6 (IntKind.wrap .i64 (x10+1)))else none)else tG.b x0 x3 x5 x6 0:=
 (ak cfg 221 _ _ _).trans (by kernel_rfl)
theorem tG.b_eq (x0:List D0) (x3:ByteArray) (x5:D9) (x6:b9) (x11:Int):tG.b x0 x3 x5 x6 x11=bif (decide (x11< (x5.2.2.2.1.length:Int)))then(bif (aq x11 (x5.2.2.2.1.length))then(bif (bh ((rd (τ:=(.pair .str .str)) x5.2.2.2.1 x11).1) x3)then(bif (aq x11 (x6.2.2.1.length))then some ((rd (τ:=(.int .i64)) x6.2.2.1 x11),true)else none)else tG.b x0 x3 x5 x6 (IntKind.wrap .i64 (x11+1)))else none)else((xz x0 x3).bind fun r5=>bif (decide (r5<0))then some (0,false)else(bif (aq r5 (x0.length))then some ((rd (τ:=aL) x0 r5).2.2.1,true)else none)):=
 (ak cfg 221 _ _ _).trans (by kernel_rfl)
noncomputable def R7 (a0:cG) (a1:Int):Option Bool:=aw cfg 272 [.agg [.int .i64 a0.1,.int .i64 a0.2.1,.int .i64 a0.2.2.1,.int .i64 a0.2.2.2.1,.int .i64 a0.2.2.2.2],.v (.int .i64 a1)]
theorem MK (a0:cG) (a1:Int):R7 a0 a1=(Ju a0.1).bind fun r1=>bif (decide (a1=1))then some (decide (a0.1=1))else(aA (fun kr7=>bif (decide (a1=2))then kr7 (decide (a1=2))else kr7 (decide (a1=5))) fun(r2:Bool)=>bif r2 then(bif (decide (r1.1=3))then some (!decide (a0.1=4))else some false)else(aA (fun kr6=>bif (decide (a1=3))then kr6 (decide (a1=3))else kr6 (decide (a1=6))) fun(r5:Bool)=>bif r5 then some (decide (r1.1=5))else(bif (decide (a1=4))then some (decide (a0.1=2))else(bif (decide (a1=7))then some (decide (a0.1=3))else(bif (decide (a1=8))then some (decide (r1.1=4))else some false))))):=
 (aa cfg 272 _).trans (by kernel_rfl)
noncomputable def Pg (a0:Int):Option Int:=aw cfg 306 [.v (.int .i64 a0)]
theorem ML (a0:Int):Pg a0=(xx a0 12).bind fun r1=>some r1:=
 (aa cfg 306 _).trans (by kernel_rfl)
noncomputable def Q1 (a0:Int):Option Int:=aw cfg 305 [.v (.int .i64 a0)]
theorem MM (a0:Int):Q1 a0=(Pg a0).bind fun r1=>some (IntKind.wrap .i64 (a0-r1)):=
 (aa cfg 305 _).trans (by kernel_rfl)
noncomputable def R8 (a0 a1 a2:Int):Option Int:=aw cfg 273 [.v (.int .i64 a0),.v (.int .i64 a1),.v (.int .i64 a2)]
theorem MN (a0 a1 a2:Int):R8 a0 a1 a2=bif (decide (a0=1))then((Q1 a1).bind fun r1=>some r1)else(aA (fun kr11=>bif (decide (a0=2))then kr11 (decide (a0=2))else kr11 (decide (a0=3))) fun(r2:Bool)=>bif r2 then((Pg a1).bind fun r3=>some r3)else(bif (decide (a0=4))then((Q1 (IntKind.wrap .i64 (a1-a2))).bind fun r4=>some r4)else(bif (decide (a0=5))then(bif (decide (a0=5))then((Pg (IntKind.wrap .i64 ((IntKind.wrap .i64 (a1-a2))+4))).bind fun r7=>some r7)else some (IntKind.wrap .i64 (a1-a2)))else(bif (decide (a0=6))then((Pg (IntKind.wrap .i64 ((IntKind.wrap .i64 (a1-a2))+4))).bind fun r8=>some r8)else some (IntKind.wrap .i64 (a1-a2)))))):=
 (aa cfg 273 _).trans (by kernel_rfl)
noncomputable def R9 (a0 a1 a2 a3:Int):Option (Int×Int):=aw cfg 222 [.v (.int .i64 a0),.v (.int .i64 a1),.v (.int .i64 a2),.v (.int .i64 a3)]
theorem MO (a0 a1 a2 a3:Int):R9 a0 a1 a2 a3=(xy a0).bind fun r1=>bif (!r1.2)then some (0,10)else((R7 r1.1 a1).bind fun r2=>bif (!r2)then some (0,26)else((R8 a1 a2 a3).bind fun r3=>(QX (r1.1.1,r1.1.2.1,r1.1.2.2.1,r1.1.2.2.2.1,r3)).bind fun r4=>bif (!r4)then some (0,25)else((ii (r1.1.1,r1.1.2.1,r1.1.2.2.1,r1.1.2.2.2.1,r3)).bind fun r5=>some (r5,0)))):=
 (aa cfg 222 _).trans (by kernel_rfl)
noncomputable def Sa (a0:List D0) (a1:D9) (a2:b9) (a3:D8):Option (b9×Int):=aw cfg 174 [.v (.list aL a0),.agg [.str a1.1,.int .i64 a1.2.1,.list Y1 a1.2.2.1,.list (.pair .str .str) a1.2.2.2.1,.list Y2 a1.2.2.2.2.1,.list (.pair (.int .i64) .bool) a1.2.2.2.2.2],.agg [.list (.int .i64) a2.1,.list .str a2.2.1,.list (.int .i64) a2.2.2.1,.list .str a2.2.2.2],.agg [.int .i64 a3.1,.int .i64 a3.2.1,.int .i64 a3.2.2.1,.str a3.2.2.2.1,.int .i64 a3.2.2.2.2]]
theorem MP (a0:List D0) (a1:D9) (a2:b9) (a3:D8):Sa a0 a1 a2 a3=(tG a0 a1 a2 a3.2.2.2.1).bind fun r1=>bif (!r1.2)then some (a2,23)else(bif (decide (a3.1≥(a1.2.2.1.length:Int)))then(bif (aq (IntKind.wrap .i64 (a3.1-(a1.2.2.1.length:Int))) (a2.2.2.2.length))then(bif (ay (0+(a2.2.2.2.length)) 16)then(bif (decide (0≤0)&&decide (0≤(IntKind.wrap .i64 (8*a3.2.1)))&&decide ((IntKind.wrap .i64 (8*a3.2.1))≤((rd (τ:= .str) a2.2.2.2 (IntKind.wrap .i64 (a3.1-(a1.2.2.1.length:Int)))).size:Int)))then((ic (IntKind.wrap .i64 (r1.1+a3.2.2.2.2)) 8).bind fun r2=>bif (decide (((rd (τ:= .str) a2.2.2.2 (IntKind.wrap .i64 (a3.1-(a1.2.2.1.length:Int)))).extract (Int.toNat 0) (Int.toNat (IntKind.wrap .i64 (8*a3.2.1)))).size+r2.size≤9223372036854775807))then(bif (decide (0≤(IntKind.wrap .i64 ((IntKind.wrap .i64 (8*a3.2.1))+8)))&&decide ((IntKind.wrap .i64 ((IntKind.wrap .i64 (8*a3.2.1))+8))≤((rd (τ:= .str) a2.2.2.2 (IntKind.wrap .i64 (a3.1-(a1.2.2.1.length:Int)))).size:Int))&&decide (((rd (τ:= .str) a2.2.2.2 (IntKind.wrap .i64 (a3.1-(a1.2.2.1.length:Int)))).size:Int)≤((rd (τ:= .str) a2.2.2.2 (IntKind.wrap .i64 (a3.1-(a1.2.2.1.length:Int)))).size:Int)))then(bif (decide ((((rd (τ:= .str) a2.2.2.2 (IntKind.wrap .i64 (a3.1-(a1.2.2.1.length:Int)))).extract (Int.toNat 0) (Int.toNat (IntKind.wrap .i64 (8*a3.2.1))))++r2).size+((rd (τ:= .str) a2.2.2.2 (IntKind.wrap .i64 (a3.1-(a1.2.2.1.length:Int)))).extract (Int.toNat (IntKind.wrap .i64 ((IntKind.wrap .i64 (8*a3.2.1))+8))) (Int.toNat ((rd (τ:= .str) a2.2.2.2 (IntKind.wrap .i64 (a3.1-(a1.2.2.1.length:Int)))).size:Int))).size≤9223372036854775807))then(bif (aq (IntKind.wrap .i64 (a3.1-(a1.2.2.1.length:Int))) (a2.2.2.2.length))then(letB (a2.2.2.2.set (Int.toNat (IntKind.wrap .i64 (a3.1-(a1.2.2.1.length:Int)))) ((((rd (τ:= .str) a2.2.2.2 (IntKind.wrap .i64 (a3.1-(a1.2.2.1.length:Int)))).extract (Int.toNat 0) (Int.toNat (IntKind.wrap .i64 (8*a3.2.1))))++r2)++((rd (τ:= .str) a2.2.2.2 (IntKind.wrap .i64 (a3.1-(a1.2.2.1.length:Int)))).extract (Int.toNat (IntKind.wrap .i64 ((IntKind.wrap .i64 (8*a3.2.1))+8))) (Int.toNat ((rd (τ:= .str) a2.2.2.2 (IntKind.wrap .i64 (a3.1-(a1.2.2.1.length:Int)))).size:Int))))) fun r3=>some ((a2.1,a2.2.1,a2.2.2.1,r3),0))else none)else none)else none)else none)else none)else none)else none)else(bif (aq a3.1 (a2.2.1.length))then((xu (rd (τ:= .str) a2.2.1 a3.1) (IntKind.wrap .i64 (4*a3.2.1)) 4).bind fun r4=>bif (aq a3.1 (a2.1.length))then((R9 r4 a3.2.2.1 (IntKind.wrap .i64 (r1.1+a3.2.2.2.2)) (IntKind.wrap .i64 ((rd (τ:=(.int .i64)) a2.1 a3.1)+(IntKind.wrap .i64 (4*a3.2.1))))).bind fun r5=>bif (!decide (r5.2=0))then some (a2,r5.2)else(bif (ay (0+(a2.2.1.length)) 16)then(bif (decide (0≤0)&&decide (0≤(IntKind.wrap .i64 (4*a3.2.1)))&&decide ((IntKind.wrap .i64 (4*a3.2.1))≤((rd (τ:= .str) a2.2.1 a3.1).size:Int)))then((ic r5.1 4).bind fun r6=>bif (decide (((rd (τ:= .str) a2.2.1 a3.1).extract (Int.toNat 0) (Int.toNat (IntKind.wrap .i64 (4*a3.2.1)))).size+r6.size≤9223372036854775807))then(bif (decide (0≤(IntKind.wrap .i64 ((IntKind.wrap .i64 (4*a3.2.1))+4)))&&decide ((IntKind.wrap .i64 ((IntKind.wrap .i64 (4*a3.2.1))+4))≤((rd (τ:= .str) a2.2.1 a3.1).size:Int))&&decide (((rd (τ:= .str) a2.2.1 a3.1).size:Int)≤((rd (τ:= .str) a2.2.1 a3.1).size:Int)))then(bif (decide ((((rd (τ:= .str) a2.2.1 a3.1).extract (Int.toNat 0) (Int.toNat (IntKind.wrap .i64 (4*a3.2.1))))++r6).size+((rd (τ:= .str) a2.2.1 a3.1).extract (Int.toNat (IntKind.wrap .i64 ((IntKind.wrap .i64 (4*a3.2.1))+4))) (Int.toNat ((rd (τ:= .str) a2.2.1 a3.1).size:Int))).size≤9223372036854775807))then(bif (aq a3.1 (a2.2.1.length))then(letB (a2.2.1.set (Int.toNat a3.1) ((((rd (τ:= .str) a2.2.1 a3.1).extract (Int.toNat 0) (Int.toNat (IntKind.wrap .i64 (4*a3.2.1))))++r6)++((rd (τ:= .str) a2.2.1 a3.1).extract (Int.toNat (IntKind.wrap .i64 ((IntKind.wrap .i64 (4*a3.2.1))+4))) (Int.toNat ((rd (τ:= .str) a2.2.1 a3.1).size:Int))))) fun r7=>some ((a2.1,r7,a2.2.2),0))else none)else none)else none)else none)else none)else none))else none)else none)):=
 (aa cfg 174 _).trans (by kernel_rfl)
noncomputable def gz (a0:List D0) (a1 a2:Int×Int×Int) (a3:D9):Option HH:=aw cfg 119 [.v (.list aL a0),.agg [.int .i64 a1.1,.int .i64 a1.2.1,.int .i64 a1.2.2],.agg [.int .i64 a2.1,.int .i64 a2.2.1,.int .i64 a2.2.2],.agg [.str a3.1,.int .i64 a3.2.1,.list Y1 a3.2.2.1,.list (.pair .str .str) a3.2.2.2.1,.list Y2 a3.2.2.2.2.1,.list (.pair (.int .i64) .bool) a3.2.2.2.2.2]]
noncomputable def gz.a (x0:List D0) (x7:D9) (x8:b9) (x9 x10:Int×Int×Int) (x13:b9) (x14 x15:Int×Int×Int) (x17:Int):Option HH:=LA 119 Tryz.f119 [1,1,1,1,0,1,0] ⟨155,af [vL 0 aL x0,vP 7 959,vP 8 1087,vP 9 1215,vP 10 1343,vP 13 1727,vP 14 1855,vP 15 1983,vI 17 x17],ai [(959,.box [.str x7.1,.int .i64 x7.2.1,.list Y1 x7.2.2.1,.list (.pair .str .str) x7.2.2.2.1,.list Y2 x7.2.2.2.2.1,.list (.pair (.int .i64) .bool) x7.2.2.2.2.2]),(1056,.rows 3 (.int .i64) .no x8.1),(1057,.rows 9 .str .no x8.2.1),(1058,.rows 3 (.int .i64) .no x8.2.2.1),(1059,.rows 9 .str .no x8.2.2.2),(1087,.box [.own 1056,.own 1057,.own 1058,.own 1059]),(1215,.box [.int .i64 x9.1,.int .i64 x9.2.1,.int .i64 x9.2.2]),(1343,.box [.int .i64 x10.1,.int .i64 x10.2.1,.int .i64 x10.2.2]),(1727,.box [.list (.int .i64) x13.1,.list .str x13.2.1,.list (.int .i64) x13.2.2.1,.list .str x13.2.2.2]),(1855,.box [.int .i64 x14.1,.int .i64 x14.2.1,.int .i64 x14.2.2]),(1983,.box [.int .i64 x15.1,.int .i64 x15.2.1,.int .i64 x15.2.2])]⟩
noncomputable def gz.b (x0:List D0) (x7:D9) (x8:b9) (x9 x10:Int×Int×Int) (x13:b9) (x14 x15:Int×Int×Int) (x20:List Int) (x21:Int):Option HH:=LA 119 Tryz.f119 [1,1,1,1,1,1,0,1,0] ⟨155,af [vL 0 aL x0,vP 7 959,vP 8 1087,vP 9 1215,vP 10 1343,vP 13 1727,vP 14 1855,vP 15 1983,(20,.v (.own 2592)),vI 21 x21],ai [(959,.box [.str x7.1,.int .i64 x7.2.1,.list Y1 x7.2.2.1,.list (.pair .str .str) x7.2.2.2.1,.list Y2 x7.2.2.2.2.1,.list (.pair (.int .i64) .bool) x7.2.2.2.2.2]),(1056,.rows 3 (.int .i64) .no x8.1),(1057,.rows 9 .str .no x8.2.1),(1058,.rows 3 (.int .i64) .no x8.2.2.1),(1059,.rows 9 .str .no x8.2.2.2),(1087,.box [.own 1056,.own 1057,.own 1058,.own 1059]),(1215,.box [.int .i64 x9.1,.int .i64 x9.2.1,.int .i64 x9.2.2]),(1343,.box [.int .i64 x10.1,.int .i64 x10.2.1,.int .i64 x10.2.2]),(1727,.box [.list (.int .i64) x13.1,.list .str x13.2.1,.list (.int .i64) x13.2.2.1,.list .str x13.2.2.2]),(1855,.box [.int .i64 x14.1,.int .i64 x14.2.1,.int .i64 x14.2.2]),(1983,.box [.int .i64 x15.1,.int .i64 x15.2.1,.int .i64 x15.2.2]),(2592,.rows 3 (.int .i64) .no x20)]⟩
noncomputable def gz.c (x7:D9) (x8:b9) (x9 x10:Int×Int×Int) (x13:b9) (x14 x15:Int×Int×Int) (x20:List Int) (x22:Int):Option HH:=LA 119 Tryz.f119 [1,1,1,1,1,1,1,0,1,0] ⟨155,af [vP 7 959,vP 8 1087,vP 9 1215,vP 10 1343,vP 13 1727,vP 14 1855,vP 15 1983,(20,.v (.own 2592)),vI 22 x22],ai [(959,.box [.str x7.1,.int .i64 x7.2.1,.list Y1 x7.2.2.1,.list (.pair .str .str) x7.2.2.2.1,.list Y2 x7.2.2.2.2.1,.list (.pair (.int .i64) .bool) x7.2.2.2.2.2]),(1056,.rows 3 (.int .i64) .no x8.1),(1057,.rows 9 .str .no x8.2.1),(1058,.rows 3 (.int .i64) .no x8.2.2.1),(1059,.rows 9 .str .no x8.2.2.2),(1087,.box [.own 1056,.own 1057,.own 1058,.own 1059]),(1215,.box [.int .i64 x9.1,.int .i64 x9.2.1,.int .i64 x9.2.2]),(1343,.box [.int .i64 x10.1,.int .i64 x10.2.1,.int .i64 x10.2.2]),(1727,.box [.list (.int .i64) x13.1,.list .str x13.2.1,.list (.int .i64) x13.2.2.1,.list .str x13.2.2.2]),(1855,.box [.int .i64 x14.1,.int .i64 x14.2.1,.int .i64 x14.2.2]),(1983,.box [.int .i64 x15.1,.int .i64 x15.2.1,.int .i64 x15.2.2]),(2592,.rows 3 (.int .i64) .no x20)]⟩
noncomputable def gz.d (x7:D9) (x8:b9) (x9 x10:Int×Int×Int) (x13:b9) (x14 x15:Int×Int×Int) (x20:List Int) (x23:Int):Option HH:=LA 119 Tryz.f119 [1,1,1,1,1,1,1,1,0,1,0] ⟨155,af [vP 7 959,vP 8 1087,vP 9 1215,vP 10 1343,vP 13 1727,vP 14 1855,vP 15 1983,(20,.v (.own 2592)),vI 23 x23],ai [(959,.box [.str x7.1,.int .i64 x7.2.1,.list Y1 x7.2.2.1,.list (.pair .str .str) x7.2.2.2.1,.list Y2 x7.2.2.2.2.1,.list (.pair (.int .i64) .bool) x7.2.2.2.2.2]),(1056,.rows 3 (.int .i64) .no x8.1),(1057,.rows 9 .str .no x8.2.1),(1058,.rows 3 (.int .i64) .no x8.2.2.1),(1059,.rows 9 .str .no x8.2.2.2),(1087,.box [.own 1056,.own 1057,.own 1058,.own 1059]),(1215,.box [.int .i64 x9.1,.int .i64 x9.2.1,.int .i64 x9.2.2]),(1343,.box [.int .i64 x10.1,.int .i64 x10.2.1,.int .i64 x10.2.2]),(1727,.box [.list (.int .i64) x13.1,.list .str x13.2.1,.list (.int .i64) x13.2.2.1,.list .str x13.2.2.2]),(1855,.box [.int .i64 x14.1,.int .i64 x14.2.1,.int .i64 x14.2.2]),(1983,.box [.int .i64 x15.1,.int .i64 x15.2.1,.int .i64 x15.2.2]),(2592,.rows 3 (.int .i64) .no x20)]⟩
theorem MQ (a0:List D0) (a1 a2:Int×Int×Int) (a3:D9):gz a0 a1 a2 a3=(tF a0 a3).bind fun r1=>bif (!decide (r1=0))then some (([],[],[],[]),(0,0,0),(0,0,0),r1)else((qX a1 a2 a3).bind fun r2=>bif (!r2.2.2.2)then some (([],[],[],[]),(0,0,0),(0,0,0),7)else gz.a a0 a3 ([],[],[],[]) (0,0,0) (0,0,0) r2.1 r2.2.1 r2.2.2.1 0):=
 (aa cfg 119 _).trans (by kernel_rfl)
theorem gz.a_eq (x0:List D0) (x7:D9) (x8:b9) (x9 x10:Int×Int×Int) (x13:b9) (x14 x15:Int×Int×Int) (x17:Int):gz.a x0 x7 x8 x9 x10 x13 x14 x15 x17=bif (decide (x17< (x7.2.2.2.2.1.length:Int)))then(bif (aq x17 (x7.2.2.2.2.1.length))then((Sa x0 x7 x13 (rd (τ:=Y2) x7.2.2.2.2.1 x17)).bind fun r3=>bif (!decide (r3.2=0))then some (([],[],[],[]),(0,0,0),(0,0,0),r3.2)else gz.a x0 x7 x8 x9 x10 r3.1 x14 x15 (IntKind.wrap .i64 (x17+1)))else none)else gz.b x0 x7 x8 x9 x10 x13 x14 x15 [] 0:=
 (ak cfg 119 _ _ _).trans (by kernel_rfl)
theorem gz.b_eq (x0:List D0) (x7:D9) (x8:b9) (x9 x10:Int×Int×Int) (x13:b9) (x14 x15:Int×Int×Int) (x20:List Int) (x21:Int):gz.b x0 x7 x8 x9 x10 x13 x14 x15 x20 x21=bif (decide (x21< (x0.length:Int)))then(bif (aq x21 (x0.length))then(bif (decide ((rd (τ:=aL) x0 x21).2.1=1))then(bif (aq x21 (x0.length))then(bif (ay ((x20.length)+([(rd (τ:=aL) x0 x21).2.2.1].length)) 8)then gz.b x0 x7 x8 x9 x10 x13 x14 x15 (x20++[(rd (τ:=aL) x0 x21).2.2.1]) (IntKind.wrap .i64 (x21+1))else none)else none)else gz.b x0 x7 x8 x9 x10 x13 x14 x15 x20 (IntKind.wrap .i64 (x21+1)))else none)else gz.c x7 x8 x9 x10 x13 x14 x15 x20 0:=
 (ak cfg 119 _ _ _).trans (by kernel_rfl)
theorem gz.c_eq (x7:D9) (x8:b9) (x9 x10:Int×Int×Int) (x13:b9) (x14 x15:Int×Int×Int) (x20:List Int) (x22:Int):gz.c x7 x8 x9 x10 x13 x14 x15 x20 x22=bif (decide (x22< (x7.2.2.1.length:Int)))then(bif (aq x22 (x7.2.2.1.length))then(bif (!(rd (τ:=Y1) x7.2.2.1 x22).2.1)then(bif (aq x22 (x13.1.length))then(bif (ay ((x20.length)+([(rd (τ:=(.int .i64)) x13.1 x22)].length)) 8)then gz.c x7 x8 x9 x10 x13 x14 x15 (x20++[(rd (τ:=(.int .i64)) x13.1 x22)]) (IntKind.wrap .i64 (x22+1))else none)else none)else gz.c x7 x8 x9 x10 x13 x14 x15 x20 (IntKind.wrap .i64 (x22+1)))else none)else gz.d x7 x8 x9 x10 x13 x14 x15 x20 0:=
 (ak cfg 119 _ _ _).trans (by kernel_rfl)
theorem gz.d_eq (x7:D9) (x8:b9) (x9 x10:Int×Int×Int) (x13:b9) (x14 x15:Int×Int×Int) (x20:List Int) (x23:Int):gz.d x7 x8 x9 x10 x13 x14 x15 x20 x23=bif (decide (x23< (x7.2.2.1.length:Int)))then(bif (aq x23 (x13.2.1.length))then(bif (aq x23 (x13.1.length))then(bif (aq x23 (x7.2.2.1.length))then((q8 (rd (τ:= .str) x13.2.1 x23) (rd (τ:=(.int .i64)) x13.1 x23) ((rd (τ:=Y1) x7.2.2.1 x23).2.2.1) x20).bind fun r4=>bif (!decide (r4.2=0))then some (([],[],[],[]),(0,0,0),(0,0,0),r4.2)else gz.d x7 x8 x9 x10 x13 x14 x15 x20 (IntKind.wrap .i64 (x23+1)))else none)else none)else none)else some (x13,x14,x15,0):=
 (ak cfg 119 _ _ _).trans (by kernel_rfl)
noncomputable def Di (a0 a1:List Int):Option Bool:=aw cfg 123 [.v (.list (.int .i64) a0),.v (.list (.int .i64) a1)]
noncomputable def Di.a (x0 x1:List Int) (x5:Int):Option Bool:=LA 123 Tryz.f123 [1,1,0,1,0] ⟨26,af [vL 0 (.int .i64) x0,vL 1 (.int .i64) x1,vI 5 x5],ai []⟩
theorem MR (a0 a1:List Int):Di a0 a1=bif (!decide ((a0.length:Int)=(a1.length:Int)))then some false else Di.a a0 a1 0:=
 (aa cfg 123 _).trans (by kernel_rfl)
theorem Di.a_eq (x0 x1:List Int) (x5:Int):Di.a x0 x1 x5=bif (decide (x5< (x0.length:Int)))then(bif (aq x5 (x0.length))then(bif (aq x5 (x1.length))then(bif (!decide ((rd (τ:=(.int .i64)) x0 x5)=(rd (τ:=(.int .i64)) x1 x5)))then some false else Di.a x0 x1 (IntKind.wrap .i64 (x5+1)))else none)else none)else some true:=
 (ak cfg 123 _ _ _).trans (by kernel_rfl)
noncomputable def DZ (a0 a1:List ByteArray):Option Bool:=aw cfg 175 [.v (.list .str a0),.v (.list .str a1)]
noncomputable def DZ.a (x0 x1:List ByteArray) (x5:Int):Option Bool:=LA 175 Tryz.f175 [1,1,0,1,0] ⟨26,af [vL 0 .str x0,vL 1 .str x1,vI 5 x5],ai []⟩
theorem MS (a0 a1:List ByteArray):DZ a0 a1=bif (!decide ((a0.length:Int)=(a1.length:Int)))then some false else DZ.a a0 a1 0:=
 (aa cfg 175 _).trans (by kernel_rfl)
theorem DZ.a_eq (x0 x1:List ByteArray) (x5:Int):DZ.a x0 x1 x5=bif (decide (x5< (x0.length:Int)))then(bif (aq x5 (x0.length))then(bif (aq x5 (x1.length))then(bif (!bh (rd (τ:= .str) x0 x5) (rd (τ:= .str) x1 x5))then some false else DZ.a x0 x1 (IntKind.wrap .i64 (x5+1)))else none)else none)else some true:=
 (ak cfg 175 _ _ _).trans (by kernel_rfl)
noncomputable def Sb (a0 a1:b9):Option Bool:=aw cfg 120 [.agg [.list (.int .i64) a0.1,.list .str a0.2.1,.list (.int .i64) a0.2.2.1,.list .str a0.2.2.2],.agg [.list (.int .i64) a1.1,.list .str a1.2.1,.list (.int .i64) a1.2.2.1,.list .str a1.2.2.2]]
theorem MT (a0 a1:b9):Sb a0 a1=(Di a0.1 a1.1).bind fun r1=>bif r1 then((DZ a0.2.1 a1.2.1).bind fun r2=>bif r2 then((Di a0.2.2.1 a1.2.2.1).bind fun r3=>bif r3 then((DZ a0.2.2.2 a1.2.2.2).bind fun r4=>some r4)else some false)else some false)else some false:=
 (aa cfg 120 _).trans (by kernel_rfl)
noncomputable def q9 (a0:List D0) (a1:D9) (a2:b9) (a3:Int):Option (List D0):=aw cfg 176 [.v (.list aL a0),.agg [.str a1.1,.int .i64 a1.2.1,.list Y1 a1.2.2.1,.list (.pair .str .str) a1.2.2.2.1,.list Y2 a1.2.2.2.2.1,.list (.pair (.int .i64) .bool) a1.2.2.2.2.2],.agg [.list (.int .i64) a2.1,.list .str a2.2.1,.list (.int .i64) a2.2.2.1,.list .str a2.2.2.2],.v (.int .i64 a3)]
noncomputable def q9.a (x3:Int) (x5:D9) (x6:b9) (x9:List D0) (x10:Int):Option (List D0):=LA 176 Tryz.f176 [1,1,0,1,0] ⟨81,af [vI 3 x3,vP 5 703,vP 6 831,(9,.v (.own 1184)),vI 10 x10],ai [(703,.box [.str x5.1,.int .i64 x5.2.1,.list Y1 x5.2.2.1,.list (.pair .str .str) x5.2.2.2.1,.list Y2 x5.2.2.2.2.1,.list (.pair (.int .i64) .bool) x5.2.2.2.2.2]),(831,.box [.list (.int .i64) x6.1,.list .str x6.2.1,.list (.int .i64) x6.2.2.1,.list .str x6.2.2.2]),(1184,.rows 121 aL .no x9)]⟩
noncomputable def q9.b (x3:Int) (x5:D9) (x6:b9) (x9:List D0) (x12:Int):Option (List D0):=LA 176 Tryz.f176 [1,1,1,0,1,0] ⟨81,af [vI 3 x3,vP 5 703,vP 6 831,(9,.v (.own 1184)),vI 12 x12],ai [(703,.box [.str x5.1,.int .i64 x5.2.1,.list Y1 x5.2.2.1,.list (.pair .str .str) x5.2.2.2.1,.list Y2 x5.2.2.2.2.1,.list (.pair (.int .i64) .bool) x5.2.2.2.2.2]),(831,.box [.list (.int .i64) x6.1,.list .str x6.2.1,.list (.int .i64) x6.2.2.1,.list .str x6.2.2.2]),(1184,.rows 121 aL .no x9)]⟩
theorem MU (a0:List D0) (a1:D9) (a2:b9) (a3:Int):q9 a0 a1 a2 a3=bif (ay (0+(a0.length)) 56)then q9.a a3 a1 a2 a0 0 else none:=
 (aa cfg 176 _).trans (by kernel_rfl)
theorem q9.a_eq (x3:Int) (x5:D9) (x6:b9) (x9:List D0) (x10:Int):q9.a x3 x5 x6 x9 x10=bif (decide (x10< (x5.2.2.1.length:Int)))then(bif (aq x10 (x5.2.2.1.length))then(bif (!(rd (τ:=Y1) x5.2.2.1 x10).2.1)then(bif (aq x10 (x6.1.length))then(bif (aq x10 (x6.2.1.length))then(bif (ay ((x9.length)+([((rd (τ:=Y1) x5.2.2.1 x10).1,1,(rd (τ:=(.int .i64)) x6.1 x10),((rd (τ:= .str) x6.2.1 x10).size:Int),(rd (τ:=Y1) x5.2.2.1 x10).2.2.1,x3)].length)) 56)then q9.a x3 x5 x6 (x9++[((rd (τ:=Y1) x5.2.2.1 x10).1,1,(rd (τ:=(.int .i64)) x6.1 x10),((rd (τ:= .str) x6.2.1 x10).size:Int),(rd (τ:=Y1) x5.2.2.1 x10).2.2.1,x3)]) (IntKind.wrap .i64 (x10+1))else none)else none)else none)else q9.a x3 x5 x6 x9 (IntKind.wrap .i64 (x10+1)))else none)else q9.b x3 x5 x6 x9 0:=
 (ak cfg 176 _ _ _).trans (by kernel_rfl)
theorem q9.b_eq (x3:Int) (x5:D9) (x6:b9) (x9:List D0) (x12:Int):q9.b x3 x5 x6 x9 x12=bif (decide (x12< (x5.2.2.2.1.length:Int)))then(bif (aq x12 (x5.2.2.2.1.length))then(bif (aq x12 (x6.2.2.1.length))then(bif (aq x12 (x6.2.2.2.length))then(bif (ay ((x9.length)+([((rd (τ:=(.pair .str .str)) x5.2.2.2.1 x12).1,2,(rd (τ:=(.int .i64)) x6.2.2.1 x12),((rd (τ:= .str) x6.2.2.2 x12).size:Int),0,x3)].length)) 56)then q9.b x3 x5 x6 (x9++[((rd (τ:=(.pair .str .str)) x5.2.2.2.1 x12).1,2,(rd (τ:=(.int .i64)) x6.2.2.1 x12),((rd (τ:= .str) x6.2.2.2 x12).size:Int),0,x3)]) (IntKind.wrap .i64 (x12+1))else none)else none)else none)else none)else some x9:=
 (ak cfg 176 _ _ _).trans (by kernel_rfl)
noncomputable def AJ (a0:List D1) (a1 a2:Int):Option ByteArray:=aw cfg 224 [.agg [.list au a0],.v (.int .i64 a1),.v (.int .i64 a2)]
noncomputable def AJ.a (x1 x2:Int) (x3:List D1) (x7:List Int) (x8:Int):Option ByteArray:=LA 224 Tryz.f224 [1,1,0,1,0] ⟨39,af [vI 1 x1,vI 2 x2,vP 3 447,(7,.v (.own 928)),vI 8 x8],ai [(447,.box [.list au x3]),(928,.rows 5 (.int .u8) .no x7)]⟩
theorem MV (a0:List D1) (a1 a2:Int):AJ a0 a1 a2=AJ.a a1 a2 a0 [] 0:=
 (aa cfg 224 _).trans (by kernel_rfl)
theorem AJ.a_eq (x1 x2:Int) (x3:List D1) (x7:List Int) (x8:Int):AJ.a x1 x2 x3 x7 x8=bif (decide (x8<x2))then((AH x3 (IntKind.wrap .i64 (x1+x8))).bind fun r1=>bif (aq r1 (x3.length))then(bif (aq (IntKind.wrap .i64 ((IntKind.wrap .i64 (x1+x8))-(rd (τ:=au) x3 r1).1)) ((rd (τ:=au) x3 r1).2.2).size)then(bif (ay ((x7.length)+([(bt ((rd (τ:=au) x3 r1).2.2) (IntKind.wrap .i64 ((IntKind.wrap .i64 (x1+x8))-(rd (τ:=au) x3 r1).1)))].length)) 1)then AJ.a x1 x2 x3 (x7++[(bt ((rd (τ:=au) x3 r1).2.2) (IntKind.wrap .i64 ((IntKind.wrap .i64 (x1+x8))-(rd (τ:=au) x3 r1).1)))]) (IntKind.wrap .i64 (x8+1))else none)else none)else none)else some (av x7):=
 (ak cfg 224 _ _ _).trans (by kernel_rfl)
noncomputable def SM (a0 a1:Int):Option cG:=aw cfg 226 [.v (.int .i64 a0),.v (.int .i64 a1)]
theorem MW (a0 a1:Int):SM a0 a1=some (3,0,0,0,(IntKind.wrap .i64 (a1-a0))):=
 (aa cfg 226 _).trans (by kernel_rfl)
noncomputable def rb (a0:List D1) (a1:List D0) (a2:D9) (a3:b9):Option Pm:=aw cfg 177 [.agg [.list au a0],.v (.list aL a1),.agg [.str a2.1,.int .i64 a2.2.1,.list Y1 a2.2.2.1,.list (.pair .str .str) a2.2.2.2.1,.list Y2 a2.2.2.2.2.1,.list (.pair (.int .i64) .bool) a2.2.2.2.2.2],.agg [.list (.int .i64) a3.1,.list .str a3.2.1,.list (.int .i64) a3.2.2.1,.list .str a3.2.2.2]]
noncomputable def rb.a (x1:List D0) (x4:List D1) (x6:D9) (x7:b9) (x8:List D1) (x10:Int):Option Pm:=LA 177 Tryz.f177 [1,0,1,0] ⟨83,af [vL 1 aL x1,vP 4 575,vP 6 831,vP 7 959,vP 8 1087,vI 10 x10],ai [(575,.box [.list au x4]),(831,.box [.str x6.1,.int .i64 x6.2.1,.list Y1 x6.2.2.1,.list (.pair .str .str) x6.2.2.2.1,.list Y2 x6.2.2.2.2.1,.list (.pair (.int .i64) .bool) x6.2.2.2.2.2]),(959,.box [.list (.int .i64) x7.1,.list .str x7.2.1,.list (.int .i64) x7.2.2.1,.list .str x7.2.2.2]),(1056,.rows 176 au .no x8),(1087,.box [.own 1056])]⟩
noncomputable def rb.b (x1:List D0) (x4:List D1) (x6:D9) (x7:b9) (x8:List D1) (x11:List (Int×Int)) (x12:Int):Option Pm:=LA 177 Tryz.f177 [1,1,1,0,1,0] ⟨83,af [vL 1 aL x1,vP 4 575,vP 6 831,vP 7 959,vP 8 1087,(11,.v (.own 1440)),vI 12 x12],ai [(575,.box [.list au x4]),(831,.box [.str x6.1,.int .i64 x6.2.1,.list Y1 x6.2.2.1,.list (.pair .str .str) x6.2.2.2.1,.list Y2 x6.2.2.2.2.1,.list (.pair (.int .i64) .bool) x6.2.2.2.2.2]),(959,.box [.list (.int .i64) x7.1,.list .str x7.2.1,.list (.int .i64) x7.2.2.1,.list .str x7.2.2.2]),(1056,.rows 176 au .no x8),(1087,.box [.own 1056]),(1440,.rows 130 Y5 .no x11)]⟩
theorem MX (a0:List D1) (a1:List D0) (a2:D9) (a3:b9):rb a0 a1 a2 a3=rb.a a1 a0 a2 a3 [] 0:=
 (aa cfg 177 _).trans (by kernel_rfl)
theorem rb.a_eq (x1:List D0) (x4:List D1) (x6:D9) (x7:b9) (x8:List D1) (x10:Int):rb.a x1 x4 x6 x7 x8 x10=bif (decide (x10< (x6.2.2.1.length:Int)))then(bif (aq x10 (x7.1.length))then(bif (aq x10 (x7.2.1.length))then((xA x4 (rd (τ:=(.int .i64)) x7.1 x10) (rd (τ:= .str) x7.2.1 x10)).bind fun r1=>rb.a x1 r1 x6 x7 x8 (IntKind.wrap .i64 (x10+1)))else none)else none)else rb.b x1 x4 x6 x7 x8 [] 0:=
 (ak cfg 177 _ _ _).trans (by kernel_rfl)
theorem rb.b_eq (x1:List D0) (x4:List D1) (x6:D9) (x7:b9) (x8:List D1) (x11:List (Int×Int)) (x12:Int):rb.b x1 x4 x6 x7 x8 x11 x12=bif (decide (x12< (x6.2.2.1.length:Int)))then(bif (aq x12 (x6.2.2.1.length))then(bif (!(rd (τ:=Y1) x6.2.2.1 x12).2.1)then rb.b x1 x4 x6 x7 x8 x11 (IntKind.wrap .i64 (x12+1))else(bif (aq x12 (x6.2.2.1.length))then((xz x1 ((rd (τ:=Y1) x6.2.2.1 x12).1)).bind fun r2=>bif (aq r2 (x1.length))then((AJ x4 ((rd (τ:=aL) x1 r2).2.2.1) 4).bind fun r3=>(xu r3 0 4).bind fun r4=>bif (ay ((x11.length)+([((rd (τ:=aL) x1 r2).2.2.1,r4)].length)) 16)then(bif (aq x12 (x7.1.length))then((SM ((rd (τ:=aL) x1 r2).2.2.1) (rd (τ:=(.int .i64)) x7.1 x12)).bind fun r5=>(ii r5).bind fun r6=>(ic r6 4).bind fun r7=>(xA x4 ((rd (τ:=aL) x1 r2).2.2.1) r7).bind fun r8=>rb.b x1 r8 x6 x7 x8 (x11++[((rd (τ:=aL) x1 r2).2.2.1,r4)]) (IntKind.wrap .i64 (x12+1)))else none)else none)else none)else none))else none)else some (x4,x11):=
 (ak cfg 177 _ _ _).trans (by kernel_rfl)
noncomputable def Dj (a0:Ds) (a1:D9) (a2:b9) (a3 a4:Int×Int×Int) (a5:Int):Option SW:=aw cfg 121 [.agg [.list aL a0.1,.int .i64 a0.2.1.1,.int .i64 a0.2.1.2.1,.int .i64 a0.2.1.2.2,.int .i64 a0.2.2.1.1,.int .i64 a0.2.2.1.2.1,.int .i64 a0.2.2.1.2.2,.list bg a0.2.2.2.1,.list au a0.2.2.2.2],.agg [.str a1.1,.int .i64 a1.2.1,.list Y1 a1.2.2.1,.list (.pair .str .str) a1.2.2.2.1,.list Y2 a1.2.2.2.2.1,.list (.pair (.int .i64) .bool) a1.2.2.2.2.2],.agg [.list (.int .i64) a2.1,.list .str a2.2.1,.list (.int .i64) a2.2.2.1,.list .str a2.2.2.2],.agg [.int .i64 a3.1,.int .i64 a3.2.1,.int .i64 a3.2.2],.agg [.int .i64 a4.1,.int .i64 a4.2.1,.int .i64 a4.2.2],.v (.int .i64 a5)]
noncomputable def Dj.a (x5:Int) (x6:Ds) (x7:D9) (x8:b9) (x9 x10:Int×Int×Int) (x12:Ds) (x14:List D0) (x15:List cG) (x16:Int):Option SW:=LA 121 Tryz.f121 [1,1,1,0,1,0] ⟨84,af [vI 5 x5,vP 6 831,vP 7 959,vP 8 1087,vP 9 1215,vP 10 1343,vP 12 1599,(14,.v (.own 1824)),(15,.v (.own 1952)),vI 16 x16],ai [(831,.box [.list aL x6.1,.int .i64 x6.2.1.1,.int .i64 x6.2.1.2.1,.int .i64 x6.2.1.2.2,.int .i64 x6.2.2.1.1,.int .i64 x6.2.2.1.2.1,.int .i64 x6.2.2.1.2.2,.list bg x6.2.2.2.1,.list au x6.2.2.2.2]),(959,.box [.str x7.1,.int .i64 x7.2.1,.list Y1 x7.2.2.1,.list (.pair .str .str) x7.2.2.2.1,.list Y2 x7.2.2.2.2.1,.list (.pair (.int .i64) .bool) x7.2.2.2.2.2]),(1087,.box [.list (.int .i64) x8.1,.list .str x8.2.1,.list (.int .i64) x8.2.2.1,.list .str x8.2.2.2]),(1215,.box [.int .i64 x9.1,.int .i64 x9.2.1,.int .i64 x9.2.2]),(1343,.box [.int .i64 x10.1,.int .i64 x10.2.1,.int .i64 x10.2.2]),(1568,.rows 121 aL .no x12.1),(1569,.rows 255 bg .no x12.2.2.2.1),(1570,.rows 176 au .no x12.2.2.2.2),(1599,.box [.own 1568,.int .i64 x12.2.1.1,.int .i64 x12.2.1.2.1,.int .i64 x12.2.1.2.2,.int .i64 x12.2.2.1.1,.int .i64 x12.2.2.1.2.1,.int .i64 x12.2.2.1.2.2,.own 1569,.own 1570]),(1824,.rows 121 aL .no x14),(1952,.rows 255 bg .no x15)]⟩
theorem MY (a0:Ds) (a1:D9) (a2:b9) (a3 a4:Int×Int×Int) (a5:Int):Dj a0 a1 a2 a3 a4 a5=(q9 a0.1 a1 a2 a5).bind fun r1=>bif (ay (0+(a0.2.2.2.1.length)) 40)then Dj.a a5 a0 a1 a2 a3 a4 ([],(0,0,0),(0,0,0),[],[]) r1 a0.2.2.2.1 0 else none:=
 (aa cfg 121 _).trans (by kernel_rfl)
theorem Dj.a_eq (x5:Int) (x6:Ds) (x7:D9) (x8:b9) (x9 x10:Int×Int×Int) (x12:Ds) (x14:List D0) (x15:List cG) (x16:Int):Dj.a x5 x6 x7 x8 x9 x10 x12 x14 x15 x16=bif (decide (x16< (x7.2.2.1.length:Int)))then(bif (aq x16 (x7.2.2.1.length))then((xz x14 ((rd (τ:=Y1) x7.2.2.1 x16).1)).bind fun r3=>bif (aq x16 (x8.1.length))then(bif (aq x16 (x8.2.1.length))then(bif (aq x16 (x7.2.2.1.length))then(bif (ay ((x15.length)+([(r3,x5,(rd (τ:=(.int .i64)) x8.1 x16),((rd (τ:= .str) x8.2.1 x16).size:Int),(rd (τ:=Y1) x7.2.2.1 x16).2.2.1)].length)) 40)then Dj.a x5 x6 x7 x8 x9 x10 x12 x14 (x15++[(r3,x5,(rd (τ:=(.int .i64)) x8.1 x16),((rd (τ:= .str) x8.2.1 x16).size:Int),(rd (τ:=Y1) x7.2.2.1 x16).2.2.1)]) (IntKind.wrap .i64 (x16+1))else none)else none)else none)else none)else none)else((rb x6.2.2.2.2 x14 x7 x8).bind fun r2=>some ((x14,x9,x10,x15,r2.1),r2.2)):=
 (ak cfg 121 _ _ _).trans (by kernel_rfl)
noncomputable def Hj (a0 a1:List (Int×Int)):Option Bool:=aw cfg 122 [.v (.list Y5 a0),.v (.list Y5 a1)]
noncomputable def Hj.a (x0 x1:List (Int×Int)) (x5:Int):Option Bool:=LA 122 Tryz.f122 [1,1,0,1,0] ⟨26,af [vL 0 Y5 x0,vL 1 Y5 x1,vI 5 x5],ai []⟩
theorem MZ (a0 a1:List (Int×Int)):Hj a0 a1=bif (!decide ((a0.length:Int)=(a1.length:Int)))then some false else Hj.a a0 a1 0:=
 (aa cfg 122 _).trans (by kernel_rfl)
theorem Hj.a_eq (x0 x1:List (Int×Int)) (x5:Int):Hj.a x0 x1 x5=bif (decide (x5< (x0.length:Int)))then(bif (aq x5 (x0.length))then(bif (aq x5 (x1.length))then(bif (!(d9 Y5 (rd (τ:=Y5) x0 x5) (rd (τ:=Y5) x1 x5)))then some false else Hj.a x0 x1 (IntKind.wrap .i64 (x5+1)))else none)else none)else some true:=
 (ak cfg 122 _ _ _).trans (by kernel_rfl)
noncomputable def AK (a0:D3) (a1:List eu) (a2:Bool):Option (Ds×Bool):=aw cfg 66 [.agg [.str a0.1,.str a0.2.1,.list Y0 a0.2.2],.v (.list Y6 a1),.v (.bool a2)]
noncomputable def AK.a (x1:List eu) (x2:Bool) (x6 x8:Ds) (x9:Int):Option (Ds×Bool):=LA 66 Tryz.f66 [1,1,1,0,1,0] ⟨111,af [vL 1 Y6 x1,(2,.v (.bool x2)),vP 6 831,vP 8 1087,vI 9 x9],ai [(800,.rows 121 aL .no x6.1),(801,.rows 255 bg .no x6.2.2.2.1),(802,.rows 176 au .no x6.2.2.2.2),(831,.box [.own 800,.int .i64 x6.2.1.1,.int .i64 x6.2.1.2.1,.int .i64 x6.2.1.2.2,.int .i64 x6.2.2.1.1,.int .i64 x6.2.2.1.2.1,.int .i64 x6.2.2.1.2.2,.own 801,.own 802]),(1056,.rows 255 bg .no x8.2.2.2.1),(1087,.box [.list aL x8.1,.int .i64 x8.2.1.1,.int .i64 x8.2.1.2.1,.int .i64 x8.2.1.2.2,.int .i64 x8.2.2.1.1,.int .i64 x8.2.2.1.2.1,.int .i64 x8.2.2.1.2.2,.own 1056,.list au x8.2.2.2.2])]⟩
theorem M0 (a0:D3) (a1:List eu) (a2:Bool):AK a0 a1 a2=(R3 a0).bind fun r1=>bif (decide ((a1.length:Int)>6))then some (r1,false)else AK.a a1 a2 ([],(0,0,0),(0,0,0),[],[]) r1 0:=
 (aa cfg 66 _).trans (by kernel_rfl)
theorem AK.a_eq (x1:List eu) (x2:Bool) (x6 x8:Ds) (x9:Int):AK.a x1 x2 x6 x8 x9=bif (decide (x9< (x1.length:Int)))then(bif (aq x9 (x1.length))then(aA (fun kr19=>(R6 ((rd (τ:=Y6) x1 x9).1)).bind fun r2=>bif (!r2)then kr19 true else(bif (!decide ((rd (τ:=Y6) x1 x9).1.2.1=x9))then kr19 true else(bif (decide (0≤0)&&decide (0≤x9)&&decide (x9≤(x1.length:Int)))then((jt ((x1.take (Int.toNat x9)).drop (Int.toNat 0)) ((rd (τ:=Y6) x1 x9).1)).bind fun r3=>kr19 (!decide (r3=0)))else none))) fun(r7:Bool)=>bif r7 then some (x8,false)else((gz x8.1 x8.2.1 x8.2.2.1 ((rd (τ:=Y6) x1 x9).1)).bind fun r8=>aA (fun kr18=>bif (!decide (r8.2.2.2=0))then kr18 true else((Sb r8.1 ((rd (τ:=Y6) x1 x9).2.1)).bind fun r9=>kr18 (!r9))) fun(r11:Bool)=>bif r11 then some (x8,false)else((Dj x8 ((rd (τ:=Y6) x1 x9).1) r8.1 r8.2.1 r8.2.2.1 (IntKind.wrap .i64 (x9+1))).bind fun r12=>bif x2 then((Hj r12.2 ((rd (τ:=Y6) x1 x9).2.2)).bind fun r13=>bif (!r13)then some (x8,false)else(bif (!x2)then(bif (decide ((((rd (τ:=Y6) x1 x9).2.2).length:Int)>0))then some (x8,false)else AK.a x1 x2 x6 r12.1 (IntKind.wrap .i64 (x9+1)))else AK.a x1 x2 x6 r12.1 (IntKind.wrap .i64 (x9+1))))else(bif (!x2)then(bif (decide ((((rd (τ:=Y6) x1 x9).2.2).length:Int)>0))then some (x8,false)else AK.a x1 x2 x6 r12.1 (IntKind.wrap .i64 (x9+1)))else AK.a x1 x2 x6 r12.1 (IntKind.wrap .i64 (x9+1))))))else none)else some (x8,true):=
 (ak cfg 66 _ _ _).trans (by kernel_rfl)
noncomputable def Ea (a0 a1:List D0):Option Bool:=aw cfg 67 [.v (.list aL a0),.v (.list aL a1)]
noncomputable def Ea.a (x0 x1:List D0) (x5:Int):Option Bool:=LA 67 Tryz.f67 [1,1,0,1,0] ⟨26,af [vL 0 aL x0,vL 1 aL x1,vI 5 x5],ai []⟩
theorem M1 (a0 a1:List D0):Ea a0 a1=bif (!decide ((a0.length:Int)=(a1.length:Int)))then some false else Ea.a a0 a1 0:=
 (aa cfg 67 _).trans (by kernel_rfl)
theorem Ea.a_eq (x0 x1:List D0) (x5:Int):Ea.a x0 x1 x5=bif (decide (x5< (x0.length:Int)))then(bif (aq x5 (x0.length))then(bif (aq x5 (x1.length))then(bif (!(d9 aL (rd (τ:=aL) x0 x5) (rd (τ:=aL) x1 x5)))then some false else Ea.a x0 x1 (IntKind.wrap .i64 (x5+1)))else none)else none)else some true:=
 (ak cfg 67 _ _ _).trans (by kernel_rfl)
noncomputable def Eb (a0 a1:List D1):Option Bool:=aw cfg 68 [.agg [.list au a0],.agg [.list au a1]]
noncomputable def Eb.a (x2 x3:List D1) (x5:Int):Option Bool:=LA 68 Tryz.f68 [1,1,0,1,0] ⟨56,af [vP 2 319,vP 3 447,vI 5 x5],ai [(319,.box [.list au x2]),(447,.box [.list au x3])]⟩
theorem M2 (a0 a1:List D1):Eb a0 a1=bif (!decide ((a0.length:Int)=(a1.length:Int)))then some false else Eb.a a0 a1 0:=
 (aa cfg 68 _).trans (by kernel_rfl)
theorem Eb.a_eq (x2 x3:List D1) (x5:Int):Eb.a x2 x3 x5=bif (decide (x5< (x2.length:Int)))then(bif (aq x5 (x2.length))then(bif (aq x5 (x3.length))then(bif (!decide ((rd (τ:=au) x2 x5).1=(rd (τ:=au) x3 x5).1))then some false else(bif (!decide ((rd (τ:=au) x2 x5).2.1=(rd (τ:=au) x3 x5).2.1))then some false else(bif (decide ((rd (τ:=au) x2 x5).2.1=4))then(bif (!bh ((rd (τ:=au) x2 x5).2.2) ((rd (τ:=au) x3 x5).2.2))then some false else Eb.a x2 x3 (IntKind.wrap .i64 (x5+1)))else Eb.a x2 x3 (IntKind.wrap .i64 (x5+1)))))else none)else none)else some true:=
 (ak cfg 68 _ _ _).trans (by kernel_rfl)
noncomputable def Sc (a0:oz):Option (Ds×Bool):=aw cfg 30 [.agg [.str a0.1.1,.str a0.1.2.1,.list Y0 a0.1.2.2,.list au a0.2.1.1,.list Y8 a0.2.1.2.1,.list aL a0.2.1.2.2.1,.list Y9 a0.2.1.2.2.2,.list Y6 a0.2.2]]
theorem M3 (a0:oz):Sc a0=aA (fun kr12=>(QZ a0.1).bind fun r1=>bif (!r1)then kr12 true else((Hi a0.2.1).bind fun r2=>kr12 (!r2))) fun(r4:Bool)=>bif r4 then some (([],(0,0,0),(0,0,0),[],[]),false)else((AK a0.1 a0.2.2 true).bind fun r5=>bif r5.2 then((Ea a0.2.1.2.2.1 r5.1.1).bind fun r6=>bif r6 then((Eb a0.2.1.1 r5.1.2.2.2.2).bind fun r7=>some (r5.1,r7))else some (r5.1,false))else some (r5.1,false)):=
 (aa cfg 30 _).trans (by kernel_rfl)
noncomputable def Sd (a0:oz):Option Bool:=aw cfg 12 [.agg [.str a0.1.1,.str a0.1.2.1,.list Y0 a0.1.2.2,.list au a0.2.1.1,.list Y8 a0.2.1.2.1,.list aL a0.2.1.2.2.1,.list Y9 a0.2.1.2.2.2,.list Y6 a0.2.2]]
theorem Hk (a0:oz):Sd a0=(Sc a0).bind fun r1=>some r1.2:=
 (aa cfg 12 _).trans (by kernel_rfl)
noncomputable def I4 (a0:ByteArray):Option ByteArray:=aw cfg 70 [.v (.str a0)]
theorem M4 (a0:ByteArray):I4 a0=bif (decide ((av [(IntKind.wrap .u8 ((a0.size:Int)))]).size+a0.size≤9223372036854775807))then some ((av [(IntKind.wrap .u8 ((a0.size:Int)))])++a0)else none:=
 (aa cfg 70 _).trans (by kernel_rfl)
noncomputable def Dk (a0:ByteArray):Option Int:=aw cfg 71 [.v (.str a0)]
noncomputable def Dk.a (x0:ByteArray) (x3 x4:Int):Option Int:=LA 71 Tryz.f71 [1,1,0,1,0] ⟨20,af [(0,.v (.str x0)),vI 3 x3,vI 4 x4],ai []⟩
theorem M5 (a0:ByteArray):Dk a0=Dk.a a0 1 0:=
 (aa cfg 71 _).trans (by kernel_rfl)
theorem Dk.a_eq (x0:ByteArray) (x3 x4:Int):Dk.a x0 x3 x4=bif (decide (x4< (x0.size:Int)))then(bif (aq x4 x0.size)then Dk.a x0 ((IntKind.wrap .i64 ((IntKind.wrap .i64 (31*x3))+(IntKind.wrap .i64 ((bt x0 x4))))).tmod 65521) (IntKind.wrap .i64 (x4+1))else none)else some x3:=
 (ak cfg 71 _ _ _).trans (by kernel_rfl)
noncomputable def zI (a0:D3):Option ByteArray:=aw cfg 31 [.agg [.str a0.1,.str a0.2.1,.list Y0 a0.2.2]]
noncomputable def zI.a (x1:D3) (x3:ByteArray) (x4:Int):Option ByteArray:=LA 31 Tryz.f31 [1,1,0,1,0] ⟨65,af [vP 1 191,(3,.v (.str x3)),vI 4 x4],ai [(191,.box [.str x1.1,.str x1.2.1,.list Y0 x1.2.2])]⟩
theorem M6 (a0:D3):zI a0=(ic (a0.1.size:Int) 2).bind fun r1=>bif (decide ((⟨#[80,73,77,49]⟩:ByteArray).size+r1.size≤9223372036854775807))then(bif (decide (((⟨#[80,73,77,49]⟩:ByteArray)++r1).size+a0.1.size≤9223372036854775807))then((ic (a0.2.1.size:Int) 2).bind fun r2=>bif (decide ((((⟨#[80,73,77,49]⟩:ByteArray)++r1)++a0.1).size+r2.size≤9223372036854775807))then(bif (decide (((((⟨#[80,73,77,49]⟩:ByteArray)++r1)++a0.1)++r2).size+a0.2.1.size≤9223372036854775807))then((ic (a0.2.2.length:Int) 1).bind fun r3=>bif (decide ((((((⟨#[80,73,77,49]⟩:ByteArray)++r1)++a0.1)++r2)++a0.2.1).size+r3.size≤9223372036854775807))then zI.a a0 ((((((⟨#[80,73,77,49]⟩:ByteArray)++r1)++a0.1)++r2)++a0.2.1)++r3) 0 else none)else none)else none)else none)else none:=
 (aa cfg 31 _).trans (by kernel_rfl)
theorem zI.a_eq (x1:D3) (x3:ByteArray) (x4:Int):zI.a x1 x3 x4=bif (decide (x4< (x1.2.2.length:Int)))then(bif (aq x4 (x1.2.2.length))then((I4 ((rd (τ:=Y0) x1.2.2 x4).1)).bind fun r6=>(ic ((rd (τ:=Y0) x1.2.2 x4).2.1) 1).bind fun r7=>bif (decide (r6.size+r7.size≤9223372036854775807))then((ic ((rd (τ:=Y0) x1.2.2 x4).2.2.1) 2).bind fun r8=>bif (decide ((r6++r7).size+r8.size≤9223372036854775807))then((ic ((rd (τ:=Y0) x1.2.2 x4).2.2.2.1) 2).bind fun r9=>bif (decide (((r6++r7)++r8).size+r9.size≤9223372036854775807))then((ic ((rd (τ:=Y0) x1.2.2 x4).2.2.2.2) 1).bind fun r10=>bif (decide ((((r6++r7)++r8)++r9).size+r10.size≤9223372036854775807))then(bif (decide (x3.size+((((r6++r7)++r8)++r9)++r10).size≤9223372036854775807))then zI.a x1 (x3++((((r6++r7)++r8)++r9)++r10)) (IntKind.wrap .i64 (x4+1))else none)else none)else none)else none)else none)else none)else((Dk x3).bind fun r4=>(ic r4 4).bind fun r5=>bif (decide (x3.size+r5.size≤9223372036854775807))then some (x3++r5)else none):=
 (ak cfg 31 _ _ _).trans (by kernel_rfl)
noncomputable def Hl (a0 a1:List D1):Option Bool:=aw cfg 72 [.agg [.list au a0],.agg [.list au a1]]
noncomputable def Hl.a (x2 x3:List D1) (x5:Int):Option Bool:=LA 72 Tryz.f72 [1,1,0,1,0] ⟨31,af [vP 2 319,vP 3 447,vI 5 x5],ai [(319,.box [.list au x2]),(447,.box [.list au x3])]⟩
theorem M7 (a0 a1:List D1):Hl a0 a1=bif (!decide ((a0.length:Int)=(a1.length:Int)))then some false else Hl.a a0 a1 0:=
 (aa cfg 72 _).trans (by kernel_rfl)
theorem Hl.a_eq (x2 x3:List D1) (x5:Int):Hl.a x2 x3 x5=bif (decide (x5< (x2.length:Int)))then(bif (aq x5 (x2.length))then(bif (aq x5 (x3.length))then(bif (!(d9 au (rd (τ:=au) x2 x5) (rd (τ:=au) x3 x5)))then some false else Hl.a x2 x3 (IntKind.wrap .i64 (x5+1)))else none)else none)else some true:=
 (ak cfg 72 _ _ _).trans (by kernel_rfl)
noncomputable def Hm (a0 a1:List (Int×Int×Int)):Option Bool:=aw cfg 73 [.v (.list Y9 a0),.v (.list Y9 a1)]
noncomputable def Hm.a (x0 x1:List (Int×Int×Int)) (x5:Int):Option Bool:=LA 73 Tryz.f73 [1,1,0,1,0] ⟨26,af [vL 0 Y9 x0,vL 1 Y9 x1,vI 5 x5],ai []⟩
theorem M8 (a0 a1:List (Int×Int×Int)):Hm a0 a1=bif (!decide ((a0.length:Int)=(a1.length:Int)))then some false else Hm.a a0 a1 0:=
 (aa cfg 73 _).trans (by kernel_rfl)
theorem Hm.a_eq (x0 x1:List (Int×Int×Int)) (x5:Int):Hm.a x0 x1 x5=bif (decide (x5< (x0.length:Int)))then(bif (aq x5 (x0.length))then(bif (aq x5 (x1.length))then(bif (!(d9 Y9 (rd (τ:=Y9) x0 x5) (rd (τ:=Y9) x1 x5)))then some false else Hm.a x0 x1 (IntKind.wrap .i64 (x5+1)))else none)else none)else some true:=
 (ak cfg 73 _ _ _).trans (by kernel_rfl)
noncomputable def Se (a0 a1:D4):Option Bool:=aw cfg 74 [.agg [.int .i64 a0.1,.seg (.int .i64) 32 a0.2.1.1,.int .i64 a0.2.1.2,.list (.int .i64) a0.2.2.1,.int .i64 a0.2.2.2],.agg [.int .i64 a1.1,.seg (.int .i64) 32 a1.2.1.1,.int .i64 a1.2.1.2,.list (.int .i64) a1.2.2.1,.int .i64 a1.2.2.2]]
theorem M9 (a0 a1:D4):Se a0 a1=bif (decide (a0.1=a1.1))then(bif (d9 Y7 a0.2.1 a1.2.1)then((Di a0.2.2.1 a1.2.2.1).bind fun r1=>bif r1 then some (decide (a0.2.2.2=a1.2.2.2))else some false)else some false)else some false:=
 (aa cfg 74 _).trans (by kernel_rfl)
noncomputable def Ec (a0 a1:D5):Option Bool:=aw cfg 32 [.agg [.list au a0.1,.list Y8 a0.2.1,.list aL a0.2.2.1,.list Y9 a0.2.2.2],.agg [.list au a1.1,.list Y8 a1.2.1,.list aL a1.2.2.1,.list Y9 a1.2.2.2]]
noncomputable def Ec.a (x2 x3:D5) (x5:Int):Option Bool:=LA 32 Tryz.f32 [1,1,0,1,0] ⟨56,af [vP 2 319,vP 3 447,vI 5 x5],ai [(319,.box [.list au x2.1,.list Y8 x2.2.1,.list aL x2.2.2.1,.list Y9 x2.2.2.2]),(447,.box [.list au x3.1,.list Y8 x3.2.1,.list aL x3.2.2.1,.list Y9 x3.2.2.2])]⟩
theorem Na (a0 a1:D5):Ec a0 a1=(Hl a0.1 a1.1).bind fun r1=>bif (!r1)then some false else(bif (!decide ((a0.2.1.length:Int)=(a1.2.1.length:Int)))then some false else((Ea a0.2.2.1 a1.2.2.1).bind fun r2=>bif (!r2)then some false else((Hm a0.2.2.2 a1.2.2.2).bind fun r3=>bif (!r3)then some false else Ec.a a0 a1 0))):=
 (aa cfg 32 _).trans (by kernel_rfl)
theorem Ec.a_eq (x2 x3:D5) (x5:Int):Ec.a x2 x3 x5=bif (decide (x5< (x2.2.1.length:Int)))then(bif (aq x5 (x2.2.1.length))then(bif (aq x5 (x3.2.1.length))then((Se (rd (τ:=Y8) x2.2.1 x5) (rd (τ:=Y8) x3.2.1 x5)).bind fun r10=>bif (!r10)then some false else Ec.a x2 x3 (IntKind.wrap .i64 (x5+1)))else none)else none)else some true:=
 (ak cfg 32 _ _ _).trans (by kernel_rfl)
noncomputable def Q2 (a0:Bool):Option Int:=aw cfg 75 [.v (.bool a0)]
theorem Nb (a0:Bool):Q2 a0=bif a0 then some 1 else some 0:=
 (aa cfg 75 _).trans (by kernel_rfl)
noncomputable def gy (a0:D9):Option ByteArray:=aw cfg 33 [.agg [.str a0.1,.int .i64 a0.2.1,.list Y1 a0.2.2.1,.list (.pair .str .str) a0.2.2.2.1,.list Y2 a0.2.2.2.2.1,.list (.pair (.int .i64) .bool) a0.2.2.2.2.2]]
noncomputable def gy.a (x1:D9) (x3:ByteArray) (x4:Int):Option ByteArray:=LA 33 Tryz.f33 [1,1,0,1,0] ⟨163,af [vP 1 191,(3,.v (.str x3)),vI 4 x4],ai [(191,.box [.str x1.1,.int .i64 x1.2.1,.list Y1 x1.2.2.1,.list (.pair .str .str) x1.2.2.2.1,.list Y2 x1.2.2.2.2.1,.list (.pair (.int .i64) .bool) x1.2.2.2.2.2])]⟩
noncomputable def gy.b (x1:D9) (x3:ByteArray) (x6:Int):Option ByteArray:=LA 33 Tryz.f33 [1,1,1,1,0,1,0] ⟨163,af [vP 1 191,(3,.v (.str x3)),vI 6 x6],ai [(191,.box [.str x1.1,.int .i64 x1.2.1,.list Y1 x1.2.2.1,.list (.pair .str .str) x1.2.2.2.1,.list Y2 x1.2.2.2.2.1,.list (.pair (.int .i64) .bool) x1.2.2.2.2.2])]⟩
noncomputable def gy.c (x1:D9) (x3:ByteArray) (x7:Int):Option ByteArray:=LA 33 Tryz.f33 [1,1,1,1,1,1,0,1,0] ⟨163,af [vP 1 191,(3,.v (.str x3)),vI 7 x7],ai [(191,.box [.str x1.1,.int .i64 x1.2.1,.list Y1 x1.2.2.1,.list (.pair .str .str) x1.2.2.2.1,.list Y2 x1.2.2.2.2.1,.list (.pair (.int .i64) .bool) x1.2.2.2.2.2])]⟩
noncomputable def gy.d (x1:D9) (x3:ByteArray) (x9:Int):Option ByteArray:=LA 33 Tryz.f33 [1,1,1,1,1,1,1,1,0,1,0] ⟨163,af [vP 1 191,(3,.v (.str x3)),vI 9 x9],ai [(191,.box [.str x1.1,.int .i64 x1.2.1,.list Y1 x1.2.2.1,.list (.pair .str .str) x1.2.2.2.1,.list Y2 x1.2.2.2.2.1,.list (.pair (.int .i64) .bool) x1.2.2.2.2.2])]⟩
theorem Nc (a0:D9):gy a0=(I4 a0.1).bind fun r1=>bif (decide ((⟨#[80,79,66,49]⟩:ByteArray).size+r1.size≤9223372036854775807))then((ic a0.2.1 1).bind fun r2=>bif (decide (((⟨#[80,79,66,49]⟩:ByteArray)++r1).size+r2.size≤9223372036854775807))then((ic (a0.2.2.1.length:Int) 1).bind fun r3=>bif (decide ((((⟨#[80,79,66,49]⟩:ByteArray)++r1)++r2).size+r3.size≤9223372036854775807))then gy.a a0 ((((⟨#[80,79,66,49]⟩:ByteArray)++r1)++r2)++r3) 0 else none)else none)else none:=
 (aa cfg 33 _).trans (by kernel_rfl)
theorem gy.a_eq (x1:D9) (x3:ByteArray) (x4:Int):gy.a x1 x3 x4=bif (decide (x4< (x1.2.2.1.length:Int)))then(bif (aq x4 (x1.2.2.1.length))then((I4 ((rd (τ:=Y1) x1.2.2.1 x4).1)).bind fun r5=>(Q2 ((rd (τ:=Y1) x1.2.2.1 x4).2.1)).bind fun r6=>(ic r6 1).bind fun r7=>bif (decide (r5.size+r7.size≤9223372036854775807))then((ic ((rd (τ:=Y1) x1.2.2.1 x4).2.2.1) 1).bind fun r8=>bif (decide ((r5++r7).size+r8.size≤9223372036854775807))then((ic (IntKind.wrap .i64 ((((rd (τ:=Y1) x1.2.2.1 x4).2.2.2).size:Int).tdiv 4)) 1).bind fun r9=>bif (decide (((r5++r7)++r8).size+r9.size≤9223372036854775807))then(bif (decide ((((r5++r7)++r8)++r9).size+((rd (τ:=Y1) x1.2.2.1 x4).2.2.2).size≤9223372036854775807))then(bif (decide (x3.size+((((r5++r7)++r8)++r9)++((rd (τ:=Y1) x1.2.2.1 x4).2.2.2)).size≤9223372036854775807))then gy.a x1 (x3++((((r5++r7)++r8)++r9)++((rd (τ:=Y1) x1.2.2.1 x4).2.2.2))) (IntKind.wrap .i64 (x4+1))else none)else none)else none)else none)else none)else none)else((ic (x1.2.2.2.1.length:Int) 1).bind fun r4=>bif (decide (x3.size+r4.size≤9223372036854775807))then gy.b x1 (x3++r4) 0 else none):=
 (ak cfg 33 _ _ _).trans (by kernel_rfl)
theorem gy.b_eq (x1:D9) (x3:ByteArray) (x6:Int):gy.b x1 x3 x6=bif (decide (x6< (x1.2.2.2.1.length:Int)))then(bif (aq x6 (x1.2.2.2.1.length))then((I4 ((rd (τ:=(.pair .str .str)) x1.2.2.2.1 x6).1)).bind fun r11=>bif (aq x6 (x1.2.2.2.1.length))then((I4 ((rd (τ:=(.pair .str .str)) x1.2.2.2.1 x6).2)).bind fun r12=>bif (decide (r11.size+r12.size≤9223372036854775807))then(bif (decide (x3.size+(r11++r12).size≤9223372036854775807))then gy.b x1 (x3++(r11++r12)) (IntKind.wrap .i64 (x6+1))else none)else none)else none)else none)else((ic (x1.2.2.2.2.1.length:Int) 1).bind fun r10=>bif (decide (x3.size+r10.size≤9223372036854775807))then gy.c x1 (x3++r10) 0 else none):=
 (ak cfg 33 _ _ _).trans (by kernel_rfl)
theorem gy.c_eq (x1:D9) (x3:ByteArray) (x7:Int):gy.c x1 x3 x7=bif (decide (x7< (x1.2.2.2.2.1.length:Int)))then(bif (aq x7 (x1.2.2.2.2.1.length))then((ic ((rd (τ:=Y2) x1.2.2.2.2.1 x7).1) 1).bind fun r14=>(ic ((rd (τ:=Y2) x1.2.2.2.2.1 x7).2.1) 1).bind fun r15=>bif (decide (r14.size+r15.size≤9223372036854775807))then((ic ((rd (τ:=Y2) x1.2.2.2.2.1 x7).2.2.1) 1).bind fun r16=>bif (decide ((r14++r15).size+r16.size≤9223372036854775807))then((I4 ((rd (τ:=Y2) x1.2.2.2.2.1 x7).2.2.2.1)).bind fun r17=>bif (decide (((r14++r15)++r16).size+r17.size≤9223372036854775807))then((ic ((rd (τ:=Y2) x1.2.2.2.2.1 x7).2.2.2.2) 4).bind fun r18=>bif (decide ((((r14++r15)++r16)++r17).size+r18.size≤9223372036854775807))then(bif (decide (x3.size+((((r14++r15)++r16)++r17)++r18).size≤9223372036854775807))then gy.c x1 (x3++((((r14++r15)++r16)++r17)++r18)) (IntKind.wrap .i64 (x7+1))else none)else none)else none)else none)else none)else none)else((ic (x1.2.2.2.2.2.length:Int) 1).bind fun r13=>bif (decide (x3.size+r13.size≤9223372036854775807))then gy.d x1 (x3++r13) 0 else none):=
 (ak cfg 33 _ _ _).trans (by kernel_rfl)
theorem gy.d_eq (x1:D9) (x3:ByteArray) (x9:Int):gy.d x1 x3 x9=bif (decide (x9< (x1.2.2.2.2.2.length:Int)))then(bif (aq x9 (x1.2.2.2.2.2.length))then((ic ((rd (τ:=(.pair (.int .i64) .bool)) x1.2.2.2.2.2 x9).1) 1).bind fun r21=>bif (aq x9 (x1.2.2.2.2.2.length))then((Q2 ((rd (τ:=(.pair (.int .i64) .bool)) x1.2.2.2.2.2 x9).2)).bind fun r22=>(ic r22 1).bind fun r23=>bif (decide (r21.size+r23.size≤9223372036854775807))then(bif (decide (x3.size+(r21++r23).size≤9223372036854775807))then gy.d x1 (x3++(r21++r23)) (IntKind.wrap .i64 (x9+1))else none)else none)else none)else none)else((Dk x3).bind fun r19=>(ic r19 4).bind fun r20=>bif (decide (x3.size+r20.size≤9223372036854775807))then some (x3++r20)else none):=
 (ak cfg 33 _ _ _).trans (by kernel_rfl)
noncomputable def Dl (a0 a1:oz):Option Bool:=aw cfg 13 [.agg [.str a0.1.1,.str a0.1.2.1,.list Y0 a0.1.2.2,.list au a0.2.1.1,.list Y8 a0.2.1.2.1,.list aL a0.2.1.2.2.1,.list Y9 a0.2.1.2.2.2,.list Y6 a0.2.2],.agg [.str a1.1.1,.str a1.1.2.1,.list Y0 a1.1.2.2,.list au a1.2.1.1,.list Y8 a1.2.1.2.1,.list aL a1.2.1.2.2.1,.list Y9 a1.2.1.2.2.2,.list Y6 a1.2.2]]
noncomputable def Dl.a (x2 x3:oz) (x5:Int):Option Bool:=LA 13 Tryz.f13 [1,1,0,1,0] ⟨52,af [vP 2 319,vP 3 447,vI 5 x5],ai [(319,.box [.str x2.1.1,.str x2.1.2.1,.list Y0 x2.1.2.2,.list au x2.2.1.1,.list Y8 x2.2.1.2.1,.list aL x2.2.1.2.2.1,.list Y9 x2.2.1.2.2.2,.list Y6 x2.2.2]),(447,.box [.str x3.1.1,.str x3.1.2.1,.list Y0 x3.1.2.2,.list au x3.2.1.1,.list Y8 x3.2.1.2.1,.list aL x3.2.1.2.2.1,.list Y9 x3.2.1.2.2.2,.list Y6 x3.2.2])]⟩
theorem Nd (a0 a1:oz):Dl a0 a1=(zI a0.1).bind fun r1=>(zI a1.1).bind fun r2=>bif (!bh r1 r2)then some false else((Ec a0.2.1 a1.2.1).bind fun r3=>bif (!r3)then some false else(bif (!decide ((a0.2.2.length:Int)=(a1.2.2.length:Int)))then some false else Dl.a a0 a1 0)):=
 (aa cfg 13 _).trans (by kernel_rfl)
theorem Dl.a_eq (x2 x3:oz) (x5:Int):Dl.a x2 x3 x5=bif (decide (x5< (x2.2.2.length:Int)))then(bif (aq x5 (x2.2.2.length))then((gy ((rd (τ:=Y6) x2.2.2 x5).1)).bind fun r8=>bif (aq x5 (x3.2.2.length))then((gy ((rd (τ:=Y6) x3.2.2 x5).1)).bind fun r9=>bif (!bh r8 r9)then some false else Dl.a x2 x3 (IntKind.wrap .i64 (x5+1)))else none)else none)else some true:=
 (ak cfg 13 _ _ _).trans (by kernel_rfl)
noncomputable def Sf (a0 a1:oz):Option Bool:=aw cfg 5 [.agg [.str a0.1.1,.str a0.1.2.1,.list Y0 a0.1.2.2,.list au a0.2.1.1,.list Y8 a0.2.1.2.1,.list aL a0.2.1.2.2.1,.list Y9 a0.2.1.2.2.2,.list Y6 a0.2.2],.agg [.str a1.1.1,.str a1.1.2.1,.list Y0 a1.1.2.2,.list au a1.2.1.1,.list Y8 a1.2.1.2.1,.list aL a1.2.1.2.2.1,.list Y9 a1.2.1.2.2.2,.list Y6 a1.2.2]]
theorem Nf (a0 a1:oz):Sf a0 a1=(Sd a0).bind fun r1=>bif r1 then((Sd a1).bind fun r2=>bif r2 then((Dl a0 a1).bind fun r3=>some r3)else some false)else some false:=
 (aa cfg 5 _).trans (by kernel_rfl)
noncomputable def Q3 (a0:D2):Option D2:=aw cfg 76 [.agg [.str a0.1,.int .i64 a0.2.1,.int .i64 a0.2.2.1,.int .i64 a0.2.2.2.1,.int .i64 a0.2.2.2.2]]
theorem Ng (a0:D2):Q3 a0=some a0:=
 (aa cfg 76 _).trans (by kernel_rfl)
noncomputable def Ed (a0:List D2):Option (List D2):=aw cfg 34 [.v (.list Y0 a0)]
noncomputable def Ed.a (x0 x3:List D2) (x4:Int):Option (List D2):=LA 34 Tryz.f34 [1,1,0,1,0] ⟨23,af [vL 0 Y0 x0,(3,.v (.own 416)),vI 4 x4],ai [(416,.rows 116 Y0 .no x3)]⟩
theorem Nh (a0:List D2):Ed a0=bif (decide (0≤(a0.length:Int))&&ay (Int.toNat (a0.length:Int)) 48)then Ed.a a0 (List.replicate (Int.toNat (a0.length:Int)) ((⟨#[]⟩:ByteArray),0,0,0,0)) 0 else none:=
 (aa cfg 34 _).trans (by kernel_rfl)
theorem Ed.a_eq (x0 x3:List D2) (x4:Int):Ed.a x0 x3 x4=bif (decide (x4< (x0.length:Int)))then(bif (aq x4 (x0.length))then((Q3 (rd (τ:=Y0) x0 x4)).bind fun r1=>bif (aq x4 (x3.length))then Ed.a x0 (x3.set (Int.toNat x4) r1) (IntKind.wrap .i64 (x4+1))else none)else none)else some x3:=
 (ak cfg 34 _ _ _).trans (by kernel_rfl)
noncomputable def Q4 (a0:D3):Option D3:=aw cfg 14 [.agg [.str a0.1,.str a0.2.1,.list Y0 a0.2.2]]
theorem Ni (a0:D3):Q4 a0=(Ed a0.2.2).bind fun r1=>some (a0.1,a0.2.1,r1):=
 (aa cfg 14 _).trans (by kernel_rfl)
noncomputable def Q5 (a0:D1):Option D1:=aw cfg 124 [.agg [.int .i64 a0.1,.int .i64 a0.2.1,.str a0.2.2]]
theorem Nj (a0:D1):Q5 a0=some a0:=
 (aa cfg 124 _).trans (by kernel_rfl)
noncomputable def Ee (a0:List D1):Option (List D1):=aw cfg 77 [.v (.list au a0)]
noncomputable def Ee.a (x0 x3:List D1) (x4:Int):Option (List D1):=LA 77 Tryz.f77 [1,1,0,1,0] ⟨23,af [vL 0 au x0,(3,.v (.own 416)),vI 4 x4],ai [(416,.rows 176 au .no x3)]⟩
theorem Nk (a0:List D1):Ee a0=bif (decide (0≤(a0.length:Int))&&ay (Int.toNat (a0.length:Int)) 32)then Ee.a a0 (List.replicate (Int.toNat (a0.length:Int)) (0,0,(⟨#[]⟩:ByteArray))) 0 else none:=
 (aa cfg 77 _).trans (by kernel_rfl)
theorem Ee.a_eq (x0 x3:List D1) (x4:Int):Ee.a x0 x3 x4=bif (decide (x4< (x0.length:Int)))then(bif (aq x4 (x0.length))then((Q5 (rd (τ:=au) x0 x4)).bind fun r1=>bif (aq x4 (x3.length))then Ee.a x0 (x3.set (Int.toNat x4) r1) (IntKind.wrap .i64 (x4+1))else none)else none)else some x3:=
 (ak cfg 77 _ _ _).trans (by kernel_rfl)
noncomputable def Q6 (a0:List D1):Option (List D1):=aw cfg 35 [.agg [.list au a0]]
theorem Nl (a0:List D1):Q6 a0=(Ee a0).bind fun r1=>some r1:=
 (aa cfg 35 _).trans (by kernel_rfl)
noncomputable def AL (a0:List Int):Option (List Int):=aw cfg 178 [.agg [.seg (.int .i64) 32 a0]]
noncomputable def AL.a (x1 x2 x3:List Int) (x4:Int):Option (List Int):=LA 178 Tryz.f178 [1,1,0,1,0] ⟨15,af [vP 1 191,vP 2 319,vP 3 447,vI 4 x4],ai [(191,.box [.seg (.int .i64) 32 x1]),(319,.box [.seg (.int .i64) 32 x2]),(447,.box [.seg (.int .i64) 32 x3])]⟩
theorem Nm (a0:List Int):AL a0=AL.a a0 [0,0,0,0,0,0,0,0,0,0,0,0,0,0,0,0,0,0,0,0,0,0,0,0,0,0,0,0,0,0,0,0] [0,0,0,0,0,0,0,0,0,0,0,0,0,0,0,0,0,0,0,0,0,0,0,0,0,0,0,0,0,0,0,0] 0:=
 (aa cfg 178 _).trans (by kernel_rfl)
theorem AL.a_eq (x1 x2 x3:List Int) (x4:Int):AL.a x1 x2 x3 x4=bif (decide (x4<32))then(bif (aq x4 32)then(bif (aq x4 32)then AL.a x1 x2 (x3.set (Int.toNat x4) (rd (τ:=(.int .i64)) x1 x4)) (IntKind.wrap .i64 (x4+1))else none)else none)else some x3:=
 (ak cfg 178 _ _ _).trans (by kernel_rfl)
noncomputable def Q7 (a0:List Int×Int):Option (List Int×Int):=aw cfg 125 [.agg [.seg (.int .i64) 32 a0.1,.int .i64 a0.2]]
theorem Nn (a0:List Int×Int):Q7 a0=(AL a0.1).bind fun r1=>some (r1,a0.2):=
 (aa cfg 125 _).trans (by kernel_rfl)
noncomputable def AM (a0:List Int):Option (List Int):=aw cfg 126 [.v (.list (.int .i64) a0)]
noncomputable def AM.a (x0 x3:List Int) (x4:Int):Option (List Int):=LA 126 Tryz.f126 [1,1,0,1,0] ⟨22,af [vL 0 (.int .i64) x0,(3,.v (.own 416)),vI 4 x4],ai [(416,.rows 3 (.int .i64) .no x3)]⟩
theorem No (a0:List Int):AM a0=bif (decide (0≤(a0.length:Int))&&ay (Int.toNat (a0.length:Int)) 8)then AM.a a0 (List.replicate (Int.toNat (a0.length:Int)) (0:Int)) 0 else none:=
 (aa cfg 126 _).trans (by kernel_rfl)
theorem AM.a_eq (x0 x3:List Int) (x4:Int):AM.a x0 x3 x4=bif (decide (x4< (x0.length:Int)))then(bif (aq x4 (x0.length))then(bif (aq x4 (x3.length))then AM.a x0 (x3.set (Int.toNat x4) (rd (τ:=(.int .i64)) x0 x4)) (IntKind.wrap .i64 (x4+1))else none)else none)else some x3:=
 (ak cfg 126 _ _ _).trans (by kernel_rfl)
noncomputable def Q8 (a0:D4):Option D4:=aw cfg 78 [.agg [.int .i64 a0.1,.seg (.int .i64) 32 a0.2.1.1,.int .i64 a0.2.1.2,.list (.int .i64) a0.2.2.1,.int .i64 a0.2.2.2]]
theorem Np (a0:D4):Q8 a0=(Q7 a0.2.1).bind fun r1=>(AM a0.2.2.1).bind fun r2=>some (a0.1,r1,r2,a0.2.2.2):=
 (aa cfg 78 _).trans (by kernel_rfl)
noncomputable def Ef (a0:List D4):Option (List D4):=aw cfg 36 [.v (.list Y8 a0)]
noncomputable def Ef.a (x0 x3:List D4) (x4:Int):Option (List D4):=LA 36 Tryz.f36 [1,1,0,1,0] ⟨23,af [vL 0 Y8 x0,(3,.v (.own 416)),vI 4 x4],ai [(416,.rows 154 Y8 (.pair .no (.pair .no (.pair (.own 3 .no) .no))) x3)]⟩
theorem Nq (a0:List D4):Ef a0=bif (decide (0≤(a0.length:Int))&&ay (Int.toNat (a0.length:Int)) 304)then Ef.a a0 (List.replicate (Int.toNat (a0.length:Int)) (0,([0,0,0,0,0,0,0,0,0,0,0,0,0,0,0,0,0,0,0,0,0,0,0,0,0,0,0,0,0,0,0,0],0),[],0)) 0 else none:=
 (aa cfg 36 _).trans (by kernel_rfl)
theorem Ef.a_eq (x0 x3:List D4) (x4:Int):Ef.a x0 x3 x4=bif (decide (x4< (x0.length:Int)))then(bif (aq x4 (x0.length))then((Q8 (rd (τ:=Y8) x0 x4)).bind fun r1=>bif (aq x4 (x3.length))then Ef.a x0 (x3.set (Int.toNat x4) r1) (IntKind.wrap .i64 (x4+1))else none)else none)else some x3:=
 (ak cfg 36 _ _ _).trans (by kernel_rfl)
noncomputable def Q9 (a0:D0):Option D0:=aw cfg 79 [.agg [.str a0.1,.int .i64 a0.2.1,.int .i64 a0.2.2.1,.int .i64 a0.2.2.2.1,.int .i64 a0.2.2.2.2.1,.int .i64 a0.2.2.2.2.2]]
theorem Nr (a0:D0):Q9 a0=some a0:=
 (aa cfg 79 _).trans (by kernel_rfl)
noncomputable def Eg (a0:List D0):Option (List D0):=aw cfg 37 [.v (.list aL a0)]
noncomputable def Eg.a (x0 x3:List D0) (x4:Int):Option (List D0):=LA 37 Tryz.f37 [1,1,0,1,0] ⟨23,af [vL 0 aL x0,(3,.v (.own 416)),vI 4 x4],ai [(416,.rows 121 aL .no x3)]⟩
theorem Ns (a0:List D0):Eg a0=bif (decide (0≤(a0.length:Int))&&ay (Int.toNat (a0.length:Int)) 56)then Eg.a a0 (List.replicate (Int.toNat (a0.length:Int)) ((⟨#[]⟩:ByteArray),0,0,0,0,0)) 0 else none:=
 (aa cfg 37 _).trans (by kernel_rfl)
theorem Eg.a_eq (x0 x3:List D0) (x4:Int):Eg.a x0 x3 x4=bif (decide (x4< (x0.length:Int)))then(bif (aq x4 (x0.length))then((Q9 (rd (τ:=aL) x0 x4)).bind fun r1=>bif (aq x4 (x3.length))then Eg.a x0 (x3.set (Int.toNat x4) r1) (IntKind.wrap .i64 (x4+1))else none)else none)else some x3:=
 (ak cfg 37 _ _ _).trans (by kernel_rfl)
noncomputable def Ra (a0:Int×Int×Int):Option (Int×Int×Int):=aw cfg 80 [.agg [.int .i64 a0.1,.int .i64 a0.2.1,.int .i64 a0.2.2]]
theorem Nt (a0:Int×Int×Int):Ra a0=some a0:=
 (aa cfg 80 _).trans (by kernel_rfl)
noncomputable def Eh (a0:List (Int×Int×Int)):Option (List (Int×Int×Int)):=aw cfg 38 [.v (.list Y9 a0)]
noncomputable def Eh.a (x0 x3:List (Int×Int×Int)) (x4:Int):Option (List (Int×Int×Int)):=LA 38 Tryz.f38 [1,1,0,1,0] ⟨23,af [vL 0 Y9 x0,(3,.v (.own 416)),vI 4 x4],ai [(416,.rows 124 Y9 .no x3)]⟩
theorem Nu (a0:List (Int×Int×Int)):Eh a0=bif (decide (0≤(a0.length:Int))&&ay (Int.toNat (a0.length:Int)) 24)then Eh.a a0 (List.replicate (Int.toNat (a0.length:Int)) (0,0,0)) 0 else none:=
 (aa cfg 38 _).trans (by kernel_rfl)
theorem Eh.a_eq (x0 x3:List (Int×Int×Int)) (x4:Int):Eh.a x0 x3 x4=bif (decide (x4< (x0.length:Int)))then(bif (aq x4 (x0.length))then((Ra (rd (τ:=Y9) x0 x4)).bind fun r1=>bif (aq x4 (x3.length))then Eh.a x0 (x3.set (Int.toNat x4) r1) (IntKind.wrap .i64 (x4+1))else none)else none)else some x3:=
 (ak cfg 38 _ _ _).trans (by kernel_rfl)
noncomputable def Rb (a0:D5):Option D5:=aw cfg 15 [.agg [.list au a0.1,.list Y8 a0.2.1,.list aL a0.2.2.1,.list Y9 a0.2.2.2]]
theorem Nv (a0:D5):Rb a0=(Q6 a0.1).bind fun r1=>(Ef a0.2.1).bind fun r2=>(Eg a0.2.2.1).bind fun r3=>(Eh a0.2.2.2).bind fun r4=>some (r1,r2,r3,r4):=
 (aa cfg 15 _).trans (by kernel_rfl)
noncomputable def Rc (a0:D6):Option D6:=aw cfg 179 [.agg [.str a0.1,.bool a0.2.1,.int .i64 a0.2.2.1,.str a0.2.2.2]]
theorem Nw (a0:D6):Rc a0=some a0:=
 (aa cfg 179 _).trans (by kernel_rfl)
noncomputable def Ei (a0:List D6):Option (List D6):=aw cfg 127 [.v (.list Y1 a0)]
noncomputable def Ei.a (x0 x3:List D6) (x4:Int):Option (List D6):=LA 127 Tryz.f127 [1,1,0,1,0] ⟨23,af [vL 0 Y1 x0,(3,.v (.own 416)),vI 4 x4],ai [(416,.rows 156 Y1 .no x3)]⟩
theorem Nx (a0:List D6):Ei a0=bif (decide (0≤(a0.length:Int))&&ay (Int.toNat (a0.length:Int)) 48)then Ei.a a0 (List.replicate (Int.toNat (a0.length:Int)) ((⟨#[]⟩:ByteArray),false,0,(⟨#[]⟩:ByteArray))) 0 else none:=
 (aa cfg 127 _).trans (by kernel_rfl)
theorem Ei.a_eq (x0 x3:List D6) (x4:Int):Ei.a x0 x3 x4=bif (decide (x4< (x0.length:Int)))then(bif (aq x4 (x0.length))then((Rc (rd (τ:=Y1) x0 x4)).bind fun r1=>bif (aq x4 (x3.length))then Ei.a x0 (x3.set (Int.toNat x4) r1) (IntKind.wrap .i64 (x4+1))else none)else none)else some x3:=
 (ak cfg 127 _ _ _).trans (by kernel_rfl)
noncomputable def Rd (a0:D7):Option D7:=aw cfg 180 [.agg [.str a0.1,.str a0.2]]
theorem Ny (a0:D7):Rd a0=some a0:=
 (aa cfg 180 _).trans (by kernel_rfl)
noncomputable def Ej (a0:List D7):Option (List D7):=aw cfg 128 [.v (.list (.pair .str .str) a0)]
noncomputable def Ej.a (x0 x3:List D7) (x4:Int):Option (List D7):=LA 128 Tryz.f128 [1,1,0,1,0] ⟨23,af [vL 0 (.pair .str .str) x0,(3,.v (.own 416)),vI 4 x4],ai [(416,.rows 159 (.pair .str .str) .no x3)]⟩
theorem Nz (a0:List D7):Ej a0=bif (decide (0≤(a0.length:Int))&&ay (Int.toNat (a0.length:Int)) 32)then Ej.a a0 (List.replicate (Int.toNat (a0.length:Int)) ((⟨#[]⟩:ByteArray),(⟨#[]⟩:ByteArray))) 0 else none:=
 (aa cfg 128 _).trans (by kernel_rfl)
theorem Ej.a_eq (x0 x3:List D7) (x4:Int):Ej.a x0 x3 x4=bif (decide (x4< (x0.length:Int)))then(bif (aq x4 (x0.length))then((Rd (rd (τ:=(.pair .str .str)) x0 x4)).bind fun r1=>bif (aq x4 (x3.length))then Ej.a x0 (x3.set (Int.toNat x4) r1) (IntKind.wrap .i64 (x4+1))else none)else none)else some x3:=
 (ak cfg 128 _ _ _).trans (by kernel_rfl)
noncomputable def Re (a0:D8):Option D8:=aw cfg 181 [.agg [.int .i64 a0.1,.int .i64 a0.2.1,.int .i64 a0.2.2.1,.str a0.2.2.2.1,.int .i64 a0.2.2.2.2]]
theorem NA (a0:D8):Re a0=some a0:=
 (aa cfg 181 _).trans (by kernel_rfl)
noncomputable def Ek (a0:List D8):Option (List D8):=aw cfg 129 [.v (.list Y2 a0)]
noncomputable def Ek.a (x0 x3:List D8) (x4:Int):Option (List D8):=LA 129 Tryz.f129 [1,1,0,1,0] ⟨23,af [vL 0 Y2 x0,(3,.v (.own 416)),vI 4 x4],ai [(416,.rows 161 Y2 .no x3)]⟩
theorem NB (a0:List D8):Ek a0=bif (decide (0≤(a0.length:Int))&&ay (Int.toNat (a0.length:Int)) 48)then Ek.a a0 (List.replicate (Int.toNat (a0.length:Int)) (0,0,0,(⟨#[]⟩:ByteArray),0)) 0 else none:=
 (aa cfg 129 _).trans (by kernel_rfl)
theorem Ek.a_eq (x0 x3:List D8) (x4:Int):Ek.a x0 x3 x4=bif (decide (x4< (x0.length:Int)))then(bif (aq x4 (x0.length))then((Re (rd (τ:=Y2) x0 x4)).bind fun r1=>bif (aq x4 (x3.length))then Ek.a x0 (x3.set (Int.toNat x4) r1) (IntKind.wrap .i64 (x4+1))else none)else none)else some x3:=
 (ak cfg 129 _ _ _).trans (by kernel_rfl)
noncomputable def Rf (a0:Int×Bool):Option (Int×Bool):=aw cfg 182 [.agg [.int .i64 a0.1,.bool a0.2]]
theorem NC (a0:Int×Bool):Rf a0=some a0:=
 (aa cfg 182 _).trans (by kernel_rfl)
noncomputable def El (a0:List (Int×Bool)):Option (List (Int×Bool)):=aw cfg 130 [.v (.list (.pair (.int .i64) .bool) a0)]
noncomputable def El.a (x0 x3:List (Int×Bool)) (x4:Int):Option (List (Int×Bool)):=LA 130 Tryz.f130 [1,1,0,1,0] ⟨23,af [vL 0 (.pair (.int .i64) .bool) x0,(3,.v (.own 416)),vI 4 x4],ai [(416,.rows 163 (.pair (.int .i64) .bool) .no x3)]⟩
theorem ND (a0:List (Int×Bool)):El a0=bif (decide (0≤(a0.length:Int))&&ay (Int.toNat (a0.length:Int)) 16)then El.a a0 (List.replicate (Int.toNat (a0.length:Int)) (0,false)) 0 else none:=
 (aa cfg 130 _).trans (by kernel_rfl)
theorem El.a_eq (x0 x3:List (Int×Bool)) (x4:Int):El.a x0 x3 x4=bif (decide (x4< (x0.length:Int)))then(bif (aq x4 (x0.length))then((Rf (rd (τ:=(.pair (.int .i64) .bool)) x0 x4)).bind fun r1=>bif (aq x4 (x3.length))then El.a x0 (x3.set (Int.toNat x4) r1) (IntKind.wrap .i64 (x4+1))else none)else none)else some x3:=
 (ak cfg 130 _ _ _).trans (by kernel_rfl)
noncomputable def Rg (a0:D9):Option D9:=aw cfg 81 [.agg [.str a0.1,.int .i64 a0.2.1,.list Y1 a0.2.2.1,.list (.pair .str .str) a0.2.2.2.1,.list Y2 a0.2.2.2.2.1,.list (.pair (.int .i64) .bool) a0.2.2.2.2.2]]
theorem NE (a0:D9):Rg a0=(Ei a0.2.2.1).bind fun r1=>(Ej a0.2.2.2.1).bind fun r2=>(Ek a0.2.2.2.2.1).bind fun r3=>(El a0.2.2.2.2.2).bind fun r4=>some (a0.1,a0.2.1,r1,r2,r3,r4):=
 (aa cfg 81 _).trans (by kernel_rfl)
noncomputable def Dm (a0:List ByteArray):Option (List ByteArray):=aw cfg 131 [.v (.list .str a0)]
noncomputable def Dm.a (x0 x3:List ByteArray) (x4:Int):Option (List ByteArray):=LA 131 Tryz.f131 [1,1,0,1,0] ⟨22,af [vL 0 .str x0,(3,.v (.own 416)),vI 4 x4],ai [(416,.rows 9 .str .no x3)]⟩
theorem NF (a0:List ByteArray):Dm a0=bif (decide (0≤(a0.length:Int))&&ay (Int.toNat (a0.length:Int)) 16)then Dm.a a0 (List.replicate (Int.toNat (a0.length:Int)) (⟨#[]⟩:ByteArray)) 0 else none:=
 (aa cfg 131 _).trans (by kernel_rfl)
theorem Dm.a_eq (x0 x3:List ByteArray) (x4:Int):Dm.a x0 x3 x4=bif (decide (x4< (x0.length:Int)))then(bif (aq x4 (x0.length))then(bif (aq x4 (x3.length))then Dm.a x0 (x3.set (Int.toNat x4) (rd (τ:= .str) x0 x4)) (IntKind.wrap .i64 (x4+1))else none)else none)else some x3:=
 (ak cfg 131 _ _ _).trans (by kernel_rfl)
noncomputable def Rh (a0:b9):Option b9:=aw cfg 82 [.agg [.list (.int .i64) a0.1,.list .str a0.2.1,.list (.int .i64) a0.2.2.1,.list .str a0.2.2.2]]
theorem NG (a0:b9):Rh a0=(AM a0.1).bind fun r1=>(Dm a0.2.1).bind fun r2=>(AM a0.2.2.1).bind fun r3=>(Dm a0.2.2.2).bind fun r4=>some (r1,r2,r3,r4):=
 (aa cfg 82 _).trans (by kernel_rfl)
noncomputable def Ri (a0:Int×Int):Option (Int×Int):=aw cfg 132 [.agg [.int .i64 a0.1,.int .i64 a0.2]]
theorem NH (a0:Int×Int):Ri a0=some a0:=
 (aa cfg 132 _).trans (by kernel_rfl)
noncomputable def Em (a0:List (Int×Int)):Option (List (Int×Int)):=aw cfg 83 [.v (.list Y5 a0)]
noncomputable def Em.a (x0 x3:List (Int×Int)) (x4:Int):Option (List (Int×Int)):=LA 83 Tryz.f83 [1,1,0,1,0] ⟨23,af [vL 0 Y5 x0,(3,.v (.own 416)),vI 4 x4],ai [(416,.rows 130 Y5 .no x3)]⟩
theorem NI (a0:List (Int×Int)):Em a0=bif (decide (0≤(a0.length:Int))&&ay (Int.toNat (a0.length:Int)) 16)then Em.a a0 (List.replicate (Int.toNat (a0.length:Int)) (0,0)) 0 else none:=
 (aa cfg 83 _).trans (by kernel_rfl)
theorem Em.a_eq (x0 x3:List (Int×Int)) (x4:Int):Em.a x0 x3 x4=bif (decide (x4< (x0.length:Int)))then(bif (aq x4 (x0.length))then((Ri (rd (τ:=Y5) x0 x4)).bind fun r1=>bif (aq x4 (x3.length))then Em.a x0 (x3.set (Int.toNat x4) r1) (IntKind.wrap .i64 (x4+1))else none)else none)else some x3:=
 (ak cfg 83 _ _ _).trans (by kernel_rfl)
noncomputable def Rj (a0:eu):Option eu:=aw cfg 39 [.agg [.str a0.1.1,.int .i64 a0.1.2.1,.list Y1 a0.1.2.2.1,.list (.pair .str .str) a0.1.2.2.2.1,.list Y2 a0.1.2.2.2.2.1,.list (.pair (.int .i64) .bool) a0.1.2.2.2.2.2,.list (.int .i64) a0.2.1.1,.list .str a0.2.1.2.1,.list (.int .i64) a0.2.1.2.2.1,.list .str a0.2.1.2.2.2,.list Y5 a0.2.2]]
theorem NJ (a0:eu):Rj a0=(Rg a0.1).bind fun r1=>(Rh a0.2.1).bind fun r2=>(Em a0.2.2).bind fun r3=>some (r1,r2,r3):=
 (aa cfg 39 _).trans (by kernel_rfl)
noncomputable def Eo (a0:List eu):Option (List eu):=aw cfg 16 [.v (.list Y6 a0)]
noncomputable def Eo.a (x0 x3:List eu) (x4:Int):Option (List eu):=LA 16 Tryz.f16 [1,1,0,1,0] ⟨23,af [vL 0 Y6 x0,(3,.v (.own 416)),vI 4 x4],ai [(416,.rows 103 Y6 (.pair (.pair .no (.pair .no (.pair (.own 156 .no) (.pair (.own 159 .no) (.pair (.own 161 .no) (.own 163 .no)))))) (.pair (.pair (.own 3 .no) (.pair (.own 9 .no) (.pair (.own 3 .no) (.own 9 .no)))) (.own 130 .no))) x3)]⟩
theorem NK (a0:List eu):Eo a0=bif (decide (0≤(a0.length:Int))&&ay (Int.toNat (a0.length:Int)) 240)then Eo.a a0 (List.replicate (Int.toNat (a0.length:Int)) (((⟨#[]⟩:ByteArray),0,[],[],[],[]),([],[],[],[]),[])) 0 else none:=
 (aa cfg 16 _).trans (by kernel_rfl)
theorem Eo.a_eq (x0 x3:List eu) (x4:Int):Eo.a x0 x3 x4=bif (decide (x4< (x0.length:Int)))then(bif (aq x4 (x0.length))then((Rj (rd (τ:=Y6) x0 x4)).bind fun r1=>bif (aq x4 (x3.length))then Eo.a x0 (x3.set (Int.toNat x4) r1) (IntKind.wrap .i64 (x4+1))else none)else none)else some x3:=
 (ak cfg 16 _ _ _).trans (by kernel_rfl)
noncomputable def I5 (a0:oz):Option oz:=aw cfg 6 [.agg [.str a0.1.1,.str a0.1.2.1,.list Y0 a0.1.2.2,.list au a0.2.1.1,.list Y8 a0.2.1.2.1,.list aL a0.2.1.2.2.1,.list Y9 a0.2.1.2.2.2,.list Y6 a0.2.2]]
theorem NL (a0:oz):I5 a0=(Q4 a0.1).bind fun r1=>(Rb a0.2.1).bind fun r2=>(Eo a0.2.2).bind fun r3=>some (r1,r2,r3):=
 (aa cfg 6 _).trans (by kernel_rfl)
noncomputable def Ep (a0 a1:List D0):Option Bool:=aw cfg 44 [.v (.list aL a0),.v (.list aL a1)]
noncomputable def Ep.a (x0 x1:List D0) (x12 x13:Int):Option Bool:=LA 44 Tryz.f44 [1,1,0,1,0] ⟨26,af [vL 0 aL x0,vL 1 aL x1,vI 12 x12,vI 13 x13],ai []⟩
theorem NM (a0 a1:List D0):Ep a0 a1=bif (!decide ((a0.length:Int)=(a1.length:Int)))then some false else Ep.a a0 a1 (a0.length:Int) 0:=
 (aa cfg 44 _).trans (by kernel_rfl)
theorem Ep.a_eq (x0 x1:List D0) (x12 x13:Int):Ep.a x0 x1 x12 x13=bif (decide (x13<x12))then(bif (aq x13 (x0.length))then(bif (aq x13 (x1.length))then(bif (!(d9 aL (rd (τ:=aL) x0 x13) (rd (τ:=aL) x1 x13)))then some false else Ep.a x0 x1 x12 (IntKind.wrap .i64 (x13+1)))else none)else none)else some true:=
 (ak cfg 44 _ _ _).trans (by kernel_rfl)
noncomputable def Dn (a0 a1:List Int):Option Bool:=aw cfg 90 [.v (.list (.int .i64) a0),.v (.list (.int .i64) a1)]
noncomputable def Dn.a (x0 x1:List Int) (x12 x13:Int):Option Bool:=LA 90 Tryz.f90 [1,1,0,1,0] ⟨26,af [vL 0 (.int .i64) x0,vL 1 (.int .i64) x1,vI 12 x12,vI 13 x13],ai []⟩
theorem NN (a0 a1:List Int):Dn a0 a1=bif (!decide ((a0.length:Int)=(a1.length:Int)))then some false else Dn.a a0 a1 (a0.length:Int) 0:=
 (aa cfg 90 _).trans (by kernel_rfl)
theorem Dn.a_eq (x0 x1:List Int) (x12 x13:Int):Dn.a x0 x1 x12 x13=bif (decide (x13<x12))then(bif (aq x13 (x0.length))then(bif (aq x13 (x1.length))then(bif (!decide ((rd (τ:=(.int .i64)) x0 x13)=(rd (τ:=(.int .i64)) x1 x13)))then some false else Dn.a x0 x1 x12 (IntKind.wrap .i64 (x13+1)))else none)else none)else some true:=
 (ak cfg 90 _ _ _).trans (by kernel_rfl)
noncomputable def Er (a0 a1:List ByteArray):Option Bool:=aw cfg 95 [.v (.list .str a0),.v (.list .str a1)]
noncomputable def Er.a (x0 x1:List ByteArray) (x12 x13:Int):Option Bool:=LA 95 Tryz.f95 [1,1,0,1,0] ⟨26,af [vL 0 .str x0,vL 1 .str x1,vI 12 x12,vI 13 x13],ai []⟩
theorem NO (a0 a1:List ByteArray):Er a0 a1=bif (!decide ((a0.length:Int)=(a1.length:Int)))then some false else Er.a a0 a1 (a0.length:Int) 0:=
 (aa cfg 95 _).trans (by kernel_rfl)
theorem Er.a_eq (x0 x1:List ByteArray) (x12 x13:Int):Er.a x0 x1 x12 x13=bif (decide (x13<x12))then(bif (aq x13 (x0.length))then(bif (aq x13 (x1.length))then(bif (!bh (rd (τ:= .str) x0 x13) (rd (τ:= .str) x1 x13))then some false else Er.a x0 x1 x12 (IntKind.wrap .i64 (x13+1)))else none)else none)else some true:=
 (ak cfg 95 _ _ _).trans (by kernel_rfl)
noncomputable def Qn (a0 a1:b9):Option Bool:=aw cfg 49 [.agg [.list (.int .i64) a0.1,.list .str a0.2.1,.list (.int .i64) a0.2.2.1,.list .str a0.2.2.2],.agg [.list (.int .i64) a1.1,.list .str a1.2.1,.list (.int .i64) a1.2.2.1,.list .str a1.2.2.2]]
theorem NP (a0 a1:b9):Qn a0 a1=(Dn a0.1 a1.1).bind fun r1=>bif r1 then((Er a0.2.1 a1.2.1).bind fun r2=>bif r2 then((Dn a0.2.2.1 a1.2.2.1).bind fun r3=>bif r3 then((Er a0.2.2.2 a1.2.2.2).bind fun r4=>some r4)else some false)else some false)else some false:=
 (aa cfg 49 _).trans (by kernel_rfl)
noncomputable def Do (a0 a1:List (Int×Int)):Option Bool:=aw cfg 50 [.v (.list Y5 a0),.v (.list Y5 a1)]
noncomputable def Do.a (x0 x1:List (Int×Int)) (x12 x13:Int):Option Bool:=LA 50 Tryz.f50 [1,1,0,1,0] ⟨26,af [vL 0 Y5 x0,vL 1 Y5 x1,vI 12 x12,vI 13 x13],ai []⟩
theorem NQ (a0 a1:List (Int×Int)):Do a0 a1=bif (!decide ((a0.length:Int)=(a1.length:Int)))then some false else Do.a a0 a1 (a0.length:Int) 0:=
 (aa cfg 50 _).trans (by kernel_rfl)
theorem Do.a_eq (x0 x1:List (Int×Int)) (x12 x13:Int):Do.a x0 x1 x12 x13=bif (decide (x13<x12))then(bif (aq x13 (x0.length))then(bif (aq x13 (x1.length))then(bif (!(d9 Y5 (rd (τ:=Y5) x0 x13) (rd (τ:=Y5) x1 x13)))then some false else Do.a x0 x1 x12 (IntKind.wrap .i64 (x13+1)))else none)else none)else some true:=
 (ak cfg 50 _ _ _).trans (by kernel_rfl)
noncomputable def gA (a0 a1 a2:Int):Option Bool:=aw cfg 198 [.v (.int .i64 a0),.v (.int .i64 a1),.v (.int .i64 a2)]
theorem zJ (a0 a1 a2:Int):gA a0 a1 a2=bif (decide (a1≤a0))then some (decide (a0≤a2))else some false:=
 (aa cfg 198 _).trans (by kernel_rfl)
noncomputable def Qo (a0:Int):Option Bool:=aw cfg 284 [.v (.int .u8 a0)]
theorem Hn (a0:Int):Qo a0=bif (decide (a0≥97))then(bif (decide (a0≤122))then some true else(bif (decide (a0≥65))then(bif (decide (a0≤90))then some true else some (decide (a0=95)))else some (decide (a0=95))))else(bif (decide (a0≥65))then(bif (decide (a0≤90))then some true else some (decide (a0=95)))else some (decide (a0=95))):=
 (aa cfg 284 _).trans (by kernel_rfl)
noncomputable def Rk (a0:Int):Option Bool:=aw cfg 285 [.v (.int .u8 a0)]
theorem Ho (a0:Int):Rk a0=bif (decide (a0≥48))then some (decide (a0≤57))else some false:=
 (aa cfg 285 _).trans (by kernel_rfl)
noncomputable def oX (a0:ByteArray):Option Bool:=aw cfg 233 [.v (.str a0)]
noncomputable def oX.a (x0:ByteArray) (x3:Int):Option Bool:=LA 233 Tryz.f233 [1,1,0,1,0] ⟨32,af [(0,.v (.str x0)),vI 3 x3],ai []⟩
theorem Hp (a0:ByteArray):oX a0=(gA (a0.size:Int) 1 20).bind fun r1=>bif (!r1)then some false else(bif (aq 0 a0.size)then((Qo (bt a0 0)).bind fun r2=>bif (!r2)then some false else oX.a a0 1)else none):=
 (aa cfg 233 _).trans (by kernel_rfl)
theorem oX.a_eq (x0:ByteArray) (x3:Int):oX.a x0 x3=bif (decide (x3< (x0.size:Int)))then(bif (aq x3 x0.size)then((Qo (bt x0 x3)).bind fun r5=>bif (!r5)then(bif (aq x3 x0.size)then((Rk (bt x0 x3)).bind fun r6=>bif (!r6)then some false else oX.a x0 (IntKind.wrap .i64 (x3+1)))else none)else oX.a x0 (IntKind.wrap .i64 (x3+1)))else none)else some true:=
 (ak cfg 233 _ _ _).trans (by kernel_rfl)
noncomputable def Es (a0:D3) (a1:Int) (a2:Int×Int):Option (Int×Int×Int):=aw cfg 227 [.agg [.str a0.1,.str a0.2.1,.list Y0 a0.2.2],.v (.int .i64 a1),.agg [.int .i64 a2.1,.int .i64 a2.2]]
noncomputable def Es.a (x2:Int×Int) (x3:D3) (x7:D2) (x22:List D2) (x23 x24:Int):Option (Int×Int×Int):=LA 227 Tryz.f227 [1,1,1,0,1,0] ⟨113,af [vP 2 383,vP 3 447,vP 7 959,vL 22 Y0 x22,vI 23 x23,vI 24 x24],ai [(383,.box [.int .i64 x2.1,.int .i64 x2.2]),(447,.box [.str x3.1,.str x3.2.1,.list Y0 x3.2.2]),(959,.box [.str x7.1,.int .i64 x7.2.1,.int .i64 x7.2.2.1,.int .i64 x7.2.2.2.1,.int .i64 x7.2.2.2.2])]⟩
theorem NR (a0:D3) (a1:Int) (a2:Int×Int):Es a0 a1 a2=bif (aq a1 (a0.2.2.length))then((oX ((rd (τ:=Y0) a0.2.2 a1).1)).bind fun r1=>bif (!r1)then some (3,a2)else(bif (decide (0≤0)&&decide (0≤a1)&&decide (a1≤(a0.2.2.length:Int)))then Es.a a2 a0 (rd (τ:=Y0) a0.2.2 a1) ((a0.2.2.take (Int.toNat a1)).drop (Int.toNat 0)) (((a0.2.2.take (Int.toNat a1)).drop (Int.toNat 0)).length:Int) 0 else none))else none:=
 (aa cfg 227 _).trans (by kernel_rfl)
theorem Es.a_eq (x2:Int×Int) (x3:D3) (x7:D2) (x22:List D2) (x23 x24:Int):Es.a x2 x3 x7 x22 x23 x24=bif (decide (x24<x23))then(bif (aq x24 (x22.length))then(bif (bh ((rd (τ:=Y0) x22 x24).1) x7.1)then some (24,x2)else Es.a x2 x3 x7 x22 x23 (IntKind.wrap .i64 (x24+1)))else none)else(bif (decide (x7.2.1=1))then(bif (!decide (x7.2.2.1=x2.1))then some (4,x2)else((gA x7.2.2.2.1 1 (IntKind.wrap .i64 ((x3.1.size:Int)-x7.2.2.1))).bind fun r2=>bif (!r2)then some (4,x2)else some (0,(IntKind.wrap .i64 (x7.2.2.1+x7.2.2.2.1)),x2.2)))else(bif (decide (x7.2.1=2))then(aA (fun kr13=>(gA x7.2.2.1 x2.2 (x3.2.1.size:Int)).bind fun r5=>bif (!r5)then kr13 true else(bif (!decide ((x7.2.2.1.tmod 8)=0))then kr13 true else(bif (!decide ((x7.2.2.2.1.tmod 8)=0))then kr13 true else((gA x7.2.2.2.1 1 (IntKind.wrap .i64 ((x3.2.1.size:Int)-x7.2.2.1))).bind fun r6=>kr13 (!r6))))) fun(r12:Bool)=>bif r12 then some (4,x2)else(bif (!decide (x7.2.2.2.2=0))then some (17,x2.1,(IntKind.wrap .i64 (x7.2.2.1+x7.2.2.2.1)))else some (0,x2.1,(IntKind.wrap .i64 (x7.2.2.1+x7.2.2.2.1)))))else some (26,x2))):=
 (ak cfg 227 _ _ _).trans (by kernel_rfl)
noncomputable def NS (a0:D2):Option Int:=aw cfg 230 [.agg [.str a0.1,.int .i64 a0.2.1,.int .i64 a0.2.2.1,.int .i64 a0.2.2.2.1,.int .i64 a0.2.2.2.2]]
theorem zK (a0:D2):NS a0=bif (decide (a0.2.1=1))then some (IntKind.wrap .i64 (4096+a0.2.2.1))else some (IntKind.wrap .i64 (16384+a0.2.2.1)):=
 (aa cfg 230 _).trans (by kernel_rfl)
noncomputable def Et (a0:D3):Option (List Int):=aw cfg 228 [.agg [.str a0.1,.str a0.2.1,.list Y0 a0.2.2]]
noncomputable def Et.a (x3:List Int) (x7:List D2) (x8 x9:Int):Option (List Int):=LA 228 Tryz.f228 [1,1,0,1,0] ⟨23,af [(3,.v (.own 416)),vL 7 Y0 x7,vI 8 x8,vI 9 x9],ai [(416,.rows 3 (.int .i64) .no x3)]⟩
theorem NT (a0:D3):Et a0=Et.a [] a0.2.2 (a0.2.2.length:Int) 0:=
 (aa cfg 228 _).trans (by kernel_rfl)
theorem Et.a_eq (x3:List Int) (x7:List D2) (x8 x9:Int):Et.a x3 x7 x8 x9=bif (decide (x9<x8))then(bif (aq x9 (x7.length))then(bif (decide ((rd (τ:=Y0) x7 x9).2.1=1))then((NS (rd (τ:=Y0) x7 x9)).bind fun r1=>bif (ay ((x3.length)+([r1].length)) 8)then Et.a (x3++[r1]) x7 x8 (IntKind.wrap .i64 (x9+1))else none)else Et.a x3 x7 x8 (IntKind.wrap .i64 (x9+1)))else none)else some x3:=
 (ak cfg 228 _ _ _).trans (by kernel_rfl)
noncomputable def Qp (a0:Int):Option Bool:=aw cfg 235 [.v (.int .i64 a0)]
theorem NU (a0:Int):Qp a0=(gA a0 16 128).bind fun r1=>bif r1 then some (decide ((a0.tmod 16)=0))else some false:=
 (aa cfg 235 _).trans (by kernel_rfl)
noncomputable def Si (a0:ByteArray):Option Bool:=aw cfg 288 [.v (.str a0)]
theorem NV (a0:ByteArray):Si a0=bif (decide (((a0.size:Int).tmod 4)=0))then some (decide ((a0.size:Int)≤256))else some false:=
 (aa cfg 288 _).trans (by kernel_rfl)
noncomputable def Rl (a0:ByteArray):Option Bool:=aw cfg 236 [.v (.str a0)]
theorem NW (a0:ByteArray):Rl a0=(Si a0).bind fun r1=>bif r1 then some (decide ((a0.size:Int)≥20))else some false:=
 (aa cfg 236 _).trans (by kernel_rfl)
noncomputable def Rm (a0:Int):Option Bool:=aw cfg 254 [.v (.int .i64 a0)]
theorem NX (a0:Int):Rm a0=(gA a0 0 1048575).bind fun r1=>bif r1 then some (decide ((a0.tmod 4)=0))else some false:=
 (aa cfg 254 _).trans (by kernel_rfl)
noncomputable def AN (a0:ByteArray):Option Int:=aw cfg 250 [.v (.str a0)]
noncomputable def AN.a (x0:ByteArray) (x3 x4:Int):Option Int:=LA 250 Tryz.f250 [1,1,0,1,0] ⟨20,af [(0,.v (.str x0)),vI 3 x3,vI 4 x4],ai []⟩
theorem NY (a0:ByteArray):AN a0=AN.a a0 0 (IntKind.wrap .i64 ((a0.size:Int)-1)):=
 (aa cfg 250 _).trans (by kernel_rfl)
theorem AN.a_eq (x0:ByteArray) (x3 x4:Int):AN.a x0 x3 x4=bif (decide (x4≥0))then(bif (aq x4 x0.size)then AN.a x0 (ig .i64 (cJ .i64 x3 8) (IntKind.wrap .i64 ((bt x0 x4)))) (IntKind.wrap .i64 (x4-1))else none)else some x3:=
 (ak cfg 250 _ _ _).trans (by kernel_rfl)
noncomputable def Rn:Option (List D2):=aw cfg 329 []
theorem Hq:Rn=some [((⟨#[]⟩:ByteArray),0,0,0,0),((⟨#[108,117,105]⟩:ByteArray),1,55,0,0),((⟨#[97,117,105,112,99]⟩:ByteArray),1,23,0,0),((⟨#[106,97,108]⟩:ByteArray),2,111,0,0),((⟨#[106,97,108,114]⟩:ByteArray),3,103,0,0),((⟨#[98,101,113]⟩:ByteArray),4,99,0,0),((⟨#[98,110,101]⟩:ByteArray),4,99,1,0),((⟨#[98,108,116]⟩:ByteArray),4,99,4,0),((⟨#[98,103,101]⟩:ByteArray),4,99,5,0),((⟨#[98,108,116,117]⟩:ByteArray),4,99,6,0),((⟨#[98,103,101,117]⟩:ByteArray),4,99,7,0),((⟨#[108,98]⟩:ByteArray),3,3,0,0),((⟨#[108,104]⟩:ByteArray),3,3,1,0),((⟨#[108,119]⟩:ByteArray),3,3,2,0),((⟨#[108,100]⟩:ByteArray),3,3,3,0),((⟨#[108,98,117]⟩:ByteArray),3,3,4,0),((⟨#[108,104,117]⟩:ByteArray),3,3,5,0),((⟨#[108,119,117]⟩:ByteArray),3,3,6,0),((⟨#[115,98]⟩:ByteArray),5,35,0,0),((⟨#[115,104]⟩:ByteArray),5,35,1,0),((⟨#[115,119]⟩:ByteArray),5,35,2,0),((⟨#[115,100]⟩:ByteArray),5,35,3,0),((⟨#[97,100,100,105]⟩:ByteArray),3,19,0,0),((⟨#[115,108,116,105]⟩:ByteArray),3,19,2,0),((⟨#[115,108,116,105,117]⟩:ByteArray),3,19,3,0),((⟨#[120,111,114,105]⟩:ByteArray),3,19,4,0),((⟨#[111,114,105]⟩:ByteArray),3,19,6,0),((⟨#[97,110,100,105]⟩:ByteArray),3,19,7,0),((⟨#[115,108,108,105]⟩:ByteArray),6,19,1,0),((⟨#[115,114,108,105]⟩:ByteArray),6,19,5,0),((⟨#[115,114,97,105]⟩:ByteArray),6,19,5,32),((⟨#[97,100,100]⟩:ByteArray),8,51,0,0),((⟨#[115,117,98]⟩:ByteArray),8,51,0,32),((⟨#[115,108,108]⟩:ByteArray),8,51,1,0),((⟨#[115,108,116]⟩:ByteArray),8,51,2,0),((⟨#[115,108,116,117]⟩:ByteArray),8,51,3,0),((⟨#[120,111,114]⟩:ByteArray),8,51,4,0),((⟨#[115,114,108]⟩:ByteArray),8,51,5,0),((⟨#[115,114,97]⟩:ByteArray),8,51,5,32),((⟨#[111,114]⟩:ByteArray),8,51,6,0),((⟨#[97,110,100]⟩:ByteArray),8,51,7,0),((⟨#[97,100,100,105,119]⟩:ByteArray),3,27,0,0),((⟨#[115,108,108,105,119]⟩:ByteArray),7,27,1,0),((⟨#[115,114,108,105,119]⟩:ByteArray),7,27,5,0),((⟨#[115,114,97,105,119]⟩:ByteArray),7,27,5,32),((⟨#[97,100,100,119]⟩:ByteArray),8,59,0,0),((⟨#[115,117,98,119]⟩:ByteArray),8,59,0,32),((⟨#[115,108,108,119]⟩:ByteArray),8,59,1,0),((⟨#[115,114,108,119]⟩:ByteArray),8,59,5,0),((⟨#[115,114,97,119]⟩:ByteArray),8,59,5,32),((⟨#[109,117,108]⟩:ByteArray),8,51,0,1),((⟨#[109,117,108,104]⟩:ByteArray),8,51,1,1),((⟨#[109,117,108,104,115,117]⟩:ByteArray),8,51,2,1),((⟨#[109,117,108,104,117]⟩:ByteArray),8,51,3,1),((⟨#[100,105,118]⟩:ByteArray),8,51,4,1),((⟨#[100,105,118,117]⟩:ByteArray),8,51,5,1),((⟨#[114,101,109]⟩:ByteArray),8,51,6,1),((⟨#[114,101,109,117]⟩:ByteArray),8,51,7,1),((⟨#[109,117,108,119]⟩:ByteArray),8,59,0,1),((⟨#[100,105,118,119]⟩:ByteArray),8,59,4,1),((⟨#[100,105,118,117,119]⟩:ByteArray),8,59,5,1),((⟨#[114,101,109,119]⟩:ByteArray),8,59,6,1),((⟨#[114,101,109,117,119]⟩:ByteArray),8,59,7,1),((⟨#[101,99,97,108,108]⟩:ByteArray),9,115,0,0),((⟨#[101,98,114,101,97,107]⟩:ByteArray),9,115,0,1)]:=
 (aa cfg 329 _).trans (by kernel_rfl)
noncomputable def Qq (a0:Int):Option Pk:=aw cfg 296 [.v (.int .i64 a0)]
theorem NZ (a0:Int):Qq a0=(Rn).bind fun r1=>bif (aq a0 (r1.length))then some ((rd (τ:=Y0) r1 a0).2)else none:=
 (aa cfg 296 _).trans (by kernel_rfl)
noncomputable def Ro (a0:Int):Option (List (Int×Int×Int)):=aw cfg 297 [.v (.int .i64 a0)]
theorem N0 (a0:Int):Ro a0=bif (decide (a0=1))then some [(12,20,12)]else(bif (decide (a0=2))then some [(12,8,12),(11,1,20),(1,10,21),(20,1,31)]else(bif (decide (a0=3))then some [(0,12,20)]else(bif (decide (a0=4))then some [(11,1,7),(1,4,8),(5,6,25),(12,1,31)]else(bif (decide (a0=5))then some [(0,5,7),(5,7,25)]else(bif (decide (a0=6))then some [(0,6,20)]else(bif (decide (a0=7))then some [(0,5,20)]else some [])))))):=
 (aa cfg 297 _).trans (by kernel_rfl)
noncomputable def Hr (a0 a1 a2:Int):Option Int:=aw cfg 298 [.v (.int .i64 a0),.v (.int .i64 a1),.v (.int .i64 a2)]
theorem N1 (a0 a1 a2:Int):Hr a0 a1 a2=bif (decide (a1<0))then none else(bif (decide (a2<0))then none else some (andI .i64 (lZ .i64 a0 a1) (IntKind.wrap .i64 ((cJ .i64 1 a2)-1)))):=
 (aa cfg 298 _).trans (by kernel_rfl)
noncomputable def Rp (a0:Int):Option S0:=aw cfg 299 [.v (.int .i64 a0)]
theorem N2 (a0:Int):Rp a0=aA (fun kr8=>bif (decide (a0=1))then kr8 (decide (a0=1))else kr8 (decide (a0=2))) fun(r1:Bool)=>bif r1 then some (true,false,false)else(aA (fun kr6=>bif (decide (a0=3))then kr6 (decide (a0=3))else(bif (decide (a0=6))then kr6 (decide (a0=6))else kr6 (decide (a0=7)))) fun(r3:Bool)=>bif r3 then some (true,true,false)else(bif (decide (a0=4))then(bif (decide (a0=4))then some (false,true,true)else(bif (decide (a0=8))then some (true,true,true)else some (false,false,false)))else(bif (decide (a0=5))then some (false,true,true)else(bif (decide (a0=8))then some (true,true,true)else some (false,false,false))))):=
 (aa cfg 299 _).trans (by kernel_rfl)
noncomputable def xB (a0:cG):Option Int:=aw cfg 253 [.agg [.int .i64 a0.1,.int .i64 a0.2.1,.int .i64 a0.2.2.1,.int .i64 a0.2.2.2.1,.int .i64 a0.2.2.2.2]]
noncomputable def xB.a (x1:cG) (x3:Pk) (x4:Int) (x17:List (Int×Int×Int)) (x18 x19:Int):Option Int:=LA 253 Tryz.f253 [1,1,1,0,1,0] ⟨91,af [vP 1 191,vP 3 447,vI 4 x4,(17,.v (.own 2208)),vI 18 x18,vI 19 x19],ai [(191,.box [.int .i64 x1.1,.int .i64 x1.2.1,.int .i64 x1.2.2.1,.int .i64 x1.2.2.2.1,.int .i64 x1.2.2.2.2]),(447,.box [.int .i64 x3.1,.int .i64 x3.2.1,.int .i64 x3.2.2.1,.int .i64 x3.2.2.2]),(2208,.rows 350 Y9 .no x17)]⟩
theorem N3 (a0:cG):xB a0=(Qq a0.1).bind fun r1=>(Ro r1.1).bind fun r2=>xB.a a0 r1 r1.2.1 r2 (r2.length:Int) 0:=
 (aa cfg 253 _).trans (by kernel_rfl)
theorem xB.a_eq (x1:cG) (x3:Pk) (x4:Int) (x17:List (Int×Int×Int)) (x18 x19:Int):xB.a x1 x3 x4 x17 x18 x19=bif (decide (x19<x18))then(bif (aq x19 (x17.length))then((Hr x1.2.2.2.2 ((rd (τ:=Y9) x17 x19).1) ((rd (τ:=Y9) x17 x19).2.1)).bind fun r19=>bif (decide ((rd (τ:=Y9) x17 x19).2.2<0))then none else xB.a x1 x3 (ig .i64 x4 (cJ .i64 r19 ((rd (τ:=Y9) x17 x19).2.2))) x17 x18 (IntKind.wrap .i64 (x19+1)))else none)else((Rp x3.1).bind fun r3=>aA (fun kr18=>bif r3.1 then kr18 (ig .i64 x4 (cJ .i64 x1.2.1 7))else kr18 x4) fun(r4:Int)=>aA (fun kr17=>bif r3.2.1 then kr17 (ig .i64 r4 (ig .i64 (cJ .i64 x1.2.2.1 15) (cJ .i64 x3.2.2.1 12)))else kr17 r4) fun(r5:Int)=>aA (fun kr16=>bif r3.2.2 then kr16 (ig .i64 r5 (cJ .i64 x1.2.2.2.1 20))else kr16 r5) fun(r6:Int)=>bif (decide (x3.1=6))then some (ig .i64 r6 (cJ .i64 (lZ .i64 x3.2.2.2 1) 26))else(bif (decide (x3.1=7))then(bif (decide (x3.1=7))then some (ig .i64 r6 (cJ .i64 x3.2.2.2 25))else(bif (decide (x3.1=9))then some (ig .i64 r6 (cJ .i64 x3.2.2.2 20))else some r6))else(bif (decide (x3.1=8))then some (ig .i64 r6 (cJ .i64 x3.2.2.2 25))else(bif (decide (x3.1=9))then some (ig .i64 r6 (cJ .i64 x3.2.2.2 20))else some r6)))):=
 (ak cfg 253 _ _ _).trans (by kernel_rfl)
noncomputable def Sj (a0:Int):Option Int:=aw cfg 332 [.v (.int .i64 a0)]
theorem N4 (a0:Int):Sj a0=bif (decide (a0=1))then some 32 else(bif (decide (a0=2))then some 21 else(bif (decide (a0=3))then(bif (decide (a0=3))then some 12 else(bif (decide (a0=4))then some 13 else some 0))else(bif (decide (a0=5))then some 12 else(bif (decide (a0=4))then some 13 else some 0)))):=
 (aa cfg 332 _).trans (by kernel_rfl)
noncomputable def Rq (a0 a1:Int):Option Int:=aw cfg 333 [.v (.int .i64 a0),.v (.int .i64 a1)]
theorem N5 (a0 a1:Int):Rq a0 a1=bif (decide ((IntKind.wrap .i64 (64-a1))<0))then none else(bif (decide ((IntKind.wrap .i64 (64-a1))<0))then none else some (lZ .i64 (cJ .i64 a0 (IntKind.wrap .i64 (64-a1))) (IntKind.wrap .i64 (64-a1)))):=
 (aa cfg 333 _).trans (by kernel_rfl)
noncomputable def mH (a0:Int):Option (cG×Bool):=aw cfg 309 [.v (.int .i64 a0)]
noncomputable def mH.a (x0:Int) (x2:cG) (x14:List D2) (x15 x16:Int):Option (cG×Bool):=LA 309 Tryz.f309 [1,0,1,0] ⟨92,af [vI 0 x0,vP 2 319,(14,.v (.own 1824)),vI 15 x15,vI 16 x16],ai [(319,.box [.int .i64 x2.1,.int .i64 x2.2.1,.int .i64 x2.2.2.1,.int .i64 x2.2.2.2.1,.int .i64 x2.2.2.2.2]),(1824,.rows 375 Y0 .no x14)]⟩
noncomputable def mH.b (x0:Int) (x2:cG) (x6:Pk) (x7:cG) (x14:List D2) (x15 x16:Int) (x36:List (Int×Int×Int)) (x37 x38:Int):Option (cG×Bool):=LA 309 Tryz.f309 [1,0,1,0,0,1,1,0,0,1,1,1,1,0,1,0] ⟨92,af [vI 0 x0,vP 2 319,vP 6 831,vP 7 959,(14,.v (.own 1824)),vI 15 x15,vI 16 x16,(36,.v (.own 4640)),vI 37 x37,vI 38 x38],ai [(319,.box [.int .i64 x2.1,.int .i64 x2.2.1,.int .i64 x2.2.2.1,.int .i64 x2.2.2.2.1,.int .i64 x2.2.2.2.2]),(831,.box [.int .i64 x6.1,.int .i64 x6.2.1,.int .i64 x6.2.2.1,.int .i64 x6.2.2.2]),(959,.box [.int .i64 x7.1,.int .i64 x7.2.1,.int .i64 x7.2.2.1,.int .i64 x7.2.2.2.1,.int .i64 x7.2.2.2.2]),(1824,.rows 375 Y0 .no x14),(4640,.rows 350 Y9 .no x36)]⟩
theorem N6 (a0:Int):mH a0=(Rn).bind fun r1=>mH.a a0 (0,0,0,0,0) r1 (r1.length:Int) 0:=
 (aa cfg 309 _).trans (by kernel_rfl)
theorem mH.a_eq (x0:Int) (x2:cG) (x14:List D2) (x15 x16:Int):mH.a x0 x2 x14 x15 x16=bif (decide (x16<x15))then(bif (aq x16 (x14.length))then(aA (fun kr6=>bif (decide (x16=0))then kr6 true else((Hr x0 0 7).bind fun r2=>kr6 (!decide ((rd (τ:=Y0) x14 x16).2.2.1=r2)))) fun(r4:Bool)=>bif r4 then mH.a x0 x2 x14 x15 (IntKind.wrap .i64 (x16+1))else((Ro ((rd (τ:=Y0) x14 x16).2.1)).bind fun r5=>mH.b x0 x2 ((rd (τ:=Y0) x14 x16).2) (x16,0,0,0,0) x14 x15 x16 r5 (r5.length:Int) 0))else none)else some ((0,0,0,0,0),false):=
 (ak cfg 309 _ _ _).trans (by kernel_rfl)
theorem mH.b_eq (x0:Int) (x2:cG) (x6:Pk) (x7:cG) (x14:List D2) (x15 x16:Int) (x36:List (Int×Int×Int)) (x37 x38:Int):mH.b x0 x2 x6 x7 x14 x15 x16 x36 x37 x38=bif (decide (x38<x37))then(bif (aq x38 (x36.length))then((Hr x0 ((rd (τ:=Y9) x36 x38).2.2) ((rd (τ:=Y9) x36 x38).2.1)).bind fun r22=>bif (decide ((rd (τ:=Y9) x36 x38).1<0))then none else mH.b x0 x2 x6 (x7.1,x7.2.1,x7.2.2.1,x7.2.2.2.1,(ig .i64 x7.2.2.2.2 (cJ .i64 r22 ((rd (τ:=Y9) x36 x38).1)))) x14 x15 x16 x36 x37 (IntKind.wrap .i64 (x38+1)))else none)else((Sj x6.1).bind fun r7=>aA (fun kr21=>bif (decide (r7>0))then((Rq x7.2.2.2.2 r7).bind fun r8=>kr21 r8)else kr21 x7.2.2.2.2) fun(r9:Int)=>(Rp x6.1).bind fun r10=>aA (fun kr20=>bif r10.1 then((Hr x0 7 5).bind fun r11=>kr20 r11)else kr20 x7.2.1) fun(r12:Int)=>aA (fun kr19=>bif r10.2.1 then((Hr x0 15 5).bind fun r13=>kr19 r13)else kr19 x7.2.2.1) fun(r14:Int)=>aA (fun kr18=>bif r10.2.2 then((Hr x0 20 5).bind fun r15=>kr18 r15)else kr18 x7.2.2.2.1) fun(r16:Int)=>(xB (x7.1,r12,r14,r16,r9)).bind fun r17=>bif (decide (r17=x0))then some ((x7.1,r12,r14,r16,r9),true)else mH.a x0 x2 x14 x15 (IntKind.wrap .i64 (x16+1))):=
 (ak cfg 309 _ _ _).trans (by kernel_rfl)
noncomputable def Dp (a0:ByteArray):Option SX:=aw cfg 277 [.v (.str a0)]
noncomputable def Dp.a (x0:ByteArray) (x5:List cG) (x6:Int):Option SX:=LA 277 Tryz.f277 [1,1,0,1,0] ⟨34,af [(0,.v (.str x0)),(5,.v (.own 672)),vI 6 x6],ai [(672,.rows 283 bg .no x5)]⟩
theorem Hs (a0:ByteArray):Dp a0=Dp.a a0 [] 0:=
 (aa cfg 277 _).trans (by kernel_rfl)
theorem Dp.a_eq (x0:ByteArray) (x5:List cG) (x6:Int):Dp.a x0 x5 x6=bif (decide (x6< (x0.size:Int)))then(bif (decide (0≤x6)&&decide (x6≤(IntKind.wrap .i64 (x6+4)))&&decide ((IntKind.wrap .i64 (x6+4))≤(x0.size:Int)))then((AN (x0.extract (Int.toNat x6) (Int.toNat (IntKind.wrap .i64 (x6+4))))).bind fun r1=>(mH r1).bind fun r2=>bif (!r2.2)then some ([],(IntKind.wrap .i64 (x6.tdiv 4)),false)else(bif (ay ((x5.length)+([r2.1].length)) 40)then Dp.a x0 (x5++[r2.1]) (IntKind.wrap .i64 (x6+4))else none))else none)else some (x5,0,true):=
 (ak cfg 277 _ _ _).trans (by kernel_rfl)
noncomputable def SN (a0:Int):Option (List cG):=aw cfg 278 [.v (.int .i64 a0)]
theorem N7 (a0:Int):SN a0=some [(22,2,2,0,(IntKind.wrap .i64 (0-a0))),(21,0,2,1,(IntKind.wrap .i64 (a0-8)))]:=
 (aa cfg 278 _).trans (by kernel_rfl)
noncomputable def Ht (a0 a1:List cG):Option Bool:=aw cfg 279 [.v (.list bg a0),.v (.list bg a1)]
noncomputable def Ht.a (x0 x1:List cG) (x12 x13:Int):Option Bool:=LA 279 Tryz.f279 [1,1,0,1,0] ⟨26,af [vL 0 bg x0,vL 1 bg x1,vI 12 x12,vI 13 x13],ai []⟩
theorem N8 (a0 a1:List cG):Ht a0 a1=bif (!decide ((a0.length:Int)=(a1.length:Int)))then some false else Ht.a a0 a1 (a0.length:Int) 0:=
 (aa cfg 279 _).trans (by kernel_rfl)
theorem Ht.a_eq (x0 x1:List cG) (x12 x13:Int):Ht.a x0 x1 x12 x13=bif (decide (x13<x12))then(bif (aq x13 (x0.length))then(bif (aq x13 (x1.length))then(bif (!(d9 bg (rd (τ:=bg) x0 x13) (rd (τ:=bg) x1 x13)))then some false else Ht.a x0 x1 x12 (IntKind.wrap .i64 (x13+1)))else none)else none)else some true:=
 (ak cfg 279 _ _ _).trans (by kernel_rfl)
noncomputable def Sk (a0:Int):Option (List cG):=aw cfg 280 [.v (.int .i64 a0)]
theorem N9 (a0:Int):Sk a0=some [(14,1,2,0,(IntKind.wrap .i64 (a0-8))),(22,2,2,0,a0),(4,0,1,0,0)]:=
 (aa cfg 280 _).trans (by kernel_rfl)
noncomputable def Hy (a0:List Int) (a1:Int):Option Int:=aw cfg 334 [.v (.list (.int .i64) a0),.v (.int .i64 a1)]
noncomputable def Hy.a (x0:List Int) (x1 x7 x8:Int):Option Int:=LA 334 Tryz.f334 [1,0,1,0] ⟨19,af [vL 0 (.int .i64) x0,vI 1 x1,vI 7 x7,vI 8 x8],ai []⟩
theorem Oa (a0:List Int) (a1:Int):Hy a0 a1=Hy.a a0 a1 (a0.length:Int) 0:=
 (aa cfg 334 _).trans (by kernel_rfl)
theorem Hy.a_eq (x0:List Int) (x1 x7 x8:Int):Hy.a x0 x1 x7 x8=bif (decide (x8<x7))then(bif (aq x8 (x0.length))then(bif (decide (x1=(rd (τ:=(.int .i64)) x0 x8)))then some x8 else Hy.a x0 x1 x7 (IntKind.wrap .i64 (x8+1)))else none)else some (-1):=
 (ak cfg 334 _ _ _).trans (by kernel_rfl)
noncomputable def Sl (a0:List Int) (a1:Int):Option Bool:=aw cfg 310 [.v (.list (.int .i64) a0),.v (.int .i64 a1)]
theorem Ob (a0:List Int) (a1:Int):Sl a0 a1=(Hy a0 a1).bind fun r1=>some (decide (r1≥0)):=
 (aa cfg 310 _).trans (by kernel_rfl)
noncomputable def Rr (a0:Jw) (a1:Int):Option Bool:=aw cfg 311 [.v (.cptr O2 a0 0),.v (.int .i64 a1)]
theorem Oc (a0:Jw) (a1:Int):Rr a0 a1=bif (aq a1 (a0.1.length))then(bif (decide ((((rd (τ:=bg) a0.1 a1).2.2.2.2).tmod 4)=0))then((gA (IntKind.wrap .i64 (a1+(IntKind.wrap .i64 (((rd (τ:=bg) a0.1 a1).2.2.2.2).tdiv 4)))) 2 (IntKind.wrap .i64 ((a0.1.length:Int)-1))).bind fun r1=>bif r1 then(bif (aq (IntKind.wrap .i64 (a1+(IntKind.wrap .i64 (((rd (τ:=bg) a0.1 a1).2.2.2.2).tdiv 4)))) (a0.2.2.2.2.length))then some (decide ((rd (τ:=(.int .i64)) a0.2.2.2.2 (IntKind.wrap .i64 (a1+(IntKind.wrap .i64 (((rd (τ:=bg) a0.1 a1).2.2.2.2).tdiv 4)))))<2))else none)else some false)else some false)else none:=
 (aa cfg 311 _).trans (by kernel_rfl)
noncomputable def Rs (a0:Int):Option Bool:=aw cfg 312 [.v (.int .i64 a0)]
theorem Od (a0:Int):Rs a0=(gA a0 5 10).bind fun r1=>some r1:=
 (aa cfg 312 _).trans (by kernel_rfl)
noncomputable def Sm (a0:Int):Option Bool:=aw cfg 313 [.v (.int .i64 a0)]
theorem Oe (a0:Int):Sm a0=(gA a0 11 17).bind fun r1=>some r1:=
 (aa cfg 313 _).trans (by kernel_rfl)
noncomputable def Ph (a0:Int):Option Bool:=aw cfg 314 [.v (.int .i64 a0)]
theorem Of (a0:Int):Ph a0=(gA a0 18 21).bind fun r1=>some r1:=
 (aa cfg 314 _).trans (by kernel_rfl)
noncomputable def Sn (a0:Int):Option (Int×Bool):=aw cfg 315 [.v (.int .i64 a0)]
theorem Og (a0:Int):Sn a0=(Ph a0).bind fun r1=>bif r1 then(bif (decide ((IntKind.wrap .i64 (a0-18))<0))then none else some ((cJ .i64 1 (IntKind.wrap .i64 (a0-18))),false))else(bif (decide (a0>14))then(bif (decide ((IntKind.wrap .i64 (a0-15))<0))then none else some ((cJ .i64 1 (IntKind.wrap .i64 (a0-15))),false))else(bif (decide ((IntKind.wrap .i64 (a0-11))<0))then none else some ((cJ .i64 1 (IntKind.wrap .i64 (a0-11))),true))):=
 (aa cfg 315 _).trans (by kernel_rfl)
noncomputable def So (a0:Jw) (a1:Int):Option Int:=aw cfg 281 [.v (.cptr O2 a0 0),.v (.int .i64 a1)]
theorem Oh (a0:Jw) (a1:Int):So a0 a1=bif (aq a1 (a0.1.length))then(bif (decide ((rd (τ:=bg) a0.1 a1).1=4))then(bif (aq a1 (a0.2.2.2.2.length))then(bif (!decide ((rd (τ:=(.int .i64)) a0.2.2.2.2 a1)=3))then some 18 else some 0)else none)else(aA (fun kr27=>bif (decide ((rd (τ:=bg) a0.1 a1).1=3))then kr27 (decide ((rd (τ:=bg) a0.1 a1).2.1=1))else kr27 false) fun(r1:Bool)=>bif r1 then((Sl a0.2.2.2.1 (IntKind.wrap .i64 ((IntKind.wrap .i64 (a0.2.2.1+(IntKind.wrap .i64 (4*a1))))+(rd (τ:=bg) a0.1 a1).2.2.2.2))).bind fun r3=>bif (!r3)then some 20 else some 0)else(bif (decide ((rd (τ:=bg) a0.1 a1).1=3))then(bif (!decide ((rd (τ:=bg) a0.1 a1).2.1=0))then some 19 else((Rr a0 a1).bind fun r4=>bif (!r4)then some 19 else some 0))else((Rs ((rd (τ:=bg) a0.1 a1).1)).bind fun r7=>bif r7 then((Rr a0 a1).bind fun r8=>bif (!r8)then some 19 else some 0)else(aA (fun kr26=>bif (decide ((rd (τ:=bg) a0.1 a1).2.1=1))then(bif (aq a1 (a0.2.2.2.2.length))then(bif (!decide ((rd (τ:=(.int .i64)) a0.2.2.2.2 a1)=1))then kr26 true else(bif (decide ((rd (τ:=bg) a0.1 a1).2.1=2))then(bif (aq a1 (a0.2.2.2.2.length))then kr26 (!decide ((rd (τ:=(.int .i64)) a0.2.2.2.2 a1)=2))else none)else kr26 false))else none)else(bif (decide ((rd (τ:=bg) a0.1 a1).2.1=2))then(bif (aq a1 (a0.2.2.2.2.length))then kr26 (!decide ((rd (τ:=(.int .i64)) a0.2.2.2.2 a1)=2))else none)else kr26 false)) fun(r9:Bool)=>bif r9 then some 21 else(aA (fun kr25=>(Sm ((rd (τ:=bg) a0.1 a1).1)).bind fun r13=>bif r13 then(bif (decide ((rd (τ:=bg) a0.1 a1).2.2.1=2))then(bif (aq a1 (a0.2.2.2.2.length))then kr25 (!decide ((rd (τ:=(.int .i64)) a0.2.2.2.2 a1)=1))else none)else kr25 false)else((Ph ((rd (τ:=bg) a0.1 a1).1)).bind fun r14=>bif r14 then(bif (decide ((rd (τ:=bg) a0.1 a1).2.2.1=2))then(bif (aq a1 (a0.2.2.2.2.length))then kr25 (!decide ((rd (τ:=(.int .i64)) a0.2.2.2.2 a1)=1))else none)else kr25 false)else kr25 false)) fun(r15:Bool)=>bif r15 then((Sn ((rd (τ:=bg) a0.1 a1).1)).bind fun r21=>(gA ((rd (τ:=bg) a0.1 a1).2.2.2.2) 0 (IntKind.wrap .i64 ((IntKind.wrap .i64 (a0.2.1-8))-r21.1))).bind fun r22=>bif (!r22)then some 17 else(bif (decide (r21.1=0))then none else(bif (!decide ((((rd (τ:=bg) a0.1 a1).2.2.2.2).tmod r21.1)=0))then some 17 else some 0)))else some 0))))))else none:=
 (aa cfg 281 _).trans (by kernel_rfl)
noncomputable def km (a0:ByteArray) (a1 a2:Int) (a3:List Int):Option (Int×Int):=aw cfg 229 [.v (.str a0),.v (.int .i64 a1),.v (.int .i64 a2),.v (.list (.int .i64) a3)]
noncomputable def km.a (x1 x2:Int) (x3:List Int) (x10 x42:List cG) (x43 x44:Int):Option (Int×Int):=LA 229 Tryz.f229 [1,1,1,1,0,1,0] ⟨136,af [vI 1 x1,vI 2 x2,vL 3 (.int .i64) x3,(10,.v (.own 1312)),(42,.v (.own 5408)),vI 43 x43,vI 44 x44],ai [(1312,.rows 283 bg .no x10),(5408,.rows 283 bg .no x42)]⟩
noncomputable def km.b (x2:Int) (x10:List cG) (x16:Jw) (x17:Int):Option (Int×Int):=LA 229 Tryz.f229 [1,1,1,1,1,1,1,1,0,1,0] ⟨136,af [vI 2 x2,vL 10 bg x10,vP 16 2111,vI 17 x17],ai [(2080,.rows 3 (.int .i64) .no x16.2.2.2.2),(2111,.box [.list bg x16.1,.int .i64 x16.2.1,.int .i64 x16.2.2.1,.list (.int .i64) x16.2.2.2.1,.own 2080])]⟩
noncomputable def km.c (x10:List cG) (x16:Jw) (x18:Int):Option (Int×Int):=LA 229 Tryz.f229 [1,1,1,1,1,1,1,1,1,0,1,0] ⟨136,af [vL 10 bg x10,vP 16 2111,vI 18 x18],ai [(2080,.rows 3 (.int .i64) .no x16.2.2.2.2),(2111,.box [.list bg x16.1,.int .i64 x16.2.1,.int .i64 x16.2.2.1,.list (.int .i64) x16.2.2.2.1,.own 2080])]⟩
theorem Hu (a0:ByteArray) (a1 a2:Int) (a3:List Int):km a0 a1 a2 a3=(Rm a1).bind fun r1=>bif (!r1)then some (0,4)else((Qp a2).bind fun r2=>bif (!r2)then some (0,17)else((Rl a0).bind fun r3=>bif (!r3)then some (0,8)else((Dp a0).bind fun r4=>bif (!r4.2.2)then some (r4.2.1,10)else((SN a2).bind fun r5=>km.a a1 a2 a3 r4.1 r5 (r5.length:Int) 0)))):=
 (aa cfg 229 _).trans (by kernel_rfl)
theorem km.a_eq (x1 x2:Int) (x3:List Int) (x10 x42:List cG) (x43 x44:Int):km.a x1 x2 x3 x10 x42 x43 x44=bif (decide (x44<x43))then(bif (aq x44 (x42.length))then(bif (aq x44 (x10.length))then(bif (!(d9 bg (rd (τ:=bg) x10 x44) (rd (τ:=bg) x42 x44)))then some (x44,17)else km.a x1 x2 x3 x10 x42 x43 (IntKind.wrap .i64 (x44+1)))else none)else none)else(bif (aq (IntKind.wrap .i64 ((x10.length:Int)-1)) (x10.length))then(aA (fun kr8=>bif (!decide ((rd (τ:=bg) x10 (IntKind.wrap .i64 ((x10.length:Int)-1))).1=4))then(bif (!decide ((rd (τ:=bg) x10 (IntKind.wrap .i64 ((x10.length:Int)-1))).1=3))then kr8 true else kr8 (!decide ((rd (τ:=bg) x10 (IntKind.wrap .i64 ((x10.length:Int)-1))).2.1=0)))else kr8 false) fun(r7:Bool)=>bif r7 then some ((IntKind.wrap .i64 ((x10.length:Int)-1)),22)else(bif (decide (0≤(x10.length:Int))&&ay (Int.toNat (x10.length:Int)) 8)then km.b x2 x10 (x10,x2,x1,x3,(List.replicate (Int.toNat (x10.length:Int)) (0:Int))) 2 else none))else none):=
 (ak cfg 229 _ _ _).trans (by kernel_rfl)
theorem km.b_eq (x2:Int) (x10:List cG) (x16:Jw) (x17:Int):km.b x2 x10 x16 x17=bif (decide ((IntKind.wrap .i64 (x17+3))≤(x10.length:Int)))then(bif (decide (0≤x17)&&decide (x17≤(IntKind.wrap .i64 (x17+3)))&&decide ((IntKind.wrap .i64 (x17+3))≤(x10.length:Int)))then((Sk x2).bind fun r9=>(Ht ((x10.take (Int.toNat (IntKind.wrap .i64 (x17+3)))).drop (Int.toNat x17)) r9).bind fun r10=>bif r10 then(bif (aq x17 (x16.2.2.2.2.length))then(bif (aq (IntKind.wrap .i64 (x17+1)) ((x16.2.2.2.2.set (Int.toNat x17) 1).length))then(letB ((x16.2.2.2.2.set (Int.toNat x17) 1).set (Int.toNat (IntKind.wrap .i64 (x17+1))) 2) fun r11=>bif (aq (IntKind.wrap .i64 (x17+2)) (r11.length))then km.b x2 x10 (x16.1,x16.2.1,x16.2.2.1,x16.2.2.2.1,(r11.set (Int.toNat (IntKind.wrap .i64 (x17+2))) 3)) (IntKind.wrap .i64 (x17+1))else none)else none)else none)else km.b x2 x10 x16 (IntKind.wrap .i64 (x17+1)))else none)else km.c x10 x16 2:=
 (ak cfg 229 _ _ _).trans (by kernel_rfl)
theorem km.c_eq (x10:List cG) (x16:Jw) (x18:Int):km.c x10 x16 x18=bif (decide (x18< (x10.length:Int)))then((So x16 x18).bind fun r14=>bif (!decide (r14=0))then some (x18,r14)else km.c x10 x16 (IntKind.wrap .i64 (x18+1)))else some (0,0):=
 (ak cfg 229 _ _ _).trans (by kernel_rfl)
noncomputable def oY (a0:D3):Option (Int×Int×Int):=aw cfg 183 [.agg [.str a0.1,.str a0.2.1,.list Y0 a0.2.2]]
noncomputable def oY.a (x1:D3) (x5:Int×Int) (x31 x32:Int):Option (Int×Int×Int):=LA 183 Tryz.f183 [1,1,1,0,1,0] ⟨101,af [vP 1 191,vP 5 703,vI 31 x31,vI 32 x32],ai [(191,.box [.str x1.1,.str x1.2.1,.list Y0 x1.2.2]),(703,.box [.int .i64 x5.1,.int .i64 x5.2])]⟩
noncomputable def oY.b (x1:D3) (x8:List Int) (x66:List D2) (x67 x68:Int):Option (Int×Int×Int):=LA 183 Tryz.f183 [1,1,1,1,1,1,0,1,0] ⟨101,af [vP 1 191,(8,.v (.own 1056)),vL 66 Y0 x66,vI 67 x67,vI 68 x68],ai [(191,.box [.str x1.1,.str x1.2.1,.list Y0 x1.2.2]),(1056,.rows 3 (.int .i64) .no x8)]⟩
theorem Oi (a0:D3):oY a0=bif (decide ((a0.2.2.length:Int)>16))then some (0,0,6)else(bif (decide ((a0.1.size:Int)>1024))then some (0,0,8)else(bif (decide ((a0.2.1.size:Int)>256))then some (0,0,8)else oY.a a0 (0,0) (a0.2.2.length:Int) 0)):=
 (aa cfg 183 _).trans (by kernel_rfl)
theorem oY.a_eq (x1:D3) (x5:Int×Int) (x31 x32:Int):oY.a x1 x5 x31 x32=bif (decide (x32<x31))then((Es x1 x32 x5).bind fun r14=>bif (!decide (r14.1=0))then some (x32,0,r14.1)else oY.a x1 r14.2 x31 (IntKind.wrap .i64 (x32+1)))else(bif (decide ((x1.2.2.length:Int)=0))then some (0,0,23)else(bif (aq 0 (x1.2.2.length))then(bif (!decide ((rd (τ:=Y0) x1.2.2 0).2.1=1))then some (0,0,23)else(bif (!decide (x5.1=(x1.1.size:Int)))then some (0,0,22)else((Et x1).bind fun r13=>oY.b x1 r13 x1.2.2 (x1.2.2.length:Int) 0)))else none)):=
 (ak cfg 183 _ _ _).trans (by kernel_rfl)
theorem oY.b_eq (x1:D3) (x8:List Int) (x66:List D2) (x67 x68:Int):oY.b x1 x8 x66 x67 x68=bif (decide (x68<x67))then(bif (aq x68 (x66.length))then(bif (!decide ((rd (τ:=Y0) x66 x68).2.1=1))then oY.b x1 x8 x66 x67 (IntKind.wrap .i64 (x68+1))else(bif (decide (0≤(rd (τ:=Y0) x66 x68).2.2.1)&&decide ((rd (τ:=Y0) x66 x68).2.2.1≤(IntKind.wrap .i64 ((rd (τ:=Y0) x66 x68).2.2.1+(rd (τ:=Y0) x66 x68).2.2.2.1)))&&decide ((IntKind.wrap .i64 ((rd (τ:=Y0) x66 x68).2.2.1+(rd (τ:=Y0) x66 x68).2.2.2.1))≤(x1.1.size:Int)))then((NS (rd (τ:=Y0) x66 x68)).bind fun r15=>(km (x1.1.extract (Int.toNat ((rd (τ:=Y0) x66 x68).2.2.1)) (Int.toNat (IntKind.wrap .i64 ((rd (τ:=Y0) x66 x68).2.2.1+(rd (τ:=Y0) x66 x68).2.2.2.1)))) r15 ((rd (τ:=Y0) x66 x68).2.2.2.2) x8).bind fun r16=>bif (!decide (r16.2=0))then some (x68,r16)else oY.b x1 x8 x66 x67 (IntKind.wrap .i64 (x68+1)))else none))else none)else some (0,0,0):=
 (ak cfg 183 _ _ _).trans (by kernel_rfl)
noncomputable def Pi (a0:D3):Option Bool:=aw cfg 133 [.agg [.str a0.1,.str a0.2.1,.list Y0 a0.2.2]]
theorem Oj (a0:D3):Pi a0=(oY a0).bind fun r1=>some (decide (r1.2.2=0)):=
 (aa cfg 133 _).trans (by kernel_rfl)
noncomputable def Eu (a0:D3):Option (List D0):=aw cfg 184 [.agg [.str a0.1,.str a0.2.1,.list Y0 a0.2.2]]
noncomputable def Eu.a (x3:List D0) (x7:List D2) (x8 x9:Int):Option (List D0):=LA 184 Tryz.f184 [1,1,0,1,0] ⟨29,af [(3,.v (.own 416)),vL 7 Y0 x7,vI 8 x8,vI 9 x9],ai [(416,.rows 121 aL .no x3)]⟩
theorem Ok (a0:D3):Eu a0=Eu.a [] a0.2.2 (a0.2.2.length:Int) 0:=
 (aa cfg 184 _).trans (by kernel_rfl)
theorem Eu.a_eq (x3:List D0) (x7:List D2) (x8 x9:Int):Eu.a x3 x7 x8 x9=bif (decide (x9<x8))then(bif (aq x9 (x7.length))then((NS (rd (τ:=Y0) x7 x9)).bind fun r1=>bif (ay ((x3.length)+([((rd (τ:=Y0) x7 x9).1,(rd (τ:=Y0) x7 x9).2.1,r1,(rd (τ:=Y0) x7 x9).2.2.2.1,(rd (τ:=Y0) x7 x9).2.2.2.2,0)].length)) 56)then Eu.a (x3++[((rd (τ:=Y0) x7 x9).1,(rd (τ:=Y0) x7 x9).2.1,r1,(rd (τ:=Y0) x7 x9).2.2.2.1,(rd (τ:=Y0) x7 x9).2.2.2.2,0)]) x7 x8 (IntKind.wrap .i64 (x9+1))else none)else none)else some x3:=
 (ak cfg 184 _ _ _).trans (by kernel_rfl)
noncomputable def Dq (a0:D3):Option (List cG):=aw cfg 185 [.agg [.str a0.1,.str a0.2.1,.list Y0 a0.2.2]]
noncomputable def Dq.a (x3:List cG) (x7:List D2) (x8 x9:Int):Option (List cG):=LA 185 Tryz.f185 [1,1,0,1,0] ⟨30,af [(3,.v (.own 416)),vL 7 Y0 x7,vI 8 x8,vI 9 x9],ai [(416,.rows 255 bg .no x3)]⟩
theorem Ol (a0:D3):Dq a0=Dq.a [] a0.2.2 (a0.2.2.length:Int) 0:=
 (aa cfg 185 _).trans (by kernel_rfl)
theorem Dq.a_eq (x3:List cG) (x7:List D2) (x8 x9:Int):Dq.a x3 x7 x8 x9=bif (decide (x9<x8))then(bif (aq x9 (x7.length))then(bif (decide ((rd (τ:=Y0) x7 x9).2.1=1))then((NS (rd (τ:=Y0) x7 x9)).bind fun r1=>bif (ay ((x3.length)+([(x9,0,r1,(rd (τ:=Y0) x7 x9).2.2.2)].length)) 40)then Dq.a (x3++[(x9,0,r1,(rd (τ:=Y0) x7 x9).2.2.2)]) x7 x8 (IntKind.wrap .i64 (x9+1))else none)else Dq.a x3 x7 x8 (IntKind.wrap .i64 (x9+1)))else none)else some x3:=
 (ak cfg 185 _ _ _).trans (by kernel_rfl)
noncomputable def SO (a0:List D1):Option (List D1):=aw cfg 294 [.agg [.list au a0]]
theorem Om (a0:List D1):SO a0=(QO a0).bind fun r1=>some r1:=
 (aa cfg 294 _).trans (by kernel_rfl)
noncomputable def oy (a0:List D1) (a1:Int) (a2:ByteArray):Option (List D1):=aw cfg 249 [.agg [.list au a0],.v (.int .i64 a1),.v (.str a2)]
noncomputable def oy.a (x1:Int) (x2:ByteArray) (x6 x7:List D1) (x17 x18:Int):Option (List D1):=LA 249 Tryz.f249 [1,1,0,1,0] ⟨58,af [(16,.v (.own 928)),vI 1 x1,(2,.v (.str x2)),vP 6 831,vP 7 959,vI 17 x17,vI 18 x18],ai [(800,.rows 176 au .no x6),(831,.box [.own 800]),(928,.rows 176 au .no x7),(959,.box [.own 928])]⟩
noncomputable def oy.b (x1:Int) (x2:ByteArray) (x6 x7:List D1) (x8:Int) (x9:D1) (x10:List Int) (x17 x18 x27 x28:Int):Option (List D1):=LA 249 Tryz.f249 [1,1,0,1,0,0,1,1,0,0,1,1,0,1,0] ⟨58,af [(16,.v (.own 928)),vI 1 x1,(2,.v (.str x2)),vP 6 831,vP 7 959,vI 8 x8,vP 9 1215,(10,.v (.own 1312)),vI 17 x17,vI 18 x18,vI 27 x27,vI 28 x28],ai [(800,.rows 176 au .no x6),(831,.box [.own 800]),(928,.rows 176 au .no x7),(959,.box [.own 928]),(1215,.box [.int .i64 x9.1,.int .i64 x9.2.1,.str x9.2.2]),(1312,.rows 5 (.int .u8) .box x10)]⟩
theorem On (a0:List D1) (a1:Int) (a2:ByteArray):oy a0 a1 a2=(SO a0).bind fun r1=>oy.a a1 a2 [] r1 (r1.length:Int) 0:=
 (aa cfg 249 _).trans (by kernel_rfl)
theorem oy.a_eq (x1:Int) (x2:ByteArray) (x6 x7:List D1) (x17 x18:Int):oy.a x1 x2 x6 x7 x17 x18=bif (decide (x18<x17))then(bif (aq x18 (x7.length))then(bif (decide (((rd (τ:=au) x7 x18).2.2).size≤9223372036854775807))then oy.b x1 x2 x6 x7 x18 (rd (τ:=au) x7 x18) (fo ((rd (τ:=au) x7 x18).2.2)) x17 x18 ((fo ((rd (τ:=au) x7 x18).2.2)).length:Int) 0 else none)else none)else some x7:=
 (ak cfg 249 _ _ _).trans (by kernel_rfl)
theorem oy.b_eq (x1:Int) (x2:ByteArray) (x6 x7:List D1) (x8:Int) (x9:D1) (x10:List Int) (x17 x18 x27 x28:Int):oy.b x1 x2 x6 x7 x8 x9 x10 x17 x18 x27 x28=bif (decide (x28<x27))then((gA (IntKind.wrap .i64 ((IntKind.wrap .i64 (x9.1+x28))-x1)) 0 (IntKind.wrap .i64 ((x2.size:Int)-1))).bind fun r3=>bif r3 then(bif (aq (IntKind.wrap .i64 ((IntKind.wrap .i64 (x9.1+x28))-x1)) x2.size)then(bif (aq x28 (x10.length))then(letB (x10.set (Int.toNat x28) (bt x2 (IntKind.wrap .i64 ((IntKind.wrap .i64 (x9.1+x28))-x1)))) fun r4=>oy.b x1 x2 x6 x7 x8 x9 r4 x17 x18 x27 (IntKind.wrap .i64 (x28+1)))else none)else none)else oy.b x1 x2 x6 x7 x8 x9 x10 x17 x18 x27 (IntKind.wrap .i64 (x28+1)))else(bif (aq x8 (x7.length))then(letB (x7.set (Int.toNat x8) ((rd (τ:=au) x7 x8).1,(rd (τ:=au) x7 x8).2.1,(av x10))) fun r2=>oy.a x1 x2 x6 r2 x17 (IntKind.wrap .i64 (x18+1)))else none):=
 (ak cfg 249 _ _ _).trans (by kernel_rfl)
noncomputable def Dr (a0:List D1) (a1 a2:Int):Option (List D1):=aw cfg 282 [.agg [.list au a0],.v (.int .i64 a1),.v (.int .i64 a2)]
noncomputable def Dr.a (x1 x2:Int) (x3 x6:List D1) (x7:Int):Option (List D1):=LA 282 Tryz.f282 [1,1,0,0] ⟨36,af [vI 1 x1,vI 2 x2,vP 3 447,vP 6 831,vI 7 x7],ai [(447,.box [.list au x3]),(800,.rows 176 au .no x6),(831,.box [.own 800])]⟩
theorem Oo (a0:List D1) (a1 a2:Int):Dr a0 a1 a2=Dr.a a1 a2 a0 [] 0:=
 (aa cfg 282 _).trans (by kernel_rfl)
theorem Dr.a_eq (x1 x2:Int) (x3 x6:List D1) (x7:Int):Dr.a x1 x2 x3 x6 x7=aA (fun kr6=>bif (decide (x7< (x3.length:Int)))then(bif (aq x7 (x3.length))then kr6 (decide ((rd (τ:=au) x3 x7).1<x1))else none)else kr6 false) fun(r2:Bool)=>bif r2 then Dr.a x1 x2 x3 x6 (IntKind.wrap .i64 (x7+1))else((QO x3).bind fun r3=>(RM (⟨#[0]⟩:ByteArray) 128).bind fun r4=>(SK r3 x7 [(x1,x2,r4)]).bind fun r5=>some r5):=
 (ak cfg 282 _ _ _).trans (by kernel_rfl)
noncomputable def rc (a0:List D1) (a1 a2:Int) (a3:ByteArray):Option (List D1):=aw cfg 231 [.agg [.list au a0],.v (.int .i64 a1),.v (.int .i64 a2),.v (.str a3)]
noncomputable def rc.a (x1 x2:Int) (x3:ByteArray) (x4 x8:List D1) (x9:Int):Option (List D1):=LA 231 Tryz.f231 [1,0,1,0] ⟨26,af [vI 1 x1,vI 2 x2,(3,.v (.str x3)),vP 4 575,vP 8 1087,vI 9 x9],ai [(575,.box [.list au x4]),(1056,.rows 176 au .no x8),(1087,.box [.own 1056])]⟩
theorem Oq (a0:List D1) (a1 a2:Int) (a3:ByteArray):rc a0 a1 a2 a3=rc.a a1 a2 a3 a0 [] 0:=
 (aa cfg 231 _).trans (by kernel_rfl)
theorem rc.a_eq (x1 x2:Int) (x3:ByteArray) (x4 x8:List D1) (x9:Int):rc.a x1 x2 x3 x4 x8 x9=bif (decide (x9< (x3.size:Int)))then((Dr x4 (IntKind.wrap .i64 (x1+x9)) x2).bind fun r2=>rc.a x1 x2 x3 r2 x8 (IntKind.wrap .i64 (x9+128)))else((oy x4 x1 x3).bind fun r1=>some r1):=
 (ak cfg 231 _ _ _).trans (by kernel_rfl)
noncomputable def Ev (a0:ByteArray) (a1:Int):Option ByteArray:=aw cfg 232 [.v (.str a0),.v (.int .i64 a1)]
theorem Ot (a0:ByteArray) (a1:Int):Ev a0 a1=(RM (⟨#[0]⟩:ByteArray) (IntKind.wrap .i64 (a1-(a0.size:Int)))).bind fun r1=>bif (decide (a0.size+r1.size≤9223372036854775807))then some (a0++r1)else none:=
 (aa cfg 232 _).trans (by kernel_rfl)
noncomputable def Ew (a0:D3):Option (List D1):=aw cfg 186 [.agg [.str a0.1,.str a0.2.1,.list Y0 a0.2.2]]
noncomputable def Ew.a (x2 x3:List D1) (x21:Int):Option (List D1):=LA 186 Tryz.f186 [1,1,1,1,1,1,0,1,0] ⟨32,af [vP 2 319,vP 3 447,vI 21 x21],ai [(288,.rows 176 au .no x2),(319,.box [.own 288]),(416,.rows 176 au .no x3),(447,.box [.own 416])]⟩
theorem Ou (a0:D3):Ew a0=(Ev a0.1 1024).bind fun r1=>(rc [] 4096 4 r1).bind fun r2=>(Ev (⟨#[]⟩:ByteArray) 1024).bind fun r3=>(rc r2 8192 4 r3).bind fun r4=>(Ev a0.2.1 256).bind fun r5=>(rc r4 16384 3 r5).bind fun r6=>(Ev (⟨#[]⟩:ByteArray) 256).bind fun r7=>(rc r6 20480 3 r7).bind fun r8=>Ew.a [] r8 0:=
 (aa cfg 186 _).trans (by kernel_rfl)
theorem Ew.a_eq (x2 x3:List D1) (x21:Int):Ew.a x2 x3 x21=bif (decide (x21<4))then((Ev (⟨#[]⟩:ByteArray) 512).bind fun r9=>(rc x3 (IntKind.wrap .i64 (32768+(IntKind.wrap .i64 (1024*x21)))) 11 r9).bind fun r10=>Ew.a x2 r10 (IntKind.wrap .i64 (x21+1)))else some x3:=
 (ak cfg 186 _ _ _).trans (by kernel_rfl)
noncomputable def Sp (a0:D3):Option Dt:=aw cfg 134 [.agg [.str a0.1,.str a0.2.1,.list Y0 a0.2.2]]
theorem Ov (a0:D3):Sp a0=(Eu a0).bind fun r1=>(Dq a0).bind fun r2=>(Ew a0).bind fun r3=>some (r1,r2,r3,(8192,1024,8192),20480,256,20480):=
 (aa cfg 134 _).trans (by kernel_rfl)
noncomputable def Hz (a0:List ByteArray) (a1:ByteArray):Option Int:=aw cfg 324 [.v (.list .str a0),.v (.str a1)]
noncomputable def Hz.a (x0:List ByteArray) (x1:ByteArray) (x7 x8:Int):Option Int:=LA 324 Tryz.f324 [1,0,1,0] ⟨19,af [vL 0 .str x0,(1,.v (.str x1)),vI 7 x7,vI 8 x8],ai []⟩
theorem Ow (a0:List ByteArray) (a1:ByteArray):Hz a0 a1=Hz.a a0 a1 (a0.length:Int) 0:=
 (aa cfg 324 _).trans (by kernel_rfl)
theorem Hz.a_eq (x0:List ByteArray) (x1:ByteArray) (x7 x8:Int):Hz.a x0 x1 x7 x8=bif (decide (x8<x7))then(bif (aq x8 (x0.length))then(bif (bh x1 (rd (τ:= .str) x0 x8))then some x8 else Hz.a x0 x1 x7 (IntKind.wrap .i64 (x8+1)))else none)else some (-1):=
 (ak cfg 324 _ _ _).trans (by kernel_rfl)
noncomputable def Sq (a0:List ByteArray) (a1:ByteArray):Option Bool:=aw cfg 286 [.v (.list .str a0),.v (.str a1)]
theorem Ox (a0:List ByteArray) (a1:ByteArray):Sq a0 a1=(Hz a0 a1).bind fun r1=>some (decide (r1≥0)):=
 (aa cfg 286 _).trans (by kernel_rfl)
noncomputable def re (a0:D9) (a1:Int):Option (List ByteArray):=aw cfg 287 [.agg [.str a0.1,.int .i64 a0.2.1,.list Y1 a0.2.2.1,.list (.pair .str .str) a0.2.2.2.1,.list Y2 a0.2.2.2.2.1,.list (.pair (.int .i64) .bool) a0.2.2.2.2.2],.v (.int .i64 a1)]
noncomputable def re.a (x1:Int) (x2:D9) (x5:List ByteArray) (x11:List D6) (x12 x13:Int):Option (List ByteArray):=LA 287 Tryz.f287 [1,1,0,1,0] ⟨39,af [vI 1 x1,vP 2 319,(5,.v (.own 672)),vL 11 Y1 x11,vI 12 x12,vI 13 x13],ai [(319,.box [.str x2.1,.int .i64 x2.2.1,.list Y1 x2.2.2.1,.list (.pair .str .str) x2.2.2.2.1,.list Y2 x2.2.2.2.2.1,.list (.pair (.int .i64) .bool) x2.2.2.2.2.2]),(672,.rows 9 .str .no x5)]⟩
noncomputable def re.b (x1:Int) (x5:List ByteArray) (x24:List D7) (x25 x26:Int):Option (List ByteArray):=LA 287 Tryz.f287 [1,1,1,0,1,0] ⟨39,af [vI 1 x1,(5,.v (.own 672)),vL 24 (.pair .str .str) x24,vI 25 x25,vI 26 x26],ai [(672,.rows 9 .str .no x5)]⟩
theorem Oy (a0:D9) (a1:Int):re a0 a1=re.a a1 a0 [] a0.2.2.1 (a0.2.2.1.length:Int) 0:=
 (aa cfg 287 _).trans (by kernel_rfl)
theorem re.a_eq (x1:Int) (x2:D9) (x5:List ByteArray) (x11:List D6) (x12 x13:Int):re.a x1 x2 x5 x11 x12 x13=bif (decide (x13<x12))then(bif (aq x13 (x11.length))then(bif (ay ((x5.length)+([(rd (τ:=Y1) x11 x13).1].length)) 16)then re.a x1 x2 (x5++[(rd (τ:=Y1) x11 x13).1]) x11 x12 (IntKind.wrap .i64 (x13+1))else none)else none)else re.b x1 x5 x2.2.2.2.1 (x2.2.2.2.1.length:Int) 0:=
 (ak cfg 287 _ _ _).trans (by kernel_rfl)
theorem re.b_eq (x1:Int) (x5:List ByteArray) (x24:List D7) (x25 x26:Int):re.b x1 x5 x24 x25 x26=bif (decide (x26<x25))then(bif (aq x26 (x24.length))then(bif (ay ((x5.length)+([(rd (τ:=(.pair .str .str)) x24 x26).1].length)) 16)then re.b x1 (x5++[(rd (τ:=(.pair .str .str)) x24 x26).1]) x24 x25 (IntKind.wrap .i64 (x26+1))else none)else none)else(bif (decide (0≤0)&&decide (0≤x1)&&decide (x1≤(x5.length:Int)))then some ((x5.take (Int.toNat x1)).drop (Int.toNat 0))else none):=
 (ak cfg 287 _ _ _).trans (by kernel_rfl)
noncomputable def Rt (a0:D9) (a1:ByteArray) (a2:Int):Option Int:=aw cfg 234 [.agg [.str a0.1,.int .i64 a0.2.1,.list Y1 a0.2.2.1,.list (.pair .str .str) a0.2.2.2.1,.list Y2 a0.2.2.2.2.1,.list (.pair (.int .i64) .bool) a0.2.2.2.2.2],.v (.str a1),.v (.int .i64 a2)]
theorem Oz (a0:D9) (a1:ByteArray) (a2:Int):Rt a0 a1 a2=(oX a1).bind fun r1=>bif (!r1)then some 3 else((re a0 a2).bind fun r2=>(Sq r2 a1).bind fun r3=>bif r3 then some 24 else some 0):=
 (aa cfg 234 _).trans (by kernel_rfl)
noncomputable def rX (a0:D9):Option (List Int):=aw cfg 289 [.agg [.str a0.1,.int .i64 a0.2.1,.list Y1 a0.2.2.1,.list (.pair .str .str) a0.2.2.2.1,.list Y2 a0.2.2.2.2.1,.list (.pair (.int .i64) .bool) a0.2.2.2.2.2]]
noncomputable def rX.a (x1:D9) (x3:List Int) (x9:List D6) (x10 x11:Int):Option (List Int):=LA 289 Tryz.f289 [1,1,0,1,0] ⟨39,af [vP 1 191,(3,.v (.own 416)),vL 9 Y1 x9,vI 10 x10,vI 11 x11],ai [(191,.box [.str x1.1,.int .i64 x1.2.1,.list Y1 x1.2.2.1,.list (.pair .str .str) x1.2.2.2.1,.list Y2 x1.2.2.2.2.1,.list (.pair (.int .i64) .bool) x1.2.2.2.2.2]),(416,.rows 3 (.int .i64) .no x3)]⟩
noncomputable def rX.b (x3:List Int) (x24:List D7) (x25 x26:Int):Option (List Int):=LA 289 Tryz.f289 [1,1,1,0,1,0] ⟨39,af [(3,.v (.own 416)),vL 24 (.pair .str .str) x24,vI 25 x25,vI 26 x26],ai [(416,.rows 3 (.int .i64) .no x3)]⟩
theorem OA (a0:D9):rX a0=rX.a a0 [] a0.2.2.1 (a0.2.2.1.length:Int) 0:=
 (aa cfg 289 _).trans (by kernel_rfl)
theorem rX.a_eq (x1:D9) (x3:List Int) (x9:List D6) (x10 x11:Int):rX.a x1 x3 x9 x10 x11=bif (decide (x11<x10))then(bif (aq x11 (x9.length))then(bif (ay ((x3.length)+([(IntKind.wrap .i64 ((((rd (τ:=Y1) x9 x11).2.2.2).size:Int).tdiv 4))].length)) 8)then rX.a x1 (x3++[(IntKind.wrap .i64 ((((rd (τ:=Y1) x9 x11).2.2.2).size:Int).tdiv 4))]) x9 x10 (IntKind.wrap .i64 (x11+1))else none)else none)else rX.b x3 x1.2.2.2.1 (x1.2.2.2.1.length:Int) 0:=
 (ak cfg 289 _ _ _).trans (by kernel_rfl)
theorem rX.b_eq (x3:List Int) (x24:List D7) (x25 x26:Int):rX.b x3 x24 x25 x26=bif (decide (x26<x25))then(bif (aq x26 (x24.length))then(bif (ay ((x3.length)+([(IntKind.wrap .i64 ((((rd (τ:=(.pair .str .str)) x24 x26).2).size:Int).tdiv 8))].length)) 8)then rX.b (x3++[(IntKind.wrap .i64 ((((rd (τ:=(.pair .str .str)) x24 x26).2).size:Int).tdiv 8))]) x24 x25 (IntKind.wrap .i64 (x26+1))else none)else none)else some x3:=
 (ak cfg 289 _ _ _).trans (by kernel_rfl)
noncomputable def Sr (a0:D9) (a1:Int):Option Int:=aw cfg 237 [.agg [.str a0.1,.int .i64 a0.2.1,.list Y1 a0.2.2.1,.list (.pair .str .str) a0.2.2.2.1,.list Y2 a0.2.2.2.2.1,.list (.pair (.int .i64) .bool) a0.2.2.2.2.2],.v (.int .i64 a1)]
theorem OB (a0:D9) (a1:Int):Sr a0 a1=bif (aq a1 (a0.2.2.2.2.1.length))then((rX a0).bind fun r1=>aA (fun kr14=>(gA ((rd (τ:=Y2) a0.2.2.2.2.1 a1).1) 0 (IntKind.wrap .i64 ((r1.length:Int)-1))).bind fun r2=>bif (!r2)then kr14 true else(bif (aq ((rd (τ:=Y2) a0.2.2.2.2.1 a1).1) (r1.length))then((gA ((rd (τ:=Y2) a0.2.2.2.2.1 a1).2.1) 0 (IntKind.wrap .i64 ((rd (τ:=(.int .i64)) r1 ((rd (τ:=Y2) a0.2.2.2.2.1 a1).1))-1))).bind fun r3=>kr14 (!r3))else none)) fun(r5:Bool)=>bif r5 then some 4 else(aA (fun kr13=>(gA ((rd (τ:=Y2) a0.2.2.2.2.1 a1).2.2.1) 1 9).bind fun r6=>bif (!r6)then kr13 true else kr13 (!((decide ((rd (τ:=Y2) a0.2.2.2.2.1 a1).2.2.1=9))==(decide ((rd (τ:=Y2) a0.2.2.2.2.1 a1).1≥(a0.2.2.1.length:Int)))))) fun(r8:Bool)=>bif r8 then some 26 else((oX ((rd (τ:=Y2) a0.2.2.2.2.1 a1).2.2.2.1)).bind fun r9=>bif (!r9)then some 3 else((gA ((rd (τ:=Y2) a0.2.2.2.2.1 a1).2.2.2.2) (-2147483648) 2147483647).bind fun r10=>bif (!r10)then some 4 else(bif (decide (a1>0))then(bif (aq (IntKind.wrap .i64 (a1-1)) (a0.2.2.2.2.1.length))then(bif (decide ((rd (τ:=Y2) a0.2.2.2.2.1 a1).1< (rd (τ:=Y2) a0.2.2.2.2.1 (IntKind.wrap .i64 (a1-1))).1))then some 24 else(bif (decide ((rd (τ:=Y2) a0.2.2.2.2.1 a1).1=(rd (τ:=Y2) a0.2.2.2.2.1 (IntKind.wrap .i64 (a1-1))).1))then(bif (decide ((rd (τ:=Y2) a0.2.2.2.2.1 a1).2.1≤(rd (τ:=Y2) a0.2.2.2.2.1 (IntKind.wrap .i64 (a1-1))).2.1))then some 24 else some 0)else some 0))else none)else some 0)))))else none:=
 (aa cfg 237 _).trans (by kernel_rfl)
noncomputable def ie (a0:D9):Option (Int×Int):=aw cfg 187 [.agg [.str a0.1,.int .i64 a0.2.1,.list Y1 a0.2.2.1,.list (.pair .str .str) a0.2.2.2.1,.list Y2 a0.2.2.2.2.1,.list (.pair (.int .i64) .bool) a0.2.2.2.2.2]]
noncomputable def ie.a (x1:D9) (x53:List D6) (x54 x55:Int):Option (Int×Int):=LA 187 Tryz.f187 [1,1,0,1,0] ⟨165,af [vP 1 191,vL 53 Y1 x53,vI 54 x54,vI 55 x55],ai [(191,.box [.str x1.1,.int .i64 x1.2.1,.list Y1 x1.2.2.1,.list (.pair .str .str) x1.2.2.2.1,.list Y2 x1.2.2.2.2.1,.list (.pair (.int .i64) .bool) x1.2.2.2.2.2])]⟩
noncomputable def ie.b (x1:D9) (x84:List D7) (x85 x86:Int):Option (Int×Int):=LA 187 Tryz.f187 [1,1,1,0,1,0] ⟨165,af [vP 1 191,vL 84 (.pair .str .str) x84,vI 85 x85,vI 86 x86],ai [(191,.box [.str x1.1,.int .i64 x1.2.1,.list Y1 x1.2.2.1,.list (.pair .str .str) x1.2.2.2.1,.list Y2 x1.2.2.2.2.1,.list (.pair (.int .i64) .bool) x1.2.2.2.2.2])]⟩
noncomputable def ie.c (x1:D9) (x122 x123:Int):Option (Int×Int):=LA 187 Tryz.f187 [1,1,1,1,0,1,0] ⟨165,af [vP 1 191,vI 122 x122,vI 123 x123],ai [(191,.box [.str x1.1,.int .i64 x1.2.1,.list Y1 x1.2.2.1,.list (.pair .str .str) x1.2.2.2.1,.list Y2 x1.2.2.2.2.1,.list (.pair (.int .i64) .bool) x1.2.2.2.2.2])]⟩
noncomputable def ie.d (x1:D9) (x135:List (Int×Bool)) (x136 x137:Int):Option (Int×Int):=LA 187 Tryz.f187 [1,1,1,1,1,0,1,0] ⟨165,af [vP 1 191,vL 135 (.pair (.int .i64) .bool) x135,vI 136 x136,vI 137 x137],ai [(191,.box [.str x1.1,.int .i64 x1.2.1,.list Y1 x1.2.2.1,.list (.pair .str .str) x1.2.2.2.1,.list Y2 x1.2.2.2.2.1,.list (.pair (.int .i64) .bool) x1.2.2.2.2.2])]⟩
theorem OC (a0:D9):ie a0=(oX a0.1).bind fun r1=>bif (!r1)then some (0,3)else((gA a0.2.1 0 5).bind fun r2=>bif (!r2)then some (0,27)else(bif (decide ((a0.2.2.1.length:Int)=0))then some (0,5)else(bif (decide ((a0.2.2.1.length:Int)>4))then some (0,6)else(bif (decide ((a0.2.2.2.1.length:Int)>4))then some (0,6)else(bif (decide ((a0.2.2.2.2.1.length:Int)>32))then some (0,6)else(bif (decide ((a0.2.2.2.2.2.length:Int)>4))then some (0,6)else ie.a a0 a0.2.2.1 (a0.2.2.1.length:Int) 0)))))):=
 (aa cfg 187 _).trans (by kernel_rfl)
theorem ie.a_eq (x1:D9) (x53:List D6) (x54 x55:Int):ie.a x1 x53 x54 x55=bif (decide (x55<x54))then(bif (aq x55 (x53.length))then((Rt x1 ((rd (τ:=Y1) x53 x55).1) x55).bind fun r33=>bif (!decide (r33=0))then some (x55,r33)else((Qp ((rd (τ:=Y1) x53 x55).2.2.1)).bind fun r34=>bif (!r34)then some (x55,17)else((Rl ((rd (τ:=Y1) x53 x55).2.2.2)).bind fun r35=>bif (!r35)then some (x55,8)else ie.a x1 x53 x54 (IntKind.wrap .i64 (x55+1)))))else none)else ie.b x1 x1.2.2.2.1 (x1.2.2.2.1.length:Int) 0:=
 (ak cfg 187 _ _ _).trans (by kernel_rfl)
theorem ie.b_eq (x1:D9) (x84:List D7) (x85 x86:Int):ie.b x1 x84 x85 x86=bif (decide (x86<x85))then(bif (aq x86 (x84.length))then((Rt x1 ((rd (τ:=(.pair .str .str)) x84 x86).1) (IntKind.wrap .i64 ((x1.2.2.1.length:Int)+x86))).bind fun r36=>bif (!decide (r36=0))then some (x86,r36)else((gA (((rd (τ:=(.pair .str .str)) x84 x86).2).size:Int) 8 64).bind fun r37=>bif (!r37)then some (x86,8)else(bif (!decide (((((rd (τ:=(.pair .str .str)) x84 x86).2).size:Int).tmod 8)=0))then some (x86,8)else ie.b x1 x84 x85 (IntKind.wrap .i64 (x86+1)))))else none)else ie.c x1 (x1.2.2.2.2.1.length:Int) 0:=
 (ak cfg 187 _ _ _).trans (by kernel_rfl)
theorem ie.c_eq (x1:D9) (x122 x123:Int):ie.c x1 x122 x123=bif (decide (x123<x122))then((Sr x1 x123).bind fun r46=>bif (!decide (r46=0))then some (x123,r46)else ie.c x1 x122 (IntKind.wrap .i64 (x123+1)))else ie.d x1 x1.2.2.2.2.2 (x1.2.2.2.2.2.length:Int) 0:=
 (ak cfg 187 _ _ _).trans (by kernel_rfl)
theorem ie.d_eq (x1:D9) (x135:List (Int×Bool)) (x136 x137:Int):ie.d x1 x135 x136 x137=bif (decide (x137<x136))then(bif (aq x137 (x135.length))then((gA ((rd (τ:=(.pair (.int .i64) .bool)) x135 x137).1) 0 255).bind fun r47=>bif (!r47)then some (x137,4)else(bif (decide (x137>0))then(bif (aq (IntKind.wrap .i64 (x137-1)) (x1.2.2.2.2.2.length))then(bif (decide ((rd (τ:=(.pair (.int .i64) .bool)) x135 x137).1≤(rd (τ:=(.pair (.int .i64) .bool)) x1.2.2.2.2.2 (IntKind.wrap .i64 (x137-1))).1))then some (x137,24)else ie.d x1 x135 x136 (IntKind.wrap .i64 (x137+1)))else none)else ie.d x1 x135 x136 (IntKind.wrap .i64 (x137+1))))else none)else some (0,0):=
 (ak cfg 187 _ _ _).trans (by kernel_rfl)
noncomputable def Qr (a0:D9):Option Bool:=aw cfg 135 [.agg [.str a0.1,.int .i64 a0.2.1,.list Y1 a0.2.2.1,.list (.pair .str .str) a0.2.2.2.1,.list Y2 a0.2.2.2.2.1,.list (.pair (.int .i64) .bool) a0.2.2.2.2.2]]
theorem OD (a0:D9):Qr a0=(ie a0).bind fun r1=>some (decide (r1.2=0)):=
 (aa cfg 135 _).trans (by kernel_rfl)
noncomputable def SQ (a0:Int×Bool) (a1:Int):Option Bool:=aw cfg 239 [.agg [.int .i64 a0.1,.bool a0.2],.v (.cptr (.int .i64) a1 0)]
theorem OE (a0:Int×Bool) (a1:Int):SQ a0 a1=some (decide (a0.1=a1)):=
 (aa cfg 239 _).trans (by kernel_rfl)
noncomputable def HC (c1_0:Int) (a0:List (Int×Bool)):Option Int:=aw cfg 238 [.v (.list (.pair (.int .i64) .bool) a0),.v (.fn 239 [.cref (.int .i64) c1_0])]
noncomputable def HC.a (c1_0:Int) (x0:List (Int×Bool)) (x7 x8:Int):Option Int:=LA 238 Tryz.f238 [1,0,1,0] ⟨19,af [vL 0 (.pair (.int .i64) .bool) x0,(1,.v (.fn 239 [.cref (.int .i64) c1_0])),vI 7 x7,vI 8 x8],ai []⟩
theorem OF (c1_0:Int) (a0:List (Int×Bool)):HC c1_0 a0=HC.a c1_0 a0 (a0.length:Int) 0:=
 (aa cfg 238 _).trans (by kernel_rfl)
theorem HC.a_eq (c1_0:Int) (x0:List (Int×Bool)) (x7 x8:Int):HC.a c1_0 x0 x7 x8=bif (decide (x8<x7))then(bif (aq x8 (x0.length))then((SQ (rd (τ:=(.pair (.int .i64) .bool)) x0 x8) c1_0).bind fun r1=>bif r1 then some x8 else HC.a c1_0 x0 x7 (IntKind.wrap .i64 (x8+1)))else none)else some (-1):=
 (ak cfg 238 _ _ _).trans (by kernel_rfl)
noncomputable def SR (c1_0:Int) (a0:List (Int×Bool)):Option Bool:=aw cfg 188 [.v (.list (.pair (.int .i64) .bool) a0),.v (.fn 239 [.cref (.int .i64) c1_0])]
theorem OG (c1_0:Int) (a0:List (Int×Bool)):SR c1_0 a0=(HC c1_0 a0).bind fun r1=>some (decide (r1≥0)):=
 (aa cfg 188 _).trans (by kernel_rfl)
noncomputable def Ss (a0:D9) (a1:Int):Option Bool:=aw cfg 190 [.agg [.str a0.1,.int .i64 a0.2.1,.list Y1 a0.2.2.1,.list (.pair .str .str) a0.2.2.2.1,.list Y2 a0.2.2.2.2.1,.list (.pair (.int .i64) .bool) a0.2.2.2.2.2],.v (.int .i64 a1)]
theorem OH (a0:D9) (a1:Int):Ss a0 a1=(SR a1 a0.2.2.2.2.2).bind fun r1=>some r1:=
 (aa cfg 190 _).trans (by kernel_rfl)
noncomputable def SS (a0:Int×Bool) (a1:D9):Option Bool:=aw cfg 189 [.agg [.int .i64 a0.1,.bool a0.2],.v (.cptr Y3 a1 0)]
theorem OI (a0:Int×Bool) (a1:D9):SS a0 a1=(Ss a1 a0.1).bind fun r1=>some r1:=
 (aa cfg 189 _).trans (by kernel_rfl)
noncomputable def HD (c1_0:D9) (a0:List (Int×Bool)):Option Int:=aw cfg 238 [.v (.list (.pair (.int .i64) .bool) a0),.v (.fn 189 [.cref Y3 c1_0])]
noncomputable def HD.a (c1_0:D9) (x0:List (Int×Bool)) (x7 x8:Int):Option Int:=LA 238 Tryz.f238 [1,0,1,0] ⟨19,af [vL 0 (.pair (.int .i64) .bool) x0,(1,.v (.fn 189 [.cref Y3 c1_0])),vI 7 x7,vI 8 x8],ai []⟩
theorem OJ (c1_0:D9) (a0:List (Int×Bool)):HD c1_0 a0=HD.a c1_0 a0 (a0.length:Int) 0:=
 (aa cfg 238 _).trans (by kernel_rfl)
theorem HD.a_eq (c1_0:D9) (x0:List (Int×Bool)) (x7 x8:Int):HD.a c1_0 x0 x7 x8=bif (decide (x8<x7))then(bif (aq x8 (x0.length))then((SS (rd (τ:=(.pair (.int .i64) .bool)) x0 x8) c1_0).bind fun r1=>bif r1 then some x8 else HD.a c1_0 x0 x7 (IntKind.wrap .i64 (x8+1)))else none)else some (-1):=
 (ak cfg 238 _ _ _).trans (by kernel_rfl)
noncomputable def ST (c1_0:D9) (a0:List (Int×Bool)):Option Bool:=aw cfg 188 [.v (.list (.pair (.int .i64) .bool) a0),.v (.fn 189 [.cref Y3 c1_0])]
theorem OL (c1_0:D9) (a0:List (Int×Bool)):ST c1_0 a0=(HD c1_0 a0).bind fun r1=>some (decide (r1≥0)):=
 (aa cfg 188 _).trans (by kernel_rfl)
noncomputable def Su (a0 a1:D9):Option Bool:=aw cfg 136 [.agg [.str a0.1,.int .i64 a0.2.1,.list Y1 a0.2.2.1,.list (.pair .str .str) a0.2.2.2.1,.list Y2 a0.2.2.2.2.1,.list (.pair (.int .i64) .bool) a0.2.2.2.2.2],.agg [.str a1.1,.int .i64 a1.2.1,.list Y1 a1.2.2.1,.list (.pair .str .str) a1.2.2.2.1,.list Y2 a1.2.2.2.2.1,.list (.pair (.int .i64) .bool) a1.2.2.2.2.2]]
theorem OM (a0 a1:D9):Su a0 a1=(ST a1 a0.2.2.2.2.2).bind fun r1=>some r1:=
 (aa cfg 136 _).trans (by kernel_rfl)
noncomputable def SU (a0:D0) (a1:ByteArray):Option Bool:=aw cfg 248 [.agg [.str a0.1,.int .i64 a0.2.1,.int .i64 a0.2.2.1,.int .i64 a0.2.2.2.1,.int .i64 a0.2.2.2.2.1,.int .i64 a0.2.2.2.2.2],.v (.cptr .str a1 0)]
theorem ON (a0:D0) (a1:ByteArray):SU a0 a1=some (bh a0.1 a1):=
 (aa cfg 248 _).trans (by kernel_rfl)
noncomputable def HE (c1_0:ByteArray) (a0:List D0):Option Int:=aw cfg 247 [.v (.list aL a0),.v (.fn 248 [.cref .str c1_0])]
noncomputable def HE.a (c1_0:ByteArray) (x0:List D0) (x7 x8:Int):Option Int:=LA 247 Tryz.f247 [1,0,1,0] ⟨19,af [vL 0 aL x0,(1,.v (.fn 248 [.cref .str c1_0])),vI 7 x7,vI 8 x8],ai []⟩
theorem OO (c1_0:ByteArray) (a0:List D0):HE c1_0 a0=HE.a c1_0 a0 (a0.length:Int) 0:=
 (aa cfg 247 _).trans (by kernel_rfl)
theorem HE.a_eq (c1_0:ByteArray) (x0:List D0) (x7 x8:Int):HE.a c1_0 x0 x7 x8=bif (decide (x8<x7))then(bif (aq x8 (x0.length))then((SU (rd (τ:=aL) x0 x8) c1_0).bind fun r1=>bif r1 then some x8 else HE.a c1_0 x0 x7 (IntKind.wrap .i64 (x8+1)))else none)else some (-1):=
 (ak cfg 247 _ _ _).trans (by kernel_rfl)
noncomputable def Jv (a0:List D0) (a1:ByteArray):Option Int:=aw cfg 193 [.v (.list aL a0),.v (.str a1)]
theorem OP (a0:List D0) (a1:ByteArray):Jv a0 a1=(HE a1 a0).bind fun r1=>some r1:=
 (aa cfg 193 _).trans (by kernel_rfl)
noncomputable def Sw (a0:D0):Option Bool:=aw cfg 197 [.agg [.str a0.1,.int .i64 a0.2.1,.int .i64 a0.2.2.1,.int .i64 a0.2.2.2.1,.int .i64 a0.2.2.2.2.1,.int .i64 a0.2.2.2.2.2]]
theorem OQ (a0:D0):Sw a0=(oX a0.1).bind fun r1=>bif r1 then((Rm a0.2.2.1).bind fun r2=>bif r2 then((gA a0.2.2.2.1 1 1024).bind fun r3=>bif r3 then((gA a0.2.2.2.2.2 0 6).bind fun r4=>bif r4 then(bif (decide (a0.2.1=1))then((Qp a0.2.2.2.2.1).bind fun r5=>bif r5 then some true else(bif (decide (a0.2.1=2))then some (decide (a0.2.2.2.2.1=0))else some false))else(bif (decide (a0.2.1=2))then some (decide (a0.2.2.2.2.1=0))else some false))else some false)else some false)else some false)else some false:=
 (aa cfg 197 _).trans (by kernel_rfl)
noncomputable def AO (a0:List D0):Option Bool:=aw cfg 139 [.v (.list aL a0)]
noncomputable def AO.a (x0 x8:List D0) (x9 x10:Int):Option Bool:=LA 139 Tryz.f139 [1,1,0,1,0] ⟨28,af [vL 0 aL x0,vL 8 aL x8,vI 9 x9,vI 10 x10],ai []⟩
theorem OR (a0:List D0):AO a0=bif (decide ((a0.length:Int)>64))then some false else AO.a a0 a0 (a0.length:Int) 0:=
 (aa cfg 139 _).trans (by kernel_rfl)
theorem AO.a_eq (x0 x8:List D0) (x9 x10:Int):AO.a x0 x8 x9 x10=bif (decide (x10<x9))then(bif (aq x10 (x8.length))then((Sw (rd (τ:=aL) x8 x10)).bind fun r1=>bif (!r1)then some false else(bif (decide (0≤0)&&decide (0≤x10)&&decide (x10≤(x0.length:Int)))then((Jv ((x0.take (Int.toNat x10)).drop (Int.toNat 0)) ((rd (τ:=aL) x8 x10).1)).bind fun r2=>bif (decide (r2≥0))then some false else AO.a x0 x8 x9 (IntKind.wrap .i64 (x10+1)))else none))else none)else some true:=
 (ak cfg 139 _ _ _).trans (by kernel_rfl)
noncomputable def Ru (a0:Int×Int×Int):Option Bool:=aw cfg 240 [.agg [.int .i64 a0.1,.int .i64 a0.2.1,.int .i64 a0.2.2]]
theorem OS (a0:Int×Int×Int):Ru a0=(gA a0.1 0 1048575).bind fun r1=>bif r1 then((gA a0.2.1 0 (IntKind.wrap .i64 (1048576-a0.1))).bind fun r2=>bif r2 then((gA a0.2.2 a0.1 (IntKind.wrap .i64 (a0.1+a0.2.1))).bind fun r3=>bif r3 then(bif (decide ((a0.1.tmod 8)=0))then(bif (decide ((a0.2.1.tmod 8)=0))then some (decide ((a0.2.2.tmod 8)=0))else some false)else some false)else some false)else some false)else some false:=
 (aa cfg 240 _).trans (by kernel_rfl)
noncomputable def rf (a0:mI):Option Int:=aw cfg 241 [.v (.cptr oZ a0 0)]
noncomputable def rf.a (x0:mI) (x12:List D6) (x13 x14:Int):Option Int:=LA 241 Tryz.f241 [1,0,1,0] ⟨74,af [(0,.v (.cptr oZ x0 0)),vL 12 Y1 x12,vI 13 x13,vI 14 x14],ai []⟩
noncomputable def rf.b (x0:mI) (x59:List D7) (x60 x61:Int):Option Int:=LA 241 Tryz.f241 [1,1,0,1,0] ⟨74,af [(0,.v (.cptr oZ x0 0)),vL 59 (.pair .str .str) x59,vI 60 x60,vI 61 x61],ai []⟩
theorem OT (a0:mI):rf a0=rf.a a0 a0.2.2.2.2.1 (a0.2.2.2.2.1.length:Int) 0:=
 (aa cfg 241 _).trans (by kernel_rfl)
theorem rf.a_eq (x0:mI) (x12:List D6) (x13 x14:Int):rf.a x0 x12 x13 x14=bif (decide (x14<x13))then(bif (aq x14 (x12.length))then((Jv x0.2.1 ((rd (τ:=Y1) x12 x14).1)).bind fun r1=>aA (fun kr13=>bif (rd (τ:=Y1) x12 x14).2.1 then kr13 (decide (r1<0))else kr13 false) fun(r2:Bool)=>bif r2 then some 23 else(aA (fun kr10=>bif (rd (τ:=Y1) x12 x14).2.1 then(bif (aq r1 (x0.2.1.length))then kr10 (!decide ((rd (τ:=aL) x0.2.1 r1).2.1=1))else none)else kr10 false) fun(r4:Bool)=>bif r4 then some 26 else(bif (!(rd (τ:=Y1) x12 x14).2.1)then(bif (decide (r1≥0))then some 24 else rf.a x0 x12 x13 (IntKind.wrap .i64 (x14+1)))else rf.a x0 x12 x13 (IntKind.wrap .i64 (x14+1)))))else none)else rf.b x0 x0.2.2.2.2.2.1 (x0.2.2.2.2.2.1.length:Int) 0:=
 (ak cfg 241 _ _ _).trans (by kernel_rfl)
theorem rf.b_eq (x0:mI) (x59:List D7) (x60 x61:Int):rf.b x0 x59 x60 x61=bif (decide (x61<x60))then(bif (aq x61 (x59.length))then((Jv x0.2.1 ((rd (τ:=(.pair .str .str)) x59 x61).1)).bind fun r18=>bif (decide (r18≥0))then some 24 else rf.b x0 x59 x60 (IntKind.wrap .i64 (x61+1)))else none)else some 0:=
 (ak cfg 241 _ _ _).trans (by kernel_rfl)
noncomputable def Rv (a0:Int×Int×Int) (a1:Int):Option Sy:=aw cfg 242 [.agg [.int .i64 a0.1,.int .i64 a0.2.1,.int .i64 a0.2.2],.v (.int .i64 a1)]
theorem OU (a0:Int×Int×Int) (a1:Int):Rv a0 a1=bif (decide ((IntKind.wrap .i64 ((IntKind.wrap .i64 ((IntKind.wrap .i64 (a1+7)).tdiv 8))*8))>(IntKind.wrap .i64 ((IntKind.wrap .i64 (a0.1+a0.2.1))-a0.2.2))))then some (a0,0,false)else some ((a0.1,a0.2.1,(IntKind.wrap .i64 (a0.2.2+(IntKind.wrap .i64 ((IntKind.wrap .i64 ((IntKind.wrap .i64 (a1+7)).tdiv 8))*8))))),a0.2.2,true):=
 (aa cfg 242 _).trans (by kernel_rfl)
noncomputable def xC (a0 a1:Int):Option ByteArray:=aw cfg 252 [.v (.int .i64 a0),.v (.int .i64 a1)]
noncomputable def xC.a (x0 x1:Int) (x5:List Int):Option ByteArray:=LA 252 Tryz.f252 [1,1,0,0] ⟨19,af [vI 0 x0,vI 1 x1,(5,.v (.own 672))],ai [(672,.rows 5 (.int .u8) .no x5)]⟩
theorem OV (a0 a1:Int):xC a0 a1=xC.a a0 a1 []:=
 (aa cfg 252 _).trans (by kernel_rfl)
theorem xC.a_eq (x0 x1:Int) (x5:List Int):xC.a x0 x1 x5=bif (decide (x1>0))then(bif (ay ((x5.length)+([(IntKind.wrap .u8 (x0))].length)) 1)then xC.a (lZ .i64 x0 8) (IntKind.wrap .i64 (x1-1)) (x5++[(IntKind.wrap .u8 (x0))])else none)else some (av x5):=
 (ak cfg 252 _ _ _).trans (by kernel_rfl)
noncomputable def rg (a0:mI) (a1:ByteArray):Option (Int×Bool):=aw cfg 290 [.v (.cptr oZ a0 0),.v (.str a1)]
noncomputable def rg.a (x0:mI) (x1:ByteArray) (x15:List D6) (x16 x17:Int):Option (Int×Bool):=LA 290 Tryz.f290 [1,0,1,0] ⟨80,af [(0,.v (.cptr oZ x0 0)),(1,.v (.str x1)),vL 15 Y1 x15,vI 16 x16,vI 17 x17],ai []⟩
noncomputable def rg.b (x0:mI) (x1:ByteArray) (x44:List D7) (x45 x46:Int):Option (Int×Bool):=LA 290 Tryz.f290 [1,1,0,1,0] ⟨80,af [(0,.v (.cptr oZ x0 0)),(1,.v (.str x1)),vL 44 (.pair .str .str) x44,vI 45 x45,vI 46 x46],ai []⟩
theorem OW (a0:mI) (a1:ByteArray):rg a0 a1=rg.a a0 a1 a0.2.2.2.2.1 (a0.2.2.2.2.1.length:Int) 0:=
 (aa cfg 290 _).trans (by kernel_rfl)
theorem rg.a_eq (x0:mI) (x1:ByteArray) (x15:List D6) (x16 x17:Int):rg.a x0 x1 x15 x16 x17=bif (decide (x17<x16))then(bif (aq x17 (x15.length))then(bif (bh ((rd (τ:=Y1) x15 x17).1) x1)then(bif (!(rd (τ:=Y1) x15 x17).2.1)then(bif (aq x17 (x0.1.1.length))then some ((rd (τ:=(.int .i64)) x0.1.1 x17),true)else none)else rg.a x0 x1 x15 x16 (IntKind.wrap .i64 (x17+1)))else rg.a x0 x1 x15 x16 (IntKind.wrap .i64 (x17+1)))else none)else rg.b x0 x1 x0.2.2.2.2.2.1 (x0.2.2.2.2.2.1.length:Int) 0:=
 (ak cfg 290 _ _ _).trans (by kernel_rfl)
theorem rg.b_eq (x0:mI) (x1:ByteArray) (x44:List D7) (x45 x46:Int):rg.b x0 x1 x44 x45 x46=bif (decide (x46<x45))then(bif (aq x46 (x44.length))then(bif (bh ((rd (τ:=(.pair .str .str)) x44 x46).1) x1)then(bif (aq x46 (x0.1.2.2.1.length))then some ((rd (τ:=(.int .i64)) x0.1.2.2.1 x46),true)else none)else rg.b x0 x1 x44 x45 (IntKind.wrap .i64 (x46+1)))else none)else((Jv x0.2.1 x1).bind fun r5=>bif (decide (r5<0))then some (0,false)else(bif (aq r5 (x0.2.1.length))then some ((rd (τ:=aL) x0.2.1 r5).2.2.1,true)else none)):=
 (ak cfg 290 _ _ _).trans (by kernel_rfl)
noncomputable def Rw (a0:ByteArray) (a1:Int) (a2:ByteArray):Option ByteArray:=aw cfg 291 [.v (.str a0),.v (.int .i64 a1),.v (.str a2)]
theorem OX (a0:ByteArray) (a1:Int) (a2:ByteArray):Rw a0 a1 a2=bif (decide (0≤0)&&decide (0≤a1)&&decide (a1≤(a0.size:Int)))then(bif (decide ((a0.extract (Int.toNat 0) (Int.toNat a1)).size+a2.size≤9223372036854775807))then(bif (decide (0≤(IntKind.wrap .i64 (a1+(a2.size:Int))))&&decide ((IntKind.wrap .i64 (a1+(a2.size:Int)))≤(a0.size:Int))&&decide ((a0.size:Int)≤(a0.size:Int)))then(bif (decide (((a0.extract (Int.toNat 0) (Int.toNat a1))++a2).size+(a0.extract (Int.toNat (IntKind.wrap .i64 (a1+(a2.size:Int)))) (Int.toNat (a0.size:Int))).size≤9223372036854775807))then some (((a0.extract (Int.toNat 0) (Int.toNat a1))++a2)++(a0.extract (Int.toNat (IntKind.wrap .i64 (a1+(a2.size:Int)))) (Int.toNat (a0.size:Int))))else none)else none)else none)else none:=
 (aa cfg 291 _).trans (by kernel_rfl)
noncomputable def Qs (a0:Int):Option Int:=aw cfg 342 [.v (.int .i64 a0)]
theorem OY (a0:Int):Qs a0=some (tY .i64 (IntKind.wrap .i64 (a0+2048)) 4095):=
 (aa cfg 342 _).trans (by kernel_rfl)
noncomputable def Pj (a0:Int):Option Int:=aw cfg 343 [.v (.int .i64 a0)]
theorem OZ (a0:Int):Pj a0=(Qs a0).bind fun r1=>some (IntKind.wrap .i64 (a0-r1)):=
 (aa cfg 343 _).trans (by kernel_rfl)
noncomputable def Rx (a0:cG):Option Bool:=aw cfg 344 [.agg [.int .i64 a0.1,.int .i64 a0.2.1,.int .i64 a0.2.2.1,.int .i64 a0.2.2.2.1,.int .i64 a0.2.2.2.2]]
theorem O0 (a0:cG):Rx a0=(Qq a0.1).bind fun r1=>bif (decide (r1.1=3))then some (!decide (a0.1=4))else some false:=
 (aa cfg 344 _).trans (by kernel_rfl)
noncomputable def Sx (a0:cG) (a1 a2 a3:Int):Option (Int×Bool):=aw cfg 325 [.agg [.int .i64 a0.1,.int .i64 a0.2.1,.int .i64 a0.2.2.1,.int .i64 a0.2.2.2.1,.int .i64 a0.2.2.2.2],.v (.int .i64 a1),.v (.int .i64 a2),.v (.int .i64 a3)]
theorem O1 (a0:cG) (a1 a2 a3:Int):Sx a0 a1 a2 a3=bif (decide (a1=1))then((Qs a2).bind fun r1=>some (r1,(decide (a0.1=1))))else(bif (decide (a1=2))then((Pj a2).bind fun r2=>(Rx a0).bind fun r3=>some (r2,r3))else(bif (decide (a1=3))then((Pj a2).bind fun r4=>(Ph a0.1).bind fun r5=>some (r4,r5))else(bif (decide (a1=4))then((Qs (IntKind.wrap .i64 (a2-a3))).bind fun r6=>some (r6,(decide (a0.1=2))))else(bif (decide (a1=5))then((Pj (IntKind.wrap .i64 (a2-(IntKind.wrap .i64 (a3-4))))).bind fun r7=>(Rx a0).bind fun r8=>some (r7,r8))else(bif (decide (a1=6))then((Pj (IntKind.wrap .i64 (a2-(IntKind.wrap .i64 (a3-4))))).bind fun r9=>(Ph a0.1).bind fun r10=>some (r9,r10))else(bif (decide (a1=7))then some ((IntKind.wrap .i64 (a2-a3)),(decide (a0.1=3)))else((Rs a0.1).bind fun r11=>some ((IntKind.wrap .i64 (a2-a3)),r11)))))))):=
 (aa cfg 325 _).trans (by kernel_rfl)
end Go.Proofs.YtnjljkceeijaaaaGreat.S
