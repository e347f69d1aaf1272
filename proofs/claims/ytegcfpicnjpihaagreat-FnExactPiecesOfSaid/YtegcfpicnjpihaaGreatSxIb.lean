import Derived.Test.YtegcfpicnjpihaaGreatSxIa
import Derived.Test.YtegcfpicnjpihaaGreatProg
namespace Go.Proofs.YtegcfpicnjpihaaGreat.S
open Go.Ps
set_option linter.unusedVariables false
set_option maxRecDepth 100000
set_option maxHeartbeats 0
noncomputable def Z0 (a0:ByteArray) (a1:Int):Option ByteArray:=ar cfg 283 [.v (.str a0),.v (.int .i64 a1)]
noncomputable def Z1 (a0:List D0):Option (List D0):=ar cfg 293 [.v (.list Y0 a0)]
noncomputable def Z2 (a0:List D1) (a1:Int) (a2:List D1):Option (List D1):=ar cfg 316 [.v (.list Y3 a0),.v (.int .i64 a1),.v (.list Y3 a2)]
noncomputable def Z3 (a0:List D1):Option (List D1):=ar cfg 317 [.v (.list Y3 a0)]
theorem H5 (a0:ByteArray) (a1:Int):Z0 a0 a1=bif (decide (0≤a1)&&decide (a1≤9223372036854775807)&&decide (a0.size*a1.toNat≤140737488355328))then some (qB a0 a1)else none:=by
 refine(aa cfg 283 _).trans ?_
 show Option.bind (bif (decide (0≤a1)&&decide (a1≤9223372036854775807)&&decide (a0.size*a1.toNat≤140737488355328))then some _ else none) _=_
 cases (decide (0≤a1)&&decide (a1≤9223372036854775807)&&decide (a0.size*a1.toNat≤140737488355328))
 ·exact(by kernel_rfl)
 ·exact(by kernel_rfl)
theorem N6 (a0:List D0):Z1 a0=bif (av a0.length 56)then some a0 else none:=by
 refine(aa cfg 293 _).trans ?_
 show Option.bind (bif (av a0.length 56)then some _ else none) _=_
 cases (av a0.length 56)
 ·exact(by kernel_rfl)
 ·exact(by kernel_rfl)
theorem N7 (a0:List D1) (a1:Int) (a2:List D1):Z2 a0 a1 a2=bif (decide (a1=(a0.length:Int))&&av (a0.length+a2.length) 32)then some (a0++a2)else none:=by
 refine(aa cfg 316 _).trans ?_
 show Option.bind (bif (decide (a1=(a0.length:Int))&&av (a0.length+a2.length) 32)then some _ else none) _=_
 cases (decide (a1=(a0.length:Int))&&av (a0.length+a2.length) 32)
 ·exact(by kernel_rfl)
 ·exact(by kernel_rfl)
theorem N8 (a0:List D1):Z3 a0=bif (av a0.length 32)then some a0 else none:=by
 refine(aa cfg 317 _).trans ?_
 show Option.bind (bif (av a0.length 32)then some _ else none) _=_
 cases (av a0.length 32)
 ·exact(by kernel_rfl)
 ·exact(by kernel_rfl)
noncomputable def Z4 (a0:D2) (a1:Int):Option Int:=ar cfg 76 [.agg [.str a0.1,.int .i64 a0.2.1,.int .i64 a0.2.2.1,.int .i64 a0.2.2.2.1,.int .i64 a0.2.2.2.2],.v (.int .i64 a1)]
theorem N9 (a0:D2) (a1:Int):Z4 a0 a1=bif (decide ((IntKind.wrap .i64 (a1-(a0.1.size:Int)))<0))then some (-1)else some (IntKind.wrap .i64 (a1-(a0.1.size:Int))):=
 (aa cfg 76 _).trans (by kernel_rfl)
noncomputable def Z5 (a0:List D2) (a1:Int):Option Int:=ar cfg 36 [.v (.list Y4 a0),.v (.int .i64 a1)]
noncomputable def Z5.a (x0:List D2) (x1 x5:Int):Option Int:=LA 36 Tryz.f36 [1,1,1,0,1,0] ⟨27,af [vL 0 Y4 x0,vI 1 x1,vI 5 x5],ai []⟩
theorem Oa (a0:List D2) (a1:Int):Z5 a0 a1=bif (decide ((IntKind.wrap .i64 (a1-(a0.length:Int)))<0))then some (-1)else Z5.a a0 (IntKind.wrap .i64 (a1-(a0.length:Int))) 0:=
 (aa cfg 36 _).trans (by kernel_rfl)
theorem Z5.a_eq (x0:List D2) (x1 x5:Int):Z5.a x0 x1 x5=bif (decide (x5< (x0.length:Int)))then(bif (ao x5 (x0.length))then((Z4 (rd (τ:=Y4) x0 x5) x1).bind fun r1=>bif (decide (r1<0))then some (-1)else Z5.a x0 r1 (IntKind.wrap .i64 (x5+1)))else none)else some x1:=
 (ak cfg 36 _ _ _).trans (by kernel_rfl)
noncomputable def Z6 (a0:D3) (a1:Int):Option Int:=ar cfg 19 [.agg [.str a0.1,.str a0.2.1,.list Y4 a0.2.2],.v (.int .i64 a1)]
theorem Ob (a0:D3) (a1:Int):Z6 a0 a1=bif (decide ((IntKind.wrap .i64 (a1-(a0.1.size:Int)))<0))then some (-1)else(bif (decide ((IntKind.wrap .i64 ((IntKind.wrap .i64 (a1-(a0.1.size:Int)))-(a0.2.1.size:Int)))<0))then some (-1)else((Z5 a0.2.2 (IntKind.wrap .i64 ((IntKind.wrap .i64 (a1-(a0.1.size:Int)))-(a0.2.1.size:Int)))).bind fun r1=>bif (decide (r1<0))then some (-1)else some r1)):=
 (aa cfg 19 _).trans (by kernel_rfl)
noncomputable def Z7 (a0:D1) (a1:Int):Option Int:=ar cfg 125 [.agg [.int .i64 a0.1,.int .i64 a0.2.1,.str a0.2.2],.v (.int .i64 a1)]
theorem Oc (a0:D1) (a1:Int):Z7 a0 a1=bif (decide ((IntKind.wrap .i64 (a1-(a0.2.2.size:Int)))<0))then some (-1)else some (IntKind.wrap .i64 (a1-(a0.2.2.size:Int))):=
 (aa cfg 125 _).trans (by kernel_rfl)
noncomputable def Z8 (a0:List D1) (a1:Int):Option Int:=ar cfg 77 [.v (.list Y3 a0),.v (.int .i64 a1)]
noncomputable def Z8.a (x0:List D1) (x1 x5:Int):Option Int:=LA 77 Tryz.f77 [1,1,1,0,1,0] ⟨27,af [vL 0 Y3 x0,vI 1 x1,vI 5 x5],ai []⟩
theorem Od (a0:List D1) (a1:Int):Z8 a0 a1=bif (decide ((IntKind.wrap .i64 (a1-(a0.length:Int)))<0))then some (-1)else Z8.a a0 (IntKind.wrap .i64 (a1-(a0.length:Int))) 0:=
 (aa cfg 77 _).trans (by kernel_rfl)
theorem Z8.a_eq (x0:List D1) (x1 x5:Int):Z8.a x0 x1 x5=bif (decide (x5< (x0.length:Int)))then(bif (ao x5 (x0.length))then((Z7 (rd (τ:=Y3) x0 x5) x1).bind fun r1=>bif (decide (r1<0))then some (-1)else Z8.a x0 r1 (IntKind.wrap .i64 (x5+1)))else none)else some x1:=
 (ak cfg 77 _ _ _).trans (by kernel_rfl)
noncomputable def Z9 (a0:List D1) (a1:Int):Option Int:=ar cfg 37 [.agg [.list Y3 a0],.v (.int .i64 a1)]
theorem Oe (a0:List D1) (a1:Int):Z9 a0 a1=(Z8 a0 a1).bind fun r1=>bif (decide (r1<0))then some (-1)else some r1:=
 (aa cfg 37 _).trans (by kernel_rfl)
noncomputable def Za (a0:List Int) (a1:Int):Option Int:=ar cfg 126 [.v (.list (.int .i64) a0),.v (.int .i64 a1)]
theorem Of (a0:List Int) (a1:Int):Za a0 a1=bif (decide ((IntKind.wrap .i64 (a1-(a0.length:Int)))<0))then some (-1)else some (IntKind.wrap .i64 (a1-(a0.length:Int))):=
 (aa cfg 126 _).trans (by kernel_rfl)
noncomputable def Zb (a0:D4) (a1:Int):Option Int:=ar cfg 78 [.agg [.int .i64 a0.1,.seg (.int .i64) 32 a0.2.1.1,.int .i64 a0.2.1.2,.list (.int .i64) a0.2.2.1,.int .i64 a0.2.2.2],.v (.int .i64 a1)]
theorem Og (a0:D4) (a1:Int):Zb a0 a1=(Za a0.2.2.1 a1).bind fun r1=>bif (decide (r1<0))then some (-1)else some r1:=
 (aa cfg 78 _).trans (by kernel_rfl)
noncomputable def Zc (a0:List D4) (a1:Int):Option Int:=ar cfg 38 [.v (.list Y2 a0),.v (.int .i64 a1)]
noncomputable def Zc.a (x0:List D4) (x1 x5:Int):Option Int:=LA 38 Tryz.f38 [1,1,1,0,1,0] ⟨27,af [vL 0 Y2 x0,vI 1 x1,vI 5 x5],ai []⟩
theorem Oh (a0:List D4) (a1:Int):Zc a0 a1=bif (decide ((IntKind.wrap .i64 (a1-(a0.length:Int)))<0))then some (-1)else Zc.a a0 (IntKind.wrap .i64 (a1-(a0.length:Int))) 0:=
 (aa cfg 38 _).trans (by kernel_rfl)
theorem Zc.a_eq (x0:List D4) (x1 x5:Int):Zc.a x0 x1 x5=bif (decide (x5< (x0.length:Int)))then(bif (ao x5 (x0.length))then((Zb (rd (τ:=Y2) x0 x5) x1).bind fun r1=>bif (decide (r1<0))then some (-1)else Zc.a x0 r1 (IntKind.wrap .i64 (x5+1)))else none)else some x1:=
 (ak cfg 38 _ _ _).trans (by kernel_rfl)
noncomputable def Zd (a0:D0) (a1:Int):Option Int:=ar cfg 79 [.agg [.str a0.1,.int .i64 a0.2.1,.int .i64 a0.2.2.1,.int .i64 a0.2.2.2.1,.int .i64 a0.2.2.2.2.1,.int .i64 a0.2.2.2.2.2],.v (.int .i64 a1)]
theorem Oi (a0:D0) (a1:Int):Zd a0 a1=bif (decide ((IntKind.wrap .i64 (a1-(a0.1.size:Int)))<0))then some (-1)else some (IntKind.wrap .i64 (a1-(a0.1.size:Int))):=
 (aa cfg 79 _).trans (by kernel_rfl)
noncomputable def Ze (a0:List D0) (a1:Int):Option Int:=ar cfg 39 [.v (.list Y0 a0),.v (.int .i64 a1)]
noncomputable def Ze.a (x0:List D0) (x1 x5:Int):Option Int:=LA 39 Tryz.f39 [1,1,1,0,1,0] ⟨27,af [vL 0 Y0 x0,vI 1 x1,vI 5 x5],ai []⟩
theorem Oj (a0:List D0) (a1:Int):Ze a0 a1=bif (decide ((IntKind.wrap .i64 (a1-(a0.length:Int)))<0))then some (-1)else Ze.a a0 (IntKind.wrap .i64 (a1-(a0.length:Int))) 0:=
 (aa cfg 39 _).trans (by kernel_rfl)
theorem Ze.a_eq (x0:List D0) (x1 x5:Int):Ze.a x0 x1 x5=bif (decide (x5< (x0.length:Int)))then(bif (ao x5 (x0.length))then((Zd (rd (τ:=Y0) x0 x5) x1).bind fun r1=>bif (decide (r1<0))then some (-1)else Ze.a x0 r1 (IntKind.wrap .i64 (x5+1)))else none)else some x1:=
 (ak cfg 39 _ _ _).trans (by kernel_rfl)
noncomputable def Zf (a0:List (Int×Int×Int)) (a1:Int):Option Int:=ar cfg 40 [.v (.list aW a0),.v (.int .i64 a1)]
theorem Ok (a0:List (Int×Int×Int)) (a1:Int):Zf a0 a1=bif (decide ((IntKind.wrap .i64 (a1-(a0.length:Int)))<0))then some (-1)else some (IntKind.wrap .i64 (a1-(a0.length:Int))):=
 (aa cfg 40 _).trans (by kernel_rfl)
noncomputable def Zg (a0:D5) (a1:Int):Option Int:=ar cfg 20 [.agg [.list Y3 a0.1,.list Y2 a0.2.1,.list Y0 a0.2.2.1,.list aW a0.2.2.2],.v (.int .i64 a1)]
theorem Ol (a0:D5) (a1:Int):Zg a0 a1=(Z9 a0.1 a1).bind fun r1=>bif (decide (r1<0))then some (-1)else((Zc a0.2.1 r1).bind fun r2=>bif (decide (r2<0))then some (-1)else((Ze a0.2.2.1 r2).bind fun r3=>bif (decide (r3<0))then some (-1)else((Zf a0.2.2.2 r3).bind fun r4=>bif (decide (r4<0))then some (-1)else some r4))):=
 (aa cfg 20 _).trans (by kernel_rfl)
noncomputable def Zh (a0:D6) (a1:Int):Option Int:=ar cfg 194 [.agg [.str a0.1,.bool a0.2.1,.int .i64 a0.2.2.1,.str a0.2.2.2],.v (.int .i64 a1)]
theorem Om (a0:D6) (a1:Int):Zh a0 a1=bif (decide ((IntKind.wrap .i64 (a1-(a0.1.size:Int)))<0))then some (-1)else(bif (decide ((IntKind.wrap .i64 ((IntKind.wrap .i64 (a1-(a0.1.size:Int)))-(a0.2.2.2.size:Int)))<0))then some (-1)else some (IntKind.wrap .i64 ((IntKind.wrap .i64 (a1-(a0.1.size:Int)))-(a0.2.2.2.size:Int)))):=
 (aa cfg 194 _).trans (by kernel_rfl)
noncomputable def Zi (a0:List D6) (a1:Int):Option Int:=ar cfg 127 [.v (.list Y5 a0),.v (.int .i64 a1)]
noncomputable def Zi.a (x0:List D6) (x1 x5:Int):Option Int:=LA 127 Tryz.f127 [1,1,1,0,1,0] ⟨27,af [vL 0 Y5 x0,vI 1 x1,vI 5 x5],ai []⟩
theorem On (a0:List D6) (a1:Int):Zi a0 a1=bif (decide ((IntKind.wrap .i64 (a1-(a0.length:Int)))<0))then some (-1)else Zi.a a0 (IntKind.wrap .i64 (a1-(a0.length:Int))) 0:=
 (aa cfg 127 _).trans (by kernel_rfl)
theorem Zi.a_eq (x0:List D6) (x1 x5:Int):Zi.a x0 x1 x5=bif (decide (x5< (x0.length:Int)))then(bif (ao x5 (x0.length))then((Zh (rd (τ:=Y5) x0 x5) x1).bind fun r1=>bif (decide (r1<0))then some (-1)else Zi.a x0 r1 (IntKind.wrap .i64 (x5+1)))else none)else some x1:=
 (ak cfg 127 _ _ _).trans (by kernel_rfl)
noncomputable def Zj (a0:D7) (a1:Int):Option Int:=ar cfg 195 [.agg [.str a0.1,.str a0.2],.v (.int .i64 a1)]
theorem Oo (a0:D7) (a1:Int):Zj a0 a1=bif (decide ((IntKind.wrap .i64 (a1-(a0.1.size:Int)))<0))then some (-1)else(bif (decide ((IntKind.wrap .i64 ((IntKind.wrap .i64 (a1-(a0.1.size:Int)))-(a0.2.size:Int)))<0))then some (-1)else some (IntKind.wrap .i64 ((IntKind.wrap .i64 (a1-(a0.1.size:Int)))-(a0.2.size:Int)))):=
 (aa cfg 195 _).trans (by kernel_rfl)
noncomputable def Zk (a0:List D7) (a1:Int):Option Int:=ar cfg 128 [.v (.list (.pair .str .str) a0),.v (.int .i64 a1)]
noncomputable def Zk.a (x0:List D7) (x1 x5:Int):Option Int:=LA 128 Tryz.f128 [1,1,1,0,1,0] ⟨27,af [vL 0 (.pair .str .str) x0,vI 1 x1,vI 5 x5],ai []⟩
theorem Oq (a0:List D7) (a1:Int):Zk a0 a1=bif (decide ((IntKind.wrap .i64 (a1-(a0.length:Int)))<0))then some (-1)else Zk.a a0 (IntKind.wrap .i64 (a1-(a0.length:Int))) 0:=
 (aa cfg 128 _).trans (by kernel_rfl)
theorem Zk.a_eq (x0:List D7) (x1 x5:Int):Zk.a x0 x1 x5=bif (decide (x5< (x0.length:Int)))then(bif (ao x5 (x0.length))then((Zj (rd (τ:=(.pair .str .str)) x0 x5) x1).bind fun r1=>bif (decide (r1<0))then some (-1)else Zk.a x0 r1 (IntKind.wrap .i64 (x5+1)))else none)else some x1:=
 (ak cfg 128 _ _ _).trans (by kernel_rfl)
noncomputable def Zl (a0:D8) (a1:Int):Option Int:=ar cfg 196 [.agg [.int .i64 a0.1,.int .i64 a0.2.1,.int .i64 a0.2.2.1,.str a0.2.2.2.1,.int .i64 a0.2.2.2.2],.v (.int .i64 a1)]
theorem Ot (a0:D8) (a1:Int):Zl a0 a1=bif (decide ((IntKind.wrap .i64 (a1-(a0.2.2.2.1.size:Int)))<0))then some (-1)else some (IntKind.wrap .i64 (a1-(a0.2.2.2.1.size:Int))):=
 (aa cfg 196 _).trans (by kernel_rfl)
noncomputable def Zm (a0:List D8) (a1:Int):Option Int:=ar cfg 129 [.v (.list Y6 a0),.v (.int .i64 a1)]
noncomputable def Zm.a (x0:List D8) (x1 x5:Int):Option Int:=LA 129 Tryz.f129 [1,1,1,0,1,0] ⟨27,af [vL 0 Y6 x0,vI 1 x1,vI 5 x5],ai []⟩
theorem Ou (a0:List D8) (a1:Int):Zm a0 a1=bif (decide ((IntKind.wrap .i64 (a1-(a0.length:Int)))<0))then some (-1)else Zm.a a0 (IntKind.wrap .i64 (a1-(a0.length:Int))) 0:=
 (aa cfg 129 _).trans (by kernel_rfl)
theorem Zm.a_eq (x0:List D8) (x1 x5:Int):Zm.a x0 x1 x5=bif (decide (x5< (x0.length:Int)))then(bif (ao x5 (x0.length))then((Zl (rd (τ:=Y6) x0 x5) x1).bind fun r1=>bif (decide (r1<0))then some (-1)else Zm.a x0 r1 (IntKind.wrap .i64 (x5+1)))else none)else some x1:=
 (ak cfg 129 _ _ _).trans (by kernel_rfl)
noncomputable def Zn (a0:List (Int×Bool)) (a1:Int):Option Int:=ar cfg 130 [.v (.list (.pair (.int .i64) .bool) a0),.v (.int .i64 a1)]
theorem Ov (a0:List (Int×Bool)) (a1:Int):Zn a0 a1=bif (decide ((IntKind.wrap .i64 (a1-(a0.length:Int)))<0))then some (-1)else some (IntKind.wrap .i64 (a1-(a0.length:Int))):=
 (aa cfg 130 _).trans (by kernel_rfl)
noncomputable def Zo (a0:D9) (a1:Int):Option Int:=ar cfg 80 [.agg [.str a0.1,.int .i64 a0.2.1,.list Y5 a0.2.2.1,.list (.pair .str .str) a0.2.2.2.1,.list Y6 a0.2.2.2.2.1,.list (.pair (.int .i64) .bool) a0.2.2.2.2.2],.v (.int .i64 a1)]
theorem Ow (a0:D9) (a1:Int):Zo a0 a1=bif (decide ((IntKind.wrap .i64 (a1-(a0.1.size:Int)))<0))then some (-1)else((Zi a0.2.2.1 (IntKind.wrap .i64 (a1-(a0.1.size:Int)))).bind fun r1=>bif (decide (r1<0))then some (-1)else((Zk a0.2.2.2.1 r1).bind fun r2=>bif (decide (r2<0))then some (-1)else((Zm a0.2.2.2.2.1 r2).bind fun r3=>bif (decide (r3<0))then some (-1)else((Zn a0.2.2.2.2.2 r3).bind fun r4=>bif (decide (r4<0))then some (-1)else some r4)))):=
 (aa cfg 80 _).trans (by kernel_rfl)
noncomputable def Zp (a0:List ByteArray) (a1:Int):Option Int:=ar cfg 131 [.v (.list .str a0),.v (.int .i64 a1)]
noncomputable def Zp.a (x0:List ByteArray) (x1 x5:Int):Option Int:=LA 131 Tryz.f131 [1,1,1,0,1,0] ⟨28,af [vL 0 .str x0,vI 1 x1,vI 5 x5],ai []⟩
theorem Ox (a0:List ByteArray) (a1:Int):Zp a0 a1=bif (decide ((IntKind.wrap .i64 (a1-(a0.length:Int)))<0))then some (-1)else Zp.a a0 (IntKind.wrap .i64 (a1-(a0.length:Int))) 0:=
 (aa cfg 131 _).trans (by kernel_rfl)
theorem Zp.a_eq (x0:List ByteArray) (x1 x5:Int):Zp.a x0 x1 x5=bif (decide (x5< (x0.length:Int)))then(bif (ao x5 (x0.length))then(bif (decide ((IntKind.wrap .i64 (x1-((rd (τ:= .str) x0 x5).size:Int)))<0))then some (-1)else Zp.a x0 (IntKind.wrap .i64 (x1-((rd (τ:= .str) x0 x5).size:Int))) (IntKind.wrap .i64 (x5+1)))else none)else some x1:=
 (ak cfg 131 _ _ _).trans (by kernel_rfl)
noncomputable def Zq (a0:bX) (a1:Int):Option Int:=ar cfg 81 [.agg [.list (.int .i64) a0.1,.list .str a0.2.1,.list (.int .i64) a0.2.2.1,.list .str a0.2.2.2],.v (.int .i64 a1)]
theorem Oy (a0:bX) (a1:Int):Zq a0 a1=(Za a0.1 a1).bind fun r1=>bif (decide (r1<0))then some (-1)else((Zp a0.2.1 r1).bind fun r2=>bif (decide (r2<0))then some (-1)else((Za a0.2.2.1 r2).bind fun r3=>bif (decide (r3<0))then some (-1)else((Zp a0.2.2.2 r3).bind fun r4=>bif (decide (r4<0))then some (-1)else some r4))):=
 (aa cfg 81 _).trans (by kernel_rfl)
noncomputable def Zr (a0:List (Int×Int)) (a1:Int):Option Int:=ar cfg 82 [.v (.list Y9 a0),.v (.int .i64 a1)]
theorem Oz (a0:List (Int×Int)) (a1:Int):Zr a0 a1=bif (decide ((IntKind.wrap .i64 (a1-(a0.length:Int)))<0))then some (-1)else some (IntKind.wrap .i64 (a1-(a0.length:Int))):=
 (aa cfg 82 _).trans (by kernel_rfl)
noncomputable def Zs (a0:ef) (a1:Int):Option Int:=ar cfg 41 [.agg [.str a0.1.1,.int .i64 a0.1.2.1,.list Y5 a0.1.2.2.1,.list (.pair .str .str) a0.1.2.2.2.1,.list Y6 a0.1.2.2.2.2.1,.list (.pair (.int .i64) .bool) a0.1.2.2.2.2.2,.list (.int .i64) a0.2.1.1,.list .str a0.2.1.2.1,.list (.int .i64) a0.2.1.2.2.1,.list .str a0.2.1.2.2.2,.list Y9 a0.2.2],.v (.int .i64 a1)]
theorem OA (a0:ef) (a1:Int):Zs a0 a1=(Zo a0.1 a1).bind fun r1=>bif (decide (r1<0))then some (-1)else((Zq a0.2.1 r1).bind fun r2=>bif (decide (r2<0))then some (-1)else((Zr a0.2.2 r2).bind fun r3=>bif (decide (r3<0))then some (-1)else some r3)):=
 (aa cfg 41 _).trans (by kernel_rfl)
noncomputable def Zt (a0:List ef) (a1:Int):Option Int:=ar cfg 21 [.v (.list bJ a0),.v (.int .i64 a1)]
noncomputable def Zt.a (x0:List ef) (x1 x5:Int):Option Int:=LA 21 Tryz.f21 [1,1,1,0,1,0] ⟨27,af [vL 0 bJ x0,vI 1 x1,vI 5 x5],ai []⟩
theorem OB (a0:List ef) (a1:Int):Zt a0 a1=bif (decide ((IntKind.wrap .i64 (a1-(a0.length:Int)))<0))then some (-1)else Zt.a a0 (IntKind.wrap .i64 (a1-(a0.length:Int))) 0:=
 (aa cfg 21 _).trans (by kernel_rfl)
theorem Zt.a_eq (x0:List ef) (x1 x5:Int):Zt.a x0 x1 x5=bif (decide (x5< (x0.length:Int)))then(bif (ao x5 (x0.length))then((Zs (rd (τ:=bJ) x0 x5) x1).bind fun r1=>bif (decide (r1<0))then some (-1)else Zt.a x0 r1 (IntKind.wrap .i64 (x5+1)))else none)else some x1:=
 (ak cfg 21 _ _ _).trans (by kernel_rfl)
noncomputable def Zu (a0:nK) (a1:Int):Option Int:=ar cfg 5 [.agg [.str a0.1.1,.str a0.1.2.1,.list Y4 a0.1.2.2,.list Y3 a0.2.1.1,.list Y2 a0.2.1.2.1,.list Y0 a0.2.1.2.2.1,.list aW a0.2.1.2.2.2,.list bJ a0.2.2],.v (.int .i64 a1)]
theorem OC (a0:nK) (a1:Int):Zu a0 a1=(Z6 a0.1 a1).bind fun r1=>bif (decide (r1<0))then some (-1)else((Zg a0.2.1 r1).bind fun r2=>bif (decide (r2<0))then some (-1)else((Zt a0.2.2 r2).bind fun r3=>bif (decide (r3<0))then some (-1)else some r3)):=
 (aa cfg 5 _).trans (by kernel_rfl)
noncomputable def Zv (a0:Int):Option Bool:=ar cfg 259 [.v (.int .u8 a0)]
theorem OD (a0:Int):Zv a0=bif (decide (a0≥97))then(bif (decide (a0≤122))then some true else(bif (decide (a0≥65))then(bif (decide (a0≤90))then some true else some (decide (a0=95)))else some (decide (a0=95))))else(bif (decide (a0≥65))then(bif (decide (a0≤90))then some true else some (decide (a0=95)))else some (decide (a0=95))):=
 (aa cfg 259 _).trans (by kernel_rfl)
noncomputable def Zw (a0:Int):Option Bool:=ar cfg 260 [.v (.int .u8 a0)]
theorem OE (a0:Int):Zw a0=bif (decide (a0≥48))then some (decide (a0≤57))else some false:=
 (aa cfg 260 _).trans (by kernel_rfl)
noncomputable def Zx (a0:ByteArray):Option Bool:=ar cfg 197 [.v (.str a0)]
noncomputable def Zx.a (x0:ByteArray) (x3:Int):Option Bool:=LA 197 Tryz.f197 [1,1,0,1,0] ⟨36,af [(0,.v (.str x0)),vI 3 x3],ai []⟩
theorem OF (a0:ByteArray):Zx a0=bif (decide ((a0.size:Int)<1))then some false else(bif (decide ((a0.size:Int)>20))then some false else(bif (ao 0 a0.size)then((Zv (bt a0 0)).bind fun r1=>bif (!r1)then some false else Zx.a a0 1)else none)):=
 (aa cfg 197 _).trans (by kernel_rfl)
theorem Zx.a_eq (x0:ByteArray) (x3:Int):Zx.a x0 x3=bif (decide (x3< (x0.size:Int)))then(bif (ao x3 x0.size)then((Zv (bt x0 x3)).bind fun r6=>bif (!r6)then(bif (ao x3 x0.size)then((Zw (bt x0 x3)).bind fun r7=>bif (!r7)then some false else Zx.a x0 (IntKind.wrap .i64 (x3+1)))else none)else Zx.a x0 (IntKind.wrap .i64 (x3+1)))else none)else some true:=
 (ak cfg 197 _ _ _).trans (by kernel_rfl)
noncomputable def Zy (a0:D3):Option (Int×Int):=ar cfg 132 [.agg [.str a0.1,.str a0.2.1,.list Y4 a0.2.2]]
noncomputable def Zy.a (x1:D3) (x4 x5 x6:Int):Option (Int×Int):=LA 132 Tryz.f132 [1,1,1,0,1,0] ⟨139,af [vP 1 191,vI 4 x4,vI 5 x5,vI 6 x6],ai [(191,.box [.str x1.1,.str x1.2.1,.list Y4 x1.2.2])]⟩
noncomputable def Zy.b (x1:D3) (x4 x5 x6:Int) (x7:D2) (x8:Int):Option (Int×Int):=LA 132 Tryz.f132 [1,1,1,0,1,0,0,1,0,0,1,1,0,1,0] ⟨139,af [vP 1 191,vI 4 x4,vI 5 x5,vI 6 x6,vP 7 959,vI 8 x8],ai [(191,.box [.str x1.1,.str x1.2.1,.list Y4 x1.2.2]),(959,.box [.str x7.1,.int .i64 x7.2.1,.int .i64 x7.2.2.1,.int .i64 x7.2.2.2.1,.int .i64 x7.2.2.2.2])]⟩
theorem OG (a0:D3):Zy a0=Zy.a a0 0 0 0:=
 (aa cfg 132 _).trans (by kernel_rfl)
theorem Zy.a_eq (x1:D3) (x4 x5 x6:Int):Zy.a x1 x4 x5 x6=bif (decide (x6< (x1.2.2.length:Int)))then(bif (ao x6 (x1.2.2.length))then((Zx ((rd (τ:=Y4) x1.2.2 x6).1)).bind fun r3=>bif (!r3)then some (x6,3)else Zy.b x1 x4 x5 x6 (rd (τ:=Y4) x1.2.2 x6) 0)else none)else(bif (decide ((x1.2.2.length:Int)=0))then some (0,23)else(bif (ao 0 (x1.2.2.length))then(bif (!decide ((rd (τ:=Y4) x1.2.2 0).2.1=1))then some (0,23)else(bif (!decide (x4=(x1.1.size:Int)))then some (0,22)else some (0,0)))else none)):=
 (ak cfg 132 _ _ _).trans (by kernel_rfl)
theorem Zy.b_eq (x1:D3) (x4 x5 x6:Int) (x7:D2) (x8:Int):Zy.b x1 x4 x5 x6 x7 x8=bif (decide (x8<x6))then(bif (ao x8 (x1.2.2.length))then(bif (bu ((rd (τ:=Y4) x1.2.2 x8).1) x7.1)then some (x6,24)else Zy.b x1 x4 x5 x6 x7 (IntKind.wrap .i64 (x8+1)))else none)else(bif (decide (x7.2.1=1))then(bif (!decide (x7.2.2.1=x4))then some (x6,4)else(bif (decide (x7.2.2.2.1<1))then some (x6,4)else(bif (decide (x7.2.2.2.1>(IntKind.wrap .i64 ((x1.1.size:Int)-x4))))then some (x6,4)else Zy.a x1 (IntKind.wrap .i64 (x4+x7.2.2.2.1)) x5 (IntKind.wrap .i64 (x6+1)))))else(bif (decide (x7.2.1=2))then(bif (decide (x7.2.2.1<x5))then some (x6,4)else(bif (decide (x7.2.2.1>(x1.2.1.size:Int)))then some (x6,4)else(bif (decide (x7.2.2.2.1<1))then some (x6,4)else(bif (decide (x7.2.2.2.1>(IntKind.wrap .i64 ((x1.2.1.size:Int)-x7.2.2.1))))then some (x6,4)else(bif (!decide ((x7.2.2.1.tmod 8)=0))then some (x6,4)else(bif (!decide ((x7.2.2.2.1.tmod 8)=0))then some (x6,4)else(bif (!decide (x7.2.2.2.2=0))then some (x6,17)else Zy.a x1 x4 (IntKind.wrap .i64 (x7.2.2.1+x7.2.2.2.1)) (IntKind.wrap .i64 (x6+1)))))))))else some (x6,26))):=
 (ak cfg 132 _ _ _).trans (by kernel_rfl)
noncomputable def Zz (a0:D2):Option Int:=ar cfg 135 [.agg [.str a0.1,.int .i64 a0.2.1,.int .i64 a0.2.2.1,.int .i64 a0.2.2.2.1,.int .i64 a0.2.2.2.2]]
theorem H6 (a0:D2):Zz a0=bif (decide (a0.2.1=1))then some (IntKind.wrap .i64 (4096+a0.2.2.1))else some (IntKind.wrap .i64 (16384+a0.2.2.1)):=
 (aa cfg 135 _).trans (by kernel_rfl)
noncomputable def Cq (a0:List D2):Option (List Int):=ar cfg 133 [.v (.list Y4 a0)]
noncomputable def Cq.a (x0:List D2) (x3:List Int) (x4:Int):Option (List Int):=LA 133 Tryz.f133 [1,1,0,1,0] ⟨27,af [vL 0 Y4 x0,(3,.v (.own 416)),vI 4 x4],ai [(416,.rows 3 (.int .i64) .no x3)]⟩
theorem IA (a0:List D2):Cq a0=Cq.a a0 [] 0:=
 (aa cfg 133 _).trans (by kernel_rfl)
theorem Cq.a_eq (x0:List D2) (x3:List Int) (x4:Int):Cq.a x0 x3 x4=bif (decide (x4< (x0.length:Int)))then(bif (ao x4 (x0.length))then(bif (decide ((rd (τ:=Y4) x0 x4).2.1=1))then(bif (ao x4 (x0.length))then((Zz (rd (τ:=Y4) x0 x4)).bind fun r1=>bif (av ((x3.length)+([r1].length)) 8)then Cq.a x0 (x3++[r1]) (IntKind.wrap .i64 (x4+1))else none)else none)else Cq.a x0 x3 (IntKind.wrap .i64 (x4+1)))else none)else some x3:=
 (ak cfg 133 _ _ _).trans (by kernel_rfl)
noncomputable def nj (a0 a1 a2:Int):Option Bool:=ar cfg 142 [.v (.int .i64 a0),.v (.int .i64 a1),.v (.int .i64 a2)]
theorem xQ (a0 a1 a2:Int):nj a0 a1 a2=bif (decide (a0≥a1))then some (decide (a0≤a2))else some false:=
 (aa cfg 142 _).trans (by kernel_rfl)
noncomputable def OH (a0:Int):Option Bool:=ar cfg 198 [.v (.int .i64 a0)]
theorem IB (a0:Int):OH a0=(nj a0 16 128).bind fun r1=>bif r1 then some (decide ((a0.tmod 16)=0))else some false:=
 (aa cfg 198 _).trans (by kernel_rfl)
noncomputable def Qe (a0:ByteArray):Option Bool:=ar cfg 199 [.v (.str a0)]
theorem IC (a0:ByteArray):Qe a0=bif (decide (((a0.size:Int).tmod 4)=0))then some (decide ((a0.size:Int)≤256))else some false:=
 (aa cfg 199 _).trans (by kernel_rfl)
noncomputable def wj (a0:ByteArray) (a1 a2:Int):Option Int:=ar cfg 213 [.v (.str a0),.v (.int .i64 a1),.v (.int .i64 a2)]
noncomputable def wj.a (x0:ByteArray) (x1 x7 x8:Int):Option Int:=LA 213 Tryz.f213 [1,1,0,1,0] ⟨26,af [(0,.v (.str x0)),vI 1 x1,(7,.v (.int .u64 x7)),vI 8 x8],ai []⟩
theorem ID (a0:ByteArray) (a1 a2:Int):wj a0 a1 a2=wj.a a0 a1 0 (IntKind.wrap .i64 (a2-1)):=
 (aa cfg 213 _).trans (by kernel_rfl)
theorem wj.a_eq (x0:ByteArray) (x1 x7 x8:Int):wj.a x0 x1 x7 x8=bif (decide (x8≥0))then(bif (ao (IntKind.wrap .i64 (x1+x8)) x0.size)then wj.a x0 x1 (IntKind.wrap .u64 ((IntKind.wrap .u64 (256*x7))+(IntKind.wrap .u64 ((bt x0 (IntKind.wrap .i64 (x1+x8))))))) (IntKind.wrap .i64 (x8-1))else none)else some (IntKind.wrap .i64 (x7)):=
 (ak cfg 213 _ _ _).trans (by kernel_rfl)
noncomputable def H7 (a0:Int):Option NR:=ar cfg 266 [.v (.int .i64 a0)]
theorem IE (a0:Int):H7 a0=bif (decide (a0=1))then some (1,55,0,0)else(bif (decide (a0=2))then some (1,23,0,0)else(bif (decide (a0=3))then some (2,111,0,0)else(bif (decide (a0=4))then some (3,103,0,0)else(bif (decide (a0=5))then some (4,99,0,0)else(bif (decide (a0=6))then some (4,99,1,0)else(bif (decide (a0=7))then some (4,99,4,0)else(bif (decide (a0=8))then some (4,99,5,0)else(bif (decide (a0=9))then some (4,99,6,0)else(bif (decide (a0=10))then some (4,99,7,0)else(bif (decide (a0=11))then some (3,3,0,0)else(bif (decide (a0=12))then some (3,3,1,0)else(bif (decide (a0=13))then some (3,3,2,0)else(bif (decide (a0=14))then some (3,3,3,0)else(bif (decide (a0=15))then some (3,3,4,0)else(bif (decide (a0=16))then some (3,3,5,0)else(bif (decide (a0=17))then some (3,3,6,0)else(bif (decide (a0=18))then some (5,35,0,0)else(bif (decide (a0=19))then some (5,35,1,0)else(bif (decide (a0=20))then some (5,35,2,0)else(bif (decide (a0=21))then some (5,35,3,0)else(bif (decide (a0=22))then some (3,19,0,0)else(bif (decide (a0=23))then some (3,19,2,0)else(bif (decide (a0=24))then some (3,19,3,0)else(bif (decide (a0=25))then some (3,19,4,0)else(bif (decide (a0=26))then some (3,19,6,0)else(bif (decide (a0=27))then some (3,19,7,0)else(bif (decide (a0=28))then some (6,19,1,0)else(bif (decide (a0=29))then some (6,19,5,0)else(bif (decide (a0=30))then some (6,19,5,32)else(bif (decide (a0=31))then some (8,51,0,0)else(bif (decide (a0=32))then some (8,51,0,32)else(bif (decide (a0=33))then some (8,51,1,0)else(bif (decide (a0=34))then some (8,51,2,0)else(bif (decide (a0=35))then some (8,51,3,0)else(bif (decide (a0=36))then some (8,51,4,0)else(bif (decide (a0=37))then some (8,51,5,0)else(bif (decide (a0=38))then some (8,51,5,32)else(bif (decide (a0=39))then some (8,51,6,0)else(bif (decide (a0=40))then some (8,51,7,0)else(bif (decide (a0=41))then some (3,27,0,0)else(bif (decide (a0=42))then some (7,27,1,0)else(bif (decide (a0=43))then some (7,27,5,0)else(bif (decide (a0=44))then some (7,27,5,32)else(bif (decide (a0=45))then some (8,59,0,0)else(bif (decide (a0=46))then some (8,59,0,32)else(bif (decide (a0=47))then some (8,59,1,0)else(bif (decide (a0=48))then some (8,59,5,0)else(bif (decide (a0=49))then some (8,59,5,32)else(bif (decide (a0=50))then some (8,51,0,1)else(bif (decide (a0=51))then some (8,51,1,1)else(bif (decide (a0=52))then some (8,51,2,1)else(bif (decide (a0=53))then some (8,51,3,1)else(bif (decide (a0=54))then some (8,51,4,1)else(bif (decide (a0=55))then some (8,51,5,1)else(bif (decide (a0=56))then some (8,51,6,1)else(bif (decide (a0=57))then some (8,51,7,1)else(bif (decide (a0=58))then some (8,59,0,1)else(bif (decide (a0=59))then some (8,59,4,1)else(bif (decide (a0=60))then some (8,59,5,1)else(bif (decide (a0=61))then some (8,59,6,1)else(bif (decide (a0=62))then some (8,59,7,1)else(bif (decide (a0=63))then some (9,115,0,0)else(bif (decide (a0=64))then some (9,115,0,1)else some (0,0,0,0)))))))))))))))))))))))))))))))))))))))))))))))))))))))))))))))):=
 (aa cfg 266 _).trans (by kernel_rfl)
noncomputable def wk (a0 a1:Int):Option Int:=ar cfg 276 [.v (.int .i64 a0),.v (.int .i64 a1)]
theorem IF (a0 a1:Int):wk a0 a1=bif (decide ((IntKind.wrap .u64 (a1))<0))then none else(bif (decide (((lr .u64 (IntKind.wrap .u64 (a0)) (IntKind.wrap .u64 (a1))).tmod 2)=1))then some 1 else some 0):=
 (aa cfg 276 _).trans (by kernel_rfl)
noncomputable def fO (a0 a1 a2 a3:Int):Option Int:=ar cfg 275 [.v (.int .i64 a0),.v (.int .i64 a1),.v (.int .i64 a2),.v (.int .i64 a3)]
noncomputable def fO.a (x0 x1 x2 x3 x9 x10:Int):Option Int:=LA 275 Tryz.f275 [1,1,0,1,0] ⟨39,af [vI 0 x0,vI 1 x1,vI 2 x2,vI 3 x3,vI 9 x9,vI 10 x10],ai []⟩
theorem IG (a0 a1 a2 a3:Int):fO a0 a1 a2 a3=fO.a a0 a1 a2 a3 0 31:=
 (aa cfg 275 _).trans (by kernel_rfl)
theorem fO.a_eq (x0 x1 x2 x3 x9 x10:Int):fO.a x0 x1 x2 x3 x9 x10=bif (decide (x10≥0))then((wk x0 x10).bind fun r1=>bif (decide (x10≥x1))then(bif (decide (x10< (IntKind.wrap .i64 (x1+x2))))then((wk x3 (IntKind.wrap .i64 (x10-x1))).bind fun r6=>fO.a x0 x1 x2 x3 (IntKind.wrap .i64 ((IntKind.wrap .i64 (2*x9))+r6)) (IntKind.wrap .i64 (x10-1)))else fO.a x0 x1 x2 x3 (IntKind.wrap .i64 ((IntKind.wrap .i64 (2*x9))+r1)) (IntKind.wrap .i64 (x10-1)))else fO.a x0 x1 x2 x3 (IntKind.wrap .i64 ((IntKind.wrap .i64 (2*x9))+r1)) (IntKind.wrap .i64 (x10-1)))else some x9:=
 (ak cfg 275 _ _ _).trans (by kernel_rfl)
noncomputable def gM (a0:bQ):Option Int:=ar cfg 215 [.agg [.int .i64 a0.1,.int .i64 a0.2.1,.int .i64 a0.2.2.1,.int .i64 a0.2.2.2.1,.int .i64 a0.2.2.2.2]]
noncomputable def gM.a (x1:bQ) (x4 x5:Int):Option Int:=LA 215 Tryz.f215 [1,1,1,0,1,0,1,1,1,0,1,1,0] ⟨184,af [vP 1 191,vI 4 x4,vI 5 x5],ai [(191,.box [.int .i64 x1.1,.int .i64 x1.2.1,.int .i64 x1.2.2.1,.int .i64 x1.2.2.2.1,.int .i64 x1.2.2.2.2])]⟩
noncomputable def gM.b (x1:bQ) (x4 x7:Int):Option Int:=LA 215 Tryz.f215 [1,1,1,0,1,0,1,1,1,1,1,1,1,0,1,1,1,1,0] ⟨184,af [vP 1 191,vI 4 x4,vI 7 x7],ai [(191,.box [.int .i64 x1.1,.int .i64 x1.2.1,.int .i64 x1.2.2.1,.int .i64 x1.2.2.2.1,.int .i64 x1.2.2.2.2])]⟩
noncomputable def gM.c (x1:bQ) (x4 x9:Int):Option Int:=LA 215 Tryz.f215 [1,1,1,0,1,0,1,1,1,1,1,1,1,1,1,0,1,1,1,1,1,0] ⟨184,af [vP 1 191,vI 4 x4,vI 9 x9],ai [(191,.box [.int .i64 x1.1,.int .i64 x1.2.1,.int .i64 x1.2.2.1,.int .i64 x1.2.2.2.1,.int .i64 x1.2.2.2.2])]⟩
theorem IH (a0:bQ):gM a0=(H7 a0.1).bind fun r1=>bif (decide (r1.1=1))then((fO r1.2.1 7 5 a0.2.1).bind fun r2=>(fO r2 12 20 (IntKind.wrap .i64 (a0.2.2.2.2.tdiv 4096))).bind fun r3=>some r3)else(bif (decide (r1.1=2))then((fO r1.2.1 7 5 a0.2.1).bind fun r4=>gM.a a0 r4 1)else(bif (decide (r1.1=3))then((fO r1.2.1 7 5 a0.2.1).bind fun r5=>(fO r5 12 3 r1.2.2.1).bind fun r6=>(fO r6 15 5 a0.2.2.1).bind fun r7=>(fO r7 20 12 a0.2.2.2.2).bind fun r8=>some r8)else(bif (decide (r1.1=4))then((fO r1.2.1 12 3 r1.2.2.1).bind fun r9=>(fO r9 15 5 a0.2.2.1).bind fun r10=>(fO r10 20 5 a0.2.2.2.1).bind fun r11=>gM.b a0 r11 1)else(bif (decide (r1.1=5))then((fO r1.2.1 7 5 a0.2.2.2.2).bind fun r12=>(fO r12 12 3 r1.2.2.1).bind fun r13=>(fO r13 15 5 a0.2.2.1).bind fun r14=>(fO r14 20 5 a0.2.2.2.1).bind fun r15=>gM.c a0 r15 5)else(ax (fun kr30=>bif (decide (r1.1=6))then kr30 (decide (r1.1=6))else(bif (decide (r1.1=7))then kr30 (decide (r1.1=7))else kr30 (decide (r1.1=8)))) fun(r17:Bool)=>bif r17 then((fO r1.2.1 7 5 a0.2.1).bind fun r18=>(fO r18 12 3 r1.2.2.1).bind fun r19=>(fO r19 15 5 a0.2.2.1).bind fun r20=>(fO r20 25 7 r1.2.2.2).bind fun r21=>bif (decide (r1.1=6))then((fO r21 20 6 a0.2.2.2.2).bind fun r22=>some r22)else(bif (decide (r1.1=7))then((fO r21 20 5 a0.2.2.2.2).bind fun r23=>some r23)else((fO r21 20 5 a0.2.2.2.1).bind fun r24=>some r24)))else(bif (decide (r1.1=9))then((fO r1.2.1 20 12 r1.2.2.2).bind fun r27=>some r27)else some r1.2.1)))))):=
 (aa cfg 215 _).trans (by kernel_rfl)
theorem gM.a_eq (x1:bQ) (x4 x5:Int):gM.a x1 x4 x5=bif (decide (x5<21))then(ax (fun kr47=>bif (decide (x5>10))then kr47 (IntKind.wrap .i64 (9+x5))else kr47 (IntKind.wrap .i64 (20+x5))) fun(r37:Int)=>ax (fun kr46=>bif (decide (x5>11))then kr46 x5 else kr46 r37) fun(r38:Int)=>bif (decide (x5=20))then((wk x1.2.2.2.2 x5).bind fun r42=>(fO x4 31 1 r42).bind fun r43=>gM.a x1 r43 (IntKind.wrap .i64 (x5+1)))else((wk x1.2.2.2.2 x5).bind fun r44=>(fO x4 r38 1 r44).bind fun r45=>gM.a x1 r45 (IntKind.wrap .i64 (x5+1))))else some x4:=
 (ak cfg 215 _ _ _).trans (by kernel_rfl)
theorem gM.b_eq (x1:bQ) (x4 x7:Int):gM.b x1 x4 x7=bif (decide (x7<13))then(ax (fun kr61=>bif (decide (x7>4))then kr61 (IntKind.wrap .i64 (20+x7))else kr61 (IntKind.wrap .i64 (7+x7))) fun(r51:Int)=>ax (fun kr60=>bif (decide (x7=11))then kr60 7 else kr60 r51) fun(r52:Int)=>bif (decide (x7=12))then((wk x1.2.2.2.2 x7).bind fun r56=>(fO x4 31 1 r56).bind fun r57=>gM.b x1 r57 (IntKind.wrap .i64 (x7+1)))else((wk x1.2.2.2.2 x7).bind fun r58=>(fO x4 r52 1 r58).bind fun r59=>gM.b x1 r59 (IntKind.wrap .i64 (x7+1))))else some x4:=
 (ak cfg 215 _ _ _).trans (by kernel_rfl)
theorem gM.c_eq (x1:bQ) (x4 x9:Int):gM.c x1 x4 x9=bif (decide (x9<12))then((wk x1.2.2.2.2 x9).bind fun r65=>(fO x4 (IntKind.wrap .i64 (20+x9)) 1 r65).bind fun r66=>gM.c x1 r66 (IntKind.wrap .i64 (x9+1)))else some x4:=
 (ak cfg 215 _ _ _).trans (by kernel_rfl)
noncomputable def Qf (a0:Int):Option Bool:=ar cfg 307 [.v (.int .i64 a0)]
theorem II (a0:Int):Qf a0=(nj a0 1 64).bind fun r1=>some r1:=
 (aa cfg 307 _).trans (by kernel_rfl)
noncomputable def OI (a0:Int):Option Bool:=ar cfg 308 [.v (.int .i64 a0)]
theorem IJ (a0:Int):OI a0=(nj a0 0 31).bind fun r1=>some r1:=
 (aa cfg 308 _).trans (by kernel_rfl)
noncomputable def O1 (a0:bQ):Option Bool:=ar cfg 274 [.agg [.int .i64 a0.1,.int .i64 a0.2.1,.int .i64 a0.2.2.1,.int .i64 a0.2.2.2.1,.int .i64 a0.2.2.2.2]]
theorem IK (a0:bQ):O1 a0=ax (fun kr47=>(Qf a0.1).bind fun r1=>bif (!r1)then kr47 true else((OI a0.2.1).bind fun r2=>bif (!r2)then kr47 true else((OI a0.2.2.1).bind fun r3=>bif (!r3)then kr47 true else((OI a0.2.2.2.1).bind fun r4=>kr47 (!r4))))) fun(r10:Bool)=>bif r10 then some false else((H7 a0.1).bind fun r11=>ax (fun kr46=>bif (decide (r11.1=4))then kr46 (!decide (a0.2.1=0))else(bif (decide (r11.1=5))then kr46 (!decide (a0.2.1=0))else(bif (decide (r11.1=9))then kr46 (!decide (a0.2.1=0))else kr46 false))) fun(r17:Bool)=>bif r17 then some false else(ax (fun kr45=>bif (decide (r11.1=1))then kr45 (!decide (a0.2.2.1=0))else(bif (decide (r11.1=2))then kr45 (!decide (a0.2.2.1=0))else(bif (decide (r11.1=9))then kr45 (!decide (a0.2.2.1=0))else kr45 false))) fun(r23:Bool)=>bif r23 then some false else(ax (fun kr44=>bif (!decide (r11.1=4))then(bif (!decide (r11.1=5))then(bif (!decide (r11.1=8))then kr44 (!decide (a0.2.2.2.1=0))else kr44 false)else kr44 false)else kr44 false) fun(r29:Bool)=>bif r29 then some false else(bif (decide (r11.1=1))then((nj a0.2.2.2.2 (-2147483648) 2147479552).bind fun r30=>bif r30 then some (decide ((a0.2.2.2.2.tmod 4096)=0))else some false)else(bif (decide (r11.1=2))then((nj a0.2.2.2.2 (-1048576) 1048574).bind fun r33=>bif r33 then some (decide ((a0.2.2.2.2.tmod 2)=0))else some false)else(ax (fun kr43=>bif (decide (r11.1=3))then kr43 (decide (r11.1=3))else kr43 (decide (r11.1=5))) fun(r36:Bool)=>bif r36 then((nj a0.2.2.2.2 (-2048) 2047).bind fun r37=>some r37)else(bif (decide (r11.1=4))then((nj a0.2.2.2.2 (-4096) 4094).bind fun r38=>bif r38 then some (decide ((a0.2.2.2.2.tmod 2)=0))else some false)else(bif (decide (r11.1=6))then((nj a0.2.2.2.2 0 63).bind fun r41=>some r41)else(bif (decide (r11.1=7))then((nj a0.2.2.2.2 0 31).bind fun r42=>some r42)else some (decide (a0.2.2.2.2=0))))))))))):=
 (aa cfg 274 _).trans (by kernel_rfl)
noncomputable def qi (a0 a1 a2:Int):Option Int:=ar cfg 330 [.v (.int .i64 a0),.v (.int .i64 a1),.v (.int .i64 a2)]
noncomputable def qi.a (x0 x1 x7 x8:Int):Option Int:=LA 330 Tryz.f330 [1,1,0,1,0] ⟨24,af [vI 0 x0,vI 1 x1,vI 7 x7,vI 8 x8],ai []⟩
theorem IL (a0 a1 a2:Int):qi a0 a1 a2=qi.a a0 a1 0 (IntKind.wrap .i64 (a2-1)):=
 (aa cfg 330 _).trans (by kernel_rfl)
theorem qi.a_eq (x0 x1 x7 x8:Int):qi.a x0 x1 x7 x8=bif (decide (x8≥0))then((wk x0 (IntKind.wrap .i64 (x1+x8))).bind fun r1=>qi.a x0 x1 (IntKind.wrap .i64 ((IntKind.wrap .i64 (2*x7))+r1)) (IntKind.wrap .i64 (x8-1)))else some x7:=
 (ak cfg 330 _ _ _).trans (by kernel_rfl)
noncomputable def wl (a0 a1:Int):Option Int:=ar cfg 331 [.v (.int .i64 a0),.v (.int .i64 a1)]
noncomputable def wl.a (x0 x1 x5 x6:Int):Option Int:=LA 331 Tryz.f331 [1,1,0,1,0] ⟨23,af [vI 0 x0,vI 1 x1,(5,.v (.int .u64 x5)),vI 6 x6],ai []⟩
theorem IM (a0 a1:Int):wl a0 a1=wl.a a0 a1 0 63:=
 (aa cfg 331 _).trans (by kernel_rfl)
theorem wl.a_eq (x0 x1 x5 x6:Int):wl.a x0 x1 x5 x6=bif (decide (x6≥0))then((wk x0 (if(IntKind.wrap .i64 (x1-1))<x6 then(IntKind.wrap .i64 (x1-1))else x6)).bind fun r1=>wl.a x0 x1 (IntKind.wrap .u64 ((IntKind.wrap .u64 (2*x5))+(IntKind.wrap .u64 (r1)))) (IntKind.wrap .i64 (x6-1)))else some (IntKind.wrap .i64 (x5)):=
 (ak cfg 331 _ _ _).trans (by kernel_rfl)
noncomputable def Qg (a0 a1:Int):Option bQ:=ar cfg 301 [.v (.int .i64 a0),.v (.int .i64 a1)]
theorem IN (a0 a1:Int):Qg a0 a1=(qi a1 7 5).bind fun r1=>(qi a1 15 5).bind fun r2=>(qi a1 20 5).bind fun r3=>(H7 a0).bind fun r4=>bif (decide (r4.1=1))then((qi a1 12 20).bind fun r5=>(wl r5 20).bind fun r6=>some (a0,r1,0,0,(IntKind.wrap .i64 (r6*4096))))else(bif (decide (r4.1=2))then((qi a1 21 10).bind fun r7=>(wk a1 20).bind fun r8=>(qi a1 12 8).bind fun r9=>(wk a1 31).bind fun r10=>(wl (IntKind.wrap .i64 ((IntKind.wrap .i64 ((IntKind.wrap .i64 ((IntKind.wrap .i64 (r7*2))+(IntKind.wrap .i64 (r8*2048))))+(IntKind.wrap .i64 (r9*4096))))+(IntKind.wrap .i64 (r10*1048576)))) 21).bind fun r11=>some (a0,r1,0,0,r11))else(bif (decide (r4.1=3))then((qi a1 20 12).bind fun r12=>(wl r12 12).bind fun r13=>some (a0,r1,r2,0,r13))else(bif (decide (r4.1=4))then((qi a1 8 4).bind fun r14=>(qi a1 25 6).bind fun r15=>(wk a1 7).bind fun r16=>(wk a1 31).bind fun r17=>(wl (IntKind.wrap .i64 ((IntKind.wrap .i64 ((IntKind.wrap .i64 ((IntKind.wrap .i64 (r14*2))+(IntKind.wrap .i64 (r15*32))))+(IntKind.wrap .i64 (r16*2048))))+(IntKind.wrap .i64 (r17*4096)))) 13).bind fun r18=>some (a0,0,r2,r3,r18))else(bif (decide (r4.1=5))then((qi a1 25 7).bind fun r19=>(wl (IntKind.wrap .i64 (r1+(IntKind.wrap .i64 (r19*32)))) 12).bind fun r20=>some (a0,0,r2,r3,r20))else(bif (decide (r4.1=6))then((qi a1 20 6).bind fun r21=>some (a0,r1,r2,0,r21))else(bif (decide (r4.1=7))then some (a0,r1,r2,0,r3)else(bif (decide (r4.1=8))then some (a0,r1,r2,r3,0)else some (a0,0,0,0,0)))))))):=
 (aa cfg 301 _).trans (by kernel_rfl)
noncomputable def wm (a0:Int):Option (bQ×Bool):=ar cfg 261 [.v (.int .i64 a0)]
noncomputable def wm.a (x0:Int) (x2:bQ) (x4:Int):Option (bQ×Bool):=LA 261 Tryz.f261 [1,0,1,0] ⟨44,af [vI 0 x0,vP 2 319,vI 4 x4],ai [(319,.box [.int .i64 x2.1,.int .i64 x2.2.1,.int .i64 x2.2.2.1,.int .i64 x2.2.2.2.1,.int .i64 x2.2.2.2.2])]⟩
theorem IO (a0:Int):wm a0=wm.a a0 (0,0,0,0,0) 1:=
 (aa cfg 261 _).trans (by kernel_rfl)
theorem wm.a_eq (x0:Int) (x2:bQ) (x4:Int):wm.a x0 x2 x4=bif (decide (x4≤64))then((H7 x4).bind fun r1=>ax (fun kr10=>bif (!decide (r1.2.1=(x0.tmod 128)))then kr10 true else((nj r1.1 3 8).bind fun r2=>bif r2 then kr10 (!decide (r1.2.2.1=((IntKind.wrap .i64 (x0.tdiv 4096)).tmod 8)))else kr10 false)) fun(r4:Bool)=>bif r4 then wm.a x0 x2 (IntKind.wrap .i64 (x4+1))else((Qg x4 x0).bind fun r5=>(O1 r5).bind fun r6=>bif r6 then((gM r5).bind fun r7=>bif (decide (r7=x0))then some (r5,true)else wm.a x0 x2 (IntKind.wrap .i64 (x4+1)))else wm.a x0 x2 (IntKind.wrap .i64 (x4+1))))else some ((0,0,0,0,0),false):=
 (ak cfg 261 _ _ _).trans (by kernel_rfl)
noncomputable def Bn (a0:ByteArray):Option (List bQ×Int):=ar cfg 200 [.v (.str a0)]
noncomputable def Bn.a (x0:ByteArray) (x4:List bQ) (x5:Int):Option (List bQ×Int):=LA 200 Tryz.f200 [1,1,0,1,0] ⟨33,af [(0,.v (.str x0)),(4,.v (.own 544)),vI 5 x5],ai [(544,.rows 287 aL .no x4)]⟩
theorem E6 (a0:ByteArray):Bn a0=Bn.a a0 [] 0:=
 (aa cfg 200 _).trans (by kernel_rfl)
theorem Bn.a_eq (x0:ByteArray) (x4:List bQ) (x5:Int):Bn.a x0 x4 x5=bif (decide ((IntKind.wrap .i64 (4*x5))< (x0.size:Int)))then((wj x0 (IntKind.wrap .i64 (4*x5)) 4).bind fun r1=>(wm r1).bind fun r2=>bif (!r2.2)then some ([],x5)else(bif (av ((x4.length)+([r2.1].length)) 40)then Bn.a x0 (x4++[r2.1]) (IntKind.wrap .i64 (x5+1))else none))else some (x4,(-1)):=
 (ak cfg 200 _ _ _).trans (by kernel_rfl)
noncomputable def Q9 (a0:Int):Option (List bQ):=ar cfg 201 [.v (.int .i64 a0)]
theorem IP (a0:Int):Q9 a0=some [(22,2,2,0,(IntKind.wrap .i64 (0-a0))),(21,0,2,1,(IntKind.wrap .i64 (a0-8)))]:=
 (aa cfg 201 _).trans (by kernel_rfl)
noncomputable def Qh (a0:Int):Option (Int×Bool):=ar cfg 262 [.v (.int .i64 a0)]
theorem IQ (a0:Int):Qh a0=bif (decide (a0=11))then some (1,true)else(ax (fun kr6=>bif (decide (a0=15))then kr6 (decide (a0=15))else kr6 (decide (a0=18))) fun(r1:Bool)=>bif r1 then some (1,false)else(bif (decide (a0=12))then some (2,true)else(ax (fun kr5=>bif (decide (a0=16))then kr5 (decide (a0=16))else kr5 (decide (a0=19))) fun(r2:Bool)=>bif r2 then some (2,false)else(bif (decide (a0=13))then some (4,true)else(ax (fun kr4=>bif (decide (a0=17))then kr4 (decide (a0=17))else kr4 (decide (a0=20))) fun(r3:Bool)=>bif r3 then some (4,false)else(bif (decide (a0=14))then some (8,true)else(bif (decide (a0=21))then some (8,false)else some (0,false)))))))):=
 (aa cfg 262 _).trans (by kernel_rfl)
noncomputable def Qi (a0:Int):Option (List bQ):=ar cfg 302 [.v (.int .i64 a0)]
theorem IR (a0:Int):Qi a0=some [(14,1,2,0,(IntKind.wrap .i64 (a0-8))),(22,2,2,0,a0),(4,0,1,0,0)]:=
 (aa cfg 302 _).trans (by kernel_rfl)
noncomputable def Hv (a0:List bQ) (a1 a2:Int):Option Bool:=ar cfg 263 [.v (.list aL a0),.v (.int .i64 a1),.v (.int .i64 a2)]
theorem IS (a0:List bQ) (a1 a2:Int):Hv a0 a1 a2=(Qi a2).bind fun r1=>bif (decide (a1≥2))then(bif (decide ((IntKind.wrap .i64 (a1+2))< (a0.length:Int)))then(bif (ao a1 (a0.length))then(bif (ao 0 (r1.length))then(bif (jQ aL (rd (τ:=aL) a0 a1) (rd (τ:=aL) r1 0))then(bif (ao (IntKind.wrap .i64 (a1+1)) (a0.length))then(bif (ao 1 (r1.length))then(bif (jQ aL (rd (τ:=aL) a0 (IntKind.wrap .i64 (a1+1))) (rd (τ:=aL) r1 1))then(bif (ao (IntKind.wrap .i64 (a1+2)) (a0.length))then(bif (ao 2 (r1.length))then some (jQ aL (rd (τ:=aL) a0 (IntKind.wrap .i64 (a1+2))) (rd (τ:=aL) r1 2))else none)else none)else some false)else none)else none)else some false)else none)else none)else some false)else some false:=
 (aa cfg 263 _).trans (by kernel_rfl)
noncomputable def E7 (a0:List Int) (a1:Int):Option Bool:=ar cfg 264 [.v (.list (.int .i64) a0),.v (.int .i64 a1)]
noncomputable def E7.a (x0:List Int) (x1 x5:Int):Option Bool:=LA 264 Tryz.f264 [1,0,1,0] ⟨18,af [vL 0 (.int .i64) x0,vI 1 x1,vI 5 x5],ai []⟩
theorem IT (a0:List Int) (a1:Int):E7 a0 a1=E7.a a0 a1 0:=
 (aa cfg 264 _).trans (by kernel_rfl)
theorem E7.a_eq (x0:List Int) (x1 x5:Int):E7.a x0 x1 x5=bif (decide (x5< (x0.length:Int)))then(bif (ao x5 (x0.length))then(bif (decide ((rd (τ:=(.int .i64)) x0 x5)=x1))then some true else E7.a x0 x1 (IntKind.wrap .i64 (x5+1)))else none)else some false:=
 (ak cfg 264 _ _ _).trans (by kernel_rfl)
noncomputable def O2 (a0:List bQ) (a1 a2 a3:Int):Option Bool:=ar cfg 265 [.v (.list aL a0),.v (.int .i64 a1),.v (.int .i64 a2),.v (.int .i64 a3)]
theorem IU (a0:List bQ) (a1 a2 a3:Int):O2 a0 a1 a2 a3=bif (decide ((a2.tmod 4)=0))then(bif (decide ((IntKind.wrap .i64 (a1+(IntKind.wrap .i64 (a2.tdiv 4))))≥2))then(bif (decide ((IntKind.wrap .i64 (a1+(IntKind.wrap .i64 (a2.tdiv 4))))< (a0.length:Int)))then((Hv a0 (IntKind.wrap .i64 ((IntKind.wrap .i64 (a1+(IntKind.wrap .i64 (a2.tdiv 4))))-1)) a3).bind fun r1=>bif (!r1)then((Hv a0 (IntKind.wrap .i64 ((IntKind.wrap .i64 (a1+(IntKind.wrap .i64 (a2.tdiv 4))))-2)) a3).bind fun r2=>some (!r2))else some false)else some false)else some false)else some false:=
 (aa cfg 265 _).trans (by kernel_rfl)
noncomputable def Qj (a0:List bQ) (a1 a2 a3:Int) (a4:List Int):Option Int:=ar cfg 202 [.v (.list aL a0),.v (.int .i64 a1),.v (.int .i64 a2),.v (.int .i64 a3),.v (.list (.int .i64) a4)]
theorem IV (a0:List bQ) (a1 a2 a3:Int) (a4:List Int):Qj a0 a1 a2 a3 a4=bif (ao a1 (a0.length))then((Qh ((rd (τ:=aL) a0 a1).1)).bind fun r1=>bif (decide ((rd (τ:=aL) a0 a1).1=4))then((Hv a0 (IntKind.wrap .i64 (a1-2)) a3).bind fun r2=>bif (!r2)then some 18 else some 0)else(ax (fun kr11=>bif (decide ((rd (τ:=aL) a0 a1).1=3))then kr11 (decide ((rd (τ:=aL) a0 a1).2.1=1))else kr11 false) fun(r3:Bool)=>bif r3 then((E7 a4 (IntKind.wrap .i64 ((IntKind.wrap .i64 (a2+(IntKind.wrap .i64 (4*a1))))+(rd (τ:=aL) a0 a1).2.2.2.2))).bind fun r5=>bif (!r5)then some 20 else some 0)else(bif (decide ((rd (τ:=aL) a0 a1).1=3))then(bif (!decide ((rd (τ:=aL) a0 a1).2.1=0))then some 19 else((O2 a0 a1 ((rd (τ:=aL) a0 a1).2.2.2.2) a3).bind fun r6=>bif (!r6)then some 19 else some 0))else((H7 ((rd (τ:=aL) a0 a1).1)).bind fun r9=>bif (decide (r9.1=4))then((O2 a0 a1 ((rd (τ:=aL) a0 a1).2.2.2.2) a3).bind fun r10=>bif (!r10)then some 19 else some 0)else(ax (fun kr26=>bif (decide ((rd (τ:=aL) a0 a1).2.1=1))then((Hv a0 a1 a3).bind fun r12=>bif (!r12)then kr26 true else(bif (decide ((rd (τ:=aL) a0 a1).2.1=2))then((Hv a0 (IntKind.wrap .i64 (a1-1)) a3).bind fun r13=>kr26 (!r13))else kr26 false))else(bif (decide ((rd (τ:=aL) a0 a1).2.1=2))then((Hv a0 (IntKind.wrap .i64 (a1-1)) a3).bind fun r14=>kr26 (!r14))else kr26 false)) fun(r18:Bool)=>bif r18 then some 21 else(bif (decide (r1.1>0))then(bif (decide ((rd (τ:=aL) a0 a1).2.2.1=2))then((Hv a0 a1 a3).bind fun r19=>bif (!r19)then(bif (decide ((rd (τ:=aL) a0 a1).2.2.2.2<0))then some 17 else(bif (decide ((rd (τ:=aL) a0 a1).2.2.2.2>(IntKind.wrap .i64 ((IntKind.wrap .i64 (a3-8))-r1.1))))then some 17 else(bif (decide (r1.1=0))then none else(bif (!decide ((((rd (τ:=aL) a0 a1).2.2.2.2).tmod r1.1)=0))then some 17 else some 0))))else some 0)else some 0)else some 0))))))else none:=
 (aa cfg 202 _).trans (by kernel_rfl)
noncomputable def qj (a0:ByteArray) (a1 a2:Int) (a3:List Int):Option (Int×Int):=ar cfg 134 [.v (.str a0),.v (.int .i64 a1),.v (.int .i64 a2),.v (.list (.int .i64) a3)]
noncomputable def qj.a (x1 x2:Int) (x3:List Int) (x10:List bQ) (x12:Int):Option (Int×Int):=LA 134 Tryz.f134 [1,1,1,1,1,1,0,1,0] ⟨100,af [vI 1 x1,vI 2 x2,vL 3 (.int .i64) x3,(10,.v (.own 1312)),vI 12 x12],ai [(1312,.rows 287 aL .no x10)]⟩
noncomputable def qj.b (x1 x2:Int) (x3:List Int) (x10:List bQ) (x13 x14:Int):Option (Int×Int):=LA 134 Tryz.f134 [1,1,1,1,1,1,1,1,1,0,1,0] ⟨100,af [vI 1 x1,vI 2 x2,vL 3 (.int .i64) x3,(10,.v (.own 1312)),vI 13 x13,vI 14 x14],ai [(1312,.rows 287 aL .no x10)]⟩
theorem IW (a0:ByteArray) (a1 a2:Int) (a3:List Int):qj a0 a1 a2 a3=ax (fun kr10=>(nj a1 0 1048575).bind fun r1=>bif (!r1)then kr10 true else kr10 (!decide ((a1.tmod 4)=0))) fun(r3:Bool)=>bif r3 then some (0,4)else((OH a2).bind fun r4=>bif (!r4)then some (0,17)else(ax (fun kr9=>(Qe a0).bind fun r5=>bif (!r5)then kr9 true else kr9 (decide ((a0.size:Int)<20))) fun(r7:Bool)=>bif r7 then some (0,8)else((Bn a0).bind fun r8=>bif (decide (r8.2≥0))then some (r8.2,10)else qj.a a1 a2 a3 r8.1 0))):=
 (aa cfg 134 _).trans (by kernel_rfl)
theorem qj.a_eq (x1 x2:Int) (x3:List Int) (x10:List bQ) (x12:Int):qj.a x1 x2 x3 x10 x12=bif (decide (x12<2))then(bif (ao x12 (x10.length))then((Q9 x2).bind fun r15=>bif (ao x12 (r15.length))then(bif (!(jQ aL (rd (τ:=aL) x10 x12) (rd (τ:=aL) r15 x12)))then some (x12,17)else qj.a x1 x2 x3 x10 (IntKind.wrap .i64 (x12+1)))else none)else none)else(ax (fun kr14=>bif (ao (IntKind.wrap .i64 ((x10.length:Int)-1)) (x10.length))then(bif (decide ((rd (τ:=aL) x10 (IntKind.wrap .i64 ((x10.length:Int)-1))).1=4))then kr14 false else(bif (ao (IntKind.wrap .i64 ((x10.length:Int)-1)) (x10.length))then(bif (decide ((rd (τ:=aL) x10 (IntKind.wrap .i64 ((x10.length:Int)-1))).1=3))then(bif (ao (IntKind.wrap .i64 ((x10.length:Int)-1)) (x10.length))then kr14 (!(decide ((rd (τ:=aL) x10 (IntKind.wrap .i64 ((x10.length:Int)-1))).2.1=0)))else none)else kr14 true)else none))else none) fun(r13:Bool)=>bif r13 then some ((IntKind.wrap .i64 ((x10.length:Int)-1)),22)else qj.b x1 x2 x3 x10 (IntKind.wrap .i64 ((x10.length:Int)-1)) 2):=
 (ak cfg 134 _ _ _).trans (by kernel_rfl)
theorem qj.b_eq (x1 x2:Int) (x3:List Int) (x10:List bQ) (x13 x14:Int):qj.b x1 x2 x3 x10 x13 x14=bif (decide (x14≤x13))then((Qj x10 x14 x1 x2 x3).bind fun r16=>bif (!decide (r16=0))then some (x14,r16)else qj.b x1 x2 x3 x10 x13 (IntKind.wrap .i64 (x14+1)))else some (0,0):=
 (ak cfg 134 _ _ _).trans (by kernel_rfl)
noncomputable def Cr (a0:D3):Option (Int×Int×Int):=ar cfg 83 [.agg [.str a0.1,.str a0.2.1,.list Y4 a0.2.2]]
noncomputable def Cr.a (x1:D3) (x7:List Int) (x8:Int):Option (Int×Int×Int):=LA 83 Tryz.f83 [1,1,1,1,1,0,1,0] ⟨77,af [vP 1 191,(7,.v (.own 928)),vI 8 x8],ai [(191,.box [.str x1.1,.str x1.2.1,.list Y4 x1.2.2]),(928,.rows 3 (.int .i64) .no x7)]⟩
theorem IX (a0:D3):Cr a0=bif (decide ((a0.2.2.length:Int)>16))then some (0,0,6)else(ax (fun kr5=>bif (decide ((a0.1.size:Int)>1024))then kr5 true else kr5 (decide ((a0.2.1.size:Int)>256))) fun(r2:Bool)=>bif r2 then some (0,0,8)else((Zy a0).bind fun r3=>bif (!decide (r3.2=0))then some (r3.1,0,r3.2)else((Cq a0.2.2).bind fun r4=>Cr.a a0 r4 0))):=
 (aa cfg 83 _).trans (by kernel_rfl)
theorem Cr.a_eq (x1:D3) (x7:List Int) (x8:Int):Cr.a x1 x7 x8=bif (decide (x8< (x1.2.2.length:Int)))then(bif (ao x8 (x1.2.2.length))then(bif (!decide ((rd (τ:=Y4) x1.2.2 x8).2.1=1))then Cr.a x1 x7 (IntKind.wrap .i64 (x8+1))else(bif (decide (0≤(rd (τ:=Y4) x1.2.2 x8).2.2.1)&&decide ((rd (τ:=Y4) x1.2.2 x8).2.2.1≤(IntKind.wrap .i64 ((rd (τ:=Y4) x1.2.2 x8).2.2.1+(rd (τ:=Y4) x1.2.2 x8).2.2.2.1)))&&decide ((IntKind.wrap .i64 ((rd (τ:=Y4) x1.2.2 x8).2.2.1+(rd (τ:=Y4) x1.2.2 x8).2.2.2.1))≤(x1.1.size:Int)))then((Zz (rd (τ:=Y4) x1.2.2 x8)).bind fun r6=>(qj (x1.1.extract (Int.toNat ((rd (τ:=Y4) x1.2.2 x8).2.2.1)) (Int.toNat (IntKind.wrap .i64 ((rd (τ:=Y4) x1.2.2 x8).2.2.1+(rd (τ:=Y4) x1.2.2 x8).2.2.2.1)))) r6 ((rd (τ:=Y4) x1.2.2 x8).2.2.2.2) x7).bind fun r7=>bif (!decide (r7.2=0))then some (x8,r7)else Cr.a x1 x7 (IntKind.wrap .i64 (x8+1)))else none))else none)else some (0,0,0):=
 (ak cfg 83 _ _ _).trans (by kernel_rfl)
noncomputable def Qk (a0:D3):Option Bool:=ar cfg 42 [.agg [.str a0.1,.str a0.2.1,.list Y4 a0.2.2]]
theorem IY (a0:D3):Qk a0=(Cr a0).bind fun r1=>some (decide (r1.2.2=0)):=
 (aa cfg 42 _).trans (by kernel_rfl)
noncomputable def Ql (a0:Int):Option Bool:=ar cfg 136 [.v (.int .i64 a0)]
theorem IZ (a0:Int):Ql a0=(nj a0 0 1048575).bind fun r1=>bif r1 then some (decide ((a0.tmod 128)=0))else some false:=
 (aa cfg 136 _).trans (by kernel_rfl)
noncomputable def Qm (a0:Int):Option Bool:=ar cfg 137 [.v (.int .i64 a0)]
theorem I0 (a0:Int):Qm a0=(nj a0 0 15).bind fun r1=>some r1:=
 (aa cfg 137 _).trans (by kernel_rfl)
noncomputable def Cs (a0:List D1):Option Bool:=ar cfg 84 [.agg [.list Y3 a0]]
noncomputable def Cs.a (x1:List D1) (x3:Int):Option Bool:=LA 84 Tryz.f84 [1,1,0,1,0] ⟨53,af [vP 1 191,vI 3 x3],ai [(191,.box [.list Y3 x1])]⟩
theorem I1 (a0:List D1):Cs a0=bif (decide ((a0.length:Int)>64))then some false else Cs.a a0 0:=
 (aa cfg 84 _).trans (by kernel_rfl)
theorem Cs.a_eq (x1:List D1) (x3:Int):Cs.a x1 x3=bif (decide (x3< (x1.length:Int)))then(bif (ao x3 (x1.length))then((Ql ((rd (τ:=Y3) x1 x3).1)).bind fun r1=>bif (!r1)then some false else((Qm ((rd (τ:=Y3) x1 x3).2.1)).bind fun r2=>bif (!r2)then some false else(bif (!decide ((((rd (τ:=Y3) x1 x3).2.2).size:Int)=128))then some false else(bif (decide (x3>0))then(bif (ao (IntKind.wrap .i64 (x3-1)) (x1.length))then(bif (decide ((rd (τ:=Y3) x1 x3).1≤(rd (τ:=Y3) x1 (IntKind.wrap .i64 (x3-1))).1))then some false else Cs.a x1 (IntKind.wrap .i64 (x3+1)))else none)else Cs.a x1 (IntKind.wrap .i64 (x3+1))))))else none)else some true:=
 (ak cfg 84 _ _ _).trans (by kernel_rfl)
noncomputable def Qn (a0:D0):Option Bool:=ar cfg 138 [.agg [.str a0.1,.int .i64 a0.2.1,.int .i64 a0.2.2.1,.int .i64 a0.2.2.2.1,.int .i64 a0.2.2.2.2.1,.int .i64 a0.2.2.2.2.2]]
theorem I2 (a0:D0):Qn a0=ax (fun kr18=>(Zx a0.1).bind fun r1=>bif (!r1)then kr18 true else((nj a0.2.2.1 0 1048575).bind fun r2=>bif (!r2)then kr18 true else(bif (!decide ((a0.2.2.1.tmod 4)=0))then kr18 true else((nj a0.2.2.2.1 1 1024).bind fun r3=>bif (!r3)then kr18 true else((nj a0.2.2.2.2.2 0 6).bind fun r4=>kr18 (!r4)))))) fun(r12:Bool)=>bif r12 then some false else(bif (decide (a0.2.1=1))then((OH a0.2.2.2.2.1).bind fun r13=>bif r13 then some true else(bif (decide (a0.2.1=2))then some (decide (a0.2.2.2.2.1=0))else some false))else(bif (decide (a0.2.1=2))then some (decide (a0.2.2.2.2.1=0))else some false)):=
 (aa cfg 138 _).trans (by kernel_rfl)
noncomputable def wn (a0:List D0) (a1:ByteArray):Option Int:=ar cfg 139 [.v (.list Y0 a0),.v (.str a1)]
noncomputable def wn.a (x0:List D0) (x1:ByteArray) (x5:Int):Option Int:=LA 139 Tryz.f139 [1,0,1,0] ⟨20,af [vL 0 Y0 x0,(1,.v (.str x1)),vI 5 x5],ai []⟩
theorem I3 (a0:List D0) (a1:ByteArray):wn a0 a1=wn.a a0 a1 0:=
 (aa cfg 139 _).trans (by kernel_rfl)
theorem wn.a_eq (x0:List D0) (x1:ByteArray) (x5:Int):wn.a x0 x1 x5=bif (decide (x5< (x0.length:Int)))then(bif (ao x5 (x0.length))then(bif (bu ((rd (τ:=Y0) x0 x5).1) x1)then some x5 else wn.a x0 x1 (IntKind.wrap .i64 (x5+1)))else none)else some (-1):=
 (ak cfg 139 _ _ _).trans (by kernel_rfl)
noncomputable def E8 (a0:List D0):Option Bool:=ar cfg 85 [.v (.list Y0 a0)]
noncomputable def E8.a (x0:List D0) (x3:Int):Option Bool:=LA 85 Tryz.f85 [1,1,1,0,1,0] ⟨34,af [vL 0 Y0 x0,vI 3 x3],ai []⟩
theorem I4 (a0:List D0):E8 a0=bif (decide ((a0.length:Int)>4096))then some false else(bif (decide ((a0.length:Int)>64))then some false else E8.a a0 0):=
 (aa cfg 85 _).trans (by kernel_rfl)
theorem E8.a_eq (x0:List D0) (x3:Int):E8.a x0 x3=bif (decide (x3< (x0.length:Int)))then(bif (ao x3 (x0.length))then((Qn (rd (τ:=Y0) x0 x3)).bind fun r1=>bif (!r1)then some false else(bif (decide (0≤0)&&decide (0≤x3)&&decide (x3≤(x0.length:Int)))then(bif (ao x3 (x0.length))then((wn ((x0.take (Int.toNat x3)).drop (Int.toNat 0)) ((rd (τ:=Y0) x0 x3).1)).bind fun r2=>bif (decide (r2≥0))then some false else E8.a x0 (IntKind.wrap .i64 (x3+1)))else none)else none))else none)else some true:=
 (ak cfg 85 _ _ _).trans (by kernel_rfl)
noncomputable def Qo (a0:Int):Option Bool:=ar cfg 140 [.v (.int .i64 a0)]
theorem I5 (a0:Int):Qo a0=(nj a0 0 255).bind fun r1=>some r1:=
 (aa cfg 140 _).trans (by kernel_rfl)
noncomputable def Ct (a0 a1:List Int):Option Bool:=ar cfg 141 [.v (.list (.int .i64) a0),.v (.list (.int .i64) a1)]
noncomputable def Ct.a (x0 x1:List Int) (x5:Int):Option Bool:=LA 141 Tryz.f141 [1,0,1,0] ⟨41,af [vL 0 (.int .i64) x0,vL 1 (.int .i64) x1,vI 5 x5],ai []⟩
theorem I6 (a0 a1:List Int):Ct a0 a1=Ct.a a0 a1 0:=
 (aa cfg 141 _).trans (by kernel_rfl)
theorem Ct.a_eq (x0 x1:List Int) (x5:Int):Ct.a x0 x1 x5=ax (fun kr3=>bif (decide (x5< (x0.length:Int)))then kr3 (decide (x5< (x1.length:Int)))else kr3 false) fun(r2:Bool)=>bif r2 then(bif (ao x5 (x0.length))then(bif (ao x5 (x1.length))then(bif (!decide ((rd (τ:=(.int .i64)) x0 x5)=(rd (τ:=(.int .i64)) x1 x5)))then(bif (ao x5 (x0.length))then(bif (ao x5 (x1.length))then some (decide ((rd (τ:=(.int .i64)) x0 x5)< (rd (τ:=(.int .i64)) x1 x5)))else none)else none)else Ct.a x0 x1 (IntKind.wrap .i64 (x5+1)))else none)else none)else some (decide ((x0.length:Int)< (x1.length:Int))):=
 (ak cfg 141 _ _ _).trans (by kernel_rfl)
noncomputable def Cu (a0:List (Int×Int×Int)):Option Bool:=ar cfg 86 [.v (.list aW a0)]
noncomputable def Cu.a (x0:List (Int×Int×Int)) (x3:Int):Option Bool:=LA 86 Tryz.f86 [1,1,1,0,1,0] ⟨53,af [vL 0 aW x0,vI 3 x3],ai []⟩
theorem I7 (a0:List (Int×Int×Int)):Cu a0=bif (decide ((a0.length:Int)>4096))then some false else(bif (decide ((a0.length:Int)>16))then some false else Cu.a a0 0):=
 (aa cfg 86 _).trans (by kernel_rfl)
theorem Cu.a_eq (x0:List (Int×Int×Int)) (x3:Int):Cu.a x0 x3=bif (decide (x3< (x0.length:Int)))then(bif (ao x3 (x0.length))then((Qo ((rd (τ:=aW) x0 x3).2.1)).bind fun r1=>bif (!r1)then some false else(bif (decide (x3>0))then(bif (ao (IntKind.wrap .i64 (x3-1)) (x0.length))then(bif (ao (IntKind.wrap .i64 (x3-1)) (x0.length))then(bif (ao x3 (x0.length))then(bif (ao x3 (x0.length))then((Ct [(rd (τ:=aW) x0 (IntKind.wrap .i64 (x3-1))).1,(rd (τ:=aW) x0 (IntKind.wrap .i64 (x3-1))).2.1] [(rd (τ:=aW) x0 x3).1,(rd (τ:=aW) x0 x3).2.1]).bind fun r2=>bif (!r2)then some false else Cu.a x0 (IntKind.wrap .i64 (x3+1)))else none)else none)else none)else none)else Cu.a x0 (IntKind.wrap .i64 (x3+1))))else none)else some true:=
 (ak cfg 86 _ _ _).trans (by kernel_rfl)
noncomputable def Qp (a0:List Int×Int):Option Bool:=ar cfg 143 [.agg [.seg (.int .i64) 32 a0.1,.int .i64 a0.2]]
theorem I8 (a0:List Int×Int):Qp a0=bif (ao 0 32)then some (decide ((rd (τ:=(.int .i64)) a0.1 0)=0))else none:=
 (aa cfg 143 _).trans (by kernel_rfl)
noncomputable def Qq (a0:D4):Option Bool:=ar cfg 87 [.agg [.int .i64 a0.1,.seg (.int .i64) 32 a0.2.1.1,.int .i64 a0.2.1.2,.list (.int .i64) a0.2.2.1,.int .i64 a0.2.2.2]]
theorem I9 (a0:D4):Qq a0=ax (fun kr8=>(nj a0.1 1 3).bind fun r1=>bif (!r1)then kr8 true else((Qp a0.2.1).bind fun r2=>bif (!r2)then kr8 true else kr8 (decide ((a0.2.2.1.length:Int)>32)))) fun(r6:Bool)=>bif r6 then some false else(bif (decide (a0.1=3))then((nj a0.2.2.2 1 31).bind fun r7=>some r7)else some (decide (a0.2.2.2=0))):=
 (aa cfg 87 _).trans (by kernel_rfl)
noncomputable def E9 (a0:D5):Option Bool:=ar cfg 43 [.agg [.list Y3 a0.1,.list Y2 a0.2.1,.list Y0 a0.2.2.1,.list aW a0.2.2.2]]
noncomputable def E9.a (x1:D5) (x3:Int):Option Bool:=LA 43 Tryz.f43 [1,1,0,1,0] ⟨46,af [vP 1 191,vI 3 x3],ai [(191,.box [.list Y3 x1.1,.list Y2 x1.2.1,.list Y0 x1.2.2.1,.list aW x1.2.2.2])]⟩
theorem Ja (a0:D5):E9 a0=(Cs a0.1).bind fun r1=>bif (!r1)then some false else(bif (decide ((a0.2.1.length:Int)<1))then some false else(bif (decide ((a0.2.1.length:Int)>4))then some false else((E8 a0.2.2.1).bind fun r2=>bif (!r2)then some false else((Cu a0.2.2.2).bind fun r3=>bif (!r3)then some false else E9.a a0 0)))):=
 (aa cfg 43 _).trans (by kernel_rfl)
theorem E9.a_eq (x1:D5) (x3:Int):E9.a x1 x3=bif (decide (x3< (x1.2.1.length:Int)))then(bif (ao x3 (x1.2.1.length))then((Qq (rd (τ:=Y2) x1.2.1 x3)).bind fun r12=>bif (!r12)then some false else E9.a x1 (IntKind.wrap .i64 (x3+1)))else none)else some true:=
 (ak cfg 43 _ _ _).trans (by kernel_rfl)
noncomputable def Cv (a0:D3):Option (List D0):=ar cfg 144 [.agg [.str a0.1,.str a0.2.1,.list Y4 a0.2.2]]
noncomputable def Cv.a (x1:D3) (x3:List D0) (x4:Int):Option (List D0):=LA 144 Tryz.f144 [1,1,0,1,0] ⟨34,af [vP 1 191,(3,.v (.own 416)),vI 4 x4],ai [(191,.box [.str x1.1,.str x1.2.1,.list Y4 x1.2.2]),(416,.rows 116 Y0 .no x3)]⟩
theorem Jb (a0:D3):Cv a0=Cv.a a0 [] 0:=
 (aa cfg 144 _).trans (by kernel_rfl)
theorem Cv.a_eq (x1:D3) (x3:List D0) (x4:Int):Cv.a x1 x3 x4=bif (decide (x4< (x1.2.2.length:Int)))then(bif (ao x4 (x1.2.2.length))then((Zz (rd (τ:=Y4) x1.2.2 x4)).bind fun r1=>bif (av ((x3.length)+([((rd (τ:=Y4) x1.2.2 x4).1,(rd (τ:=Y4) x1.2.2 x4).2.1,r1,(rd (τ:=Y4) x1.2.2 x4).2.2.2.1,(rd (τ:=Y4) x1.2.2 x4).2.2.2.2,0)].length)) 56)then Cv.a x1 (x3++[((rd (τ:=Y4) x1.2.2 x4).1,(rd (τ:=Y4) x1.2.2 x4).2.1,r1,(rd (τ:=Y4) x1.2.2 x4).2.2.2.1,(rd (τ:=Y4) x1.2.2 x4).2.2.2.2,0)]) (IntKind.wrap .i64 (x4+1))else none)else none)else some x3:=
 (ak cfg 144 _ _ _).trans (by kernel_rfl)
noncomputable def Bo (a0:D3):Option (List bQ):=ar cfg 145 [.agg [.str a0.1,.str a0.2.1,.list Y4 a0.2.2]]
noncomputable def Bo.a (x1:D3) (x3:List bQ) (x4:Int):Option (List bQ):=LA 145 Tryz.f145 [1,1,0,1,0] ⟨34,af [vP 1 191,(3,.v (.own 416)),vI 4 x4],ai [(191,.box [.str x1.1,.str x1.2.1,.list Y4 x1.2.2]),(416,.rows 91 aL .no x3)]⟩
theorem Jc (a0:D3):Bo a0=Bo.a a0 [] 0:=
 (aa cfg 145 _).trans (by kernel_rfl)
theorem Bo.a_eq (x1:D3) (x3:List bQ) (x4:Int):Bo.a x1 x3 x4=bif (decide (x4< (x1.2.2.length:Int)))then(bif (ao x4 (x1.2.2.length))then(bif (decide ((rd (τ:=Y4) x1.2.2 x4).2.1=1))then((Zz (rd (τ:=Y4) x1.2.2 x4)).bind fun r1=>bif (av ((x3.length)+([(x4,0,r1,(rd (τ:=Y4) x1.2.2 x4).2.2.2)].length)) 40)then Bo.a x1 (x3++[(x4,0,r1,(rd (τ:=Y4) x1.2.2 x4).2.2.2)]) (IntKind.wrap .i64 (x4+1))else none)else Bo.a x1 x3 (IntKind.wrap .i64 (x4+1)))else none)else some x3:=
 (ak cfg 145 _ _ _).trans (by kernel_rfl)
noncomputable def zd (a0:List D1) (a1:Int):Option Int:=ar cfg 267 [.agg [.list Y3 a0],.v (.int .i64 a1)]
noncomputable def zd.a (x1:Int) (x2:List D1) (x5:Int):Option Int:=LA 267 Tryz.f267 [1,0,1,0] ⟨33,af [vI 1 x1,vP 2 319,vI 5 x5],ai [(319,.box [.list Y3 x2])]⟩
theorem Jd (a0:List D1) (a1:Int):zd a0 a1=zd.a a1 a0 0:=
 (aa cfg 267 _).trans (by kernel_rfl)
theorem zd.a_eq (x1:Int) (x2:List D1) (x5:Int):zd.a x1 x2 x5=bif (decide (x5< (x2.length:Int)))then(bif (ao x5 (x2.length))then(bif (decide ((rd (τ:=Y3) x2 x5).1≤x1))then(bif (ao x5 (x2.length))then(bif (decide ((IntKind.wrap .i64 (x1-(rd (τ:=Y3) x2 x5).1))<128))then some x5 else zd.a x1 x2 (IntKind.wrap .i64 (x5+1)))else none)else zd.a x1 x2 (IntKind.wrap .i64 (x5+1)))else none)else some (-1):=
 (ak cfg 267 _ _ _).trans (by kernel_rfl)
noncomputable def Qr (a0:List D1):Option (List D1):=ar cfg 303 [.agg [.list Y3 a0]]
theorem Je (a0:List D1):Qr a0=bif (av (0+(a0.length)) 32)then some a0 else none:=
 (aa cfg 303 _).trans (by kernel_rfl)
noncomputable def Qs (a0:List D1) (a1:Int) (a2:ByteArray):Option (List D1):=ar cfg 268 [.agg [.list Y3 a0],.v (.int .i64 a1),.v (.str a2)]
theorem Jf (a0:List D1) (a1:Int) (a2:ByteArray):Qs a0 a1 a2=(Qr a0).bind fun r1=>(zd a0 a1).bind fun r2=>bif (ao r2 (a0.length))then(bif (ao r2 (a0.length))then(bif (decide (0≤0)&&decide (0≤(IntKind.wrap .i64 (a1-(rd (τ:=Y3) a0 r2).1)))&&decide ((IntKind.wrap .i64 (a1-(rd (τ:=Y3) a0 r2).1))≤(((rd (τ:=Y3) a0 r2).2.2).size:Int)))then(bif (decide ((((rd (τ:=Y3) a0 r2).2.2).extract (Int.toNat 0) (Int.toNat (IntKind.wrap .i64 (a1-(rd (τ:=Y3) a0 r2).1)))).size+a2.size≤9223372036854775807))then(bif (decide (0≤(IntKind.wrap .i64 ((IntKind.wrap .i64 (a1-(rd (τ:=Y3) a0 r2).1))+(a2.size:Int))))&&decide ((IntKind.wrap .i64 ((IntKind.wrap .i64 (a1-(rd (τ:=Y3) a0 r2).1))+(a2.size:Int)))≤(((rd (τ:=Y3) a0 r2).2.2).size:Int))&&decide ((((rd (τ:=Y3) a0 r2).2.2).size:Int)≤(((rd (τ:=Y3) a0 r2).2.2).size:Int)))then(bif (decide (((((rd (τ:=Y3) a0 r2).2.2).extract (Int.toNat 0) (Int.toNat (IntKind.wrap .i64 (a1-(rd (τ:=Y3) a0 r2).1))))++a2).size+(((rd (τ:=Y3) a0 r2).2.2).extract (Int.toNat (IntKind.wrap .i64 ((IntKind.wrap .i64 (a1-(rd (τ:=Y3) a0 r2).1))+(a2.size:Int)))) (Int.toNat (((rd (τ:=Y3) a0 r2).2.2).size:Int))).size≤9223372036854775807))then(bif (ao r2 (r1.length))then(letB (r1.set (Int.toNat r2) ((rd (τ:=Y3) r1 r2).1,(rd (τ:=Y3) r1 r2).2.1,(((((rd (τ:=Y3) a0 r2).2.2).extract (Int.toNat 0) (Int.toNat (IntKind.wrap .i64 (a1-(rd (τ:=Y3) a0 r2).1))))++a2)++(((rd (τ:=Y3) a0 r2).2.2).extract (Int.toNat (IntKind.wrap .i64 ((IntKind.wrap .i64 (a1-(rd (τ:=Y3) a0 r2).1))+(a2.size:Int)))) (Int.toNat (((rd (τ:=Y3) a0 r2).2.2).size:Int)))))) fun r3=>some r3)else none)else none)else none)else none)else none)else none)else none:=
 (aa cfg 268 _).trans (by kernel_rfl)
noncomputable def wo (a0:List D1) (a1:Int) (a2:ByteArray):Option (List D1):=ar cfg 203 [.agg [.list Y3 a0],.v (.int .i64 a1),.v (.str a2)]
noncomputable def wo.a (x1:Int) (x2:ByteArray) (x3 x6:List D1):Option (List D1):=LA 203 Tryz.f203 [1,0,0] ⟨40,af [vI 1 x1,(2,.v (.str x2)),vP 3 447,vP 6 831],ai [(447,.box [.list Y3 x3]),(800,.rows 185 Y3 .no x6),(831,.box [.own 800])]⟩
theorem Jg (a0:List D1) (a1:Int) (a2:ByteArray):wo a0 a1 a2=wo.a a1 a2 a0 []:=
 (aa cfg 203 _).trans (by kernel_rfl)
theorem wo.a_eq (x1:Int) (x2:ByteArray) (x3 x6:List D1):wo.a x1 x2 x3 x6=bif (decide ((x2.size:Int)>0))then((zd x3 x1).bind fun r1=>bif (ao r1 (x3.length))then(bif (decide (0≤0)&&decide (0≤(if(IntKind.wrap .i64 ((IntKind.wrap .i64 ((rd (τ:=Y3) x3 r1).1+128))-x1))< (x2.size:Int)then(IntKind.wrap .i64 ((IntKind.wrap .i64 ((rd (τ:=Y3) x3 r1).1+128))-x1))else(x2.size:Int)))&&decide ((if(IntKind.wrap .i64 ((IntKind.wrap .i64 ((rd (τ:=Y3) x3 r1).1+128))-x1))< (x2.size:Int)then(IntKind.wrap .i64 ((IntKind.wrap .i64 ((rd (τ:=Y3) x3 r1).1+128))-x1))else(x2.size:Int))≤(x2.size:Int)))then((Qs x3 x1 (x2.extract (Int.toNat 0) (Int.toNat (if(IntKind.wrap .i64 ((IntKind.wrap .i64 ((rd (τ:=Y3) x3 r1).1+128))-x1))< (x2.size:Int)then(IntKind.wrap .i64 ((IntKind.wrap .i64 ((rd (τ:=Y3) x3 r1).1+128))-x1))else(x2.size:Int))))).bind fun r2=>bif (decide (0≤(if(IntKind.wrap .i64 ((IntKind.wrap .i64 ((rd (τ:=Y3) x3 r1).1+128))-x1))< (x2.size:Int)then(IntKind.wrap .i64 ((IntKind.wrap .i64 ((rd (τ:=Y3) x3 r1).1+128))-x1))else(x2.size:Int)))&&decide ((if(IntKind.wrap .i64 ((IntKind.wrap .i64 ((rd (τ:=Y3) x3 r1).1+128))-x1))< (x2.size:Int)then(IntKind.wrap .i64 ((IntKind.wrap .i64 ((rd (τ:=Y3) x3 r1).1+128))-x1))else(x2.size:Int))≤(x2.size:Int))&&decide ((x2.size:Int)≤(x2.size:Int)))then wo.a (IntKind.wrap .i64 (x1+(if(IntKind.wrap .i64 ((IntKind.wrap .i64 ((rd (τ:=Y3) x3 r1).1+128))-x1))< (x2.size:Int)then(IntKind.wrap .i64 ((IntKind.wrap .i64 ((rd (τ:=Y3) x3 r1).1+128))-x1))else(x2.size:Int)))) (x2.extract (Int.toNat (if(IntKind.wrap .i64 ((IntKind.wrap .i64 ((rd (τ:=Y3) x3 r1).1+128))-x1))< (x2.size:Int)then(IntKind.wrap .i64 ((IntKind.wrap .i64 ((rd (τ:=Y3) x3 r1).1+128))-x1))else(x2.size:Int))) (Int.toNat (x2.size:Int))) r2 x6 else none)else none)else none)else some x3:=
 (ak cfg 203 _ _ _).trans (by kernel_rfl)
noncomputable def ze (a0:List D1) (a1 a2:Int):Option (List D1):=ar cfg 304 [.agg [.list Y3 a0],.v (.int .i64 a1),.v (.int .i64 a2)]
noncomputable def ze.a (x1 x2:Int) (x3 x6 x7:List D1) (x8:Bool) (x9:Int):Option (List D1):=LA 304 Tryz.f304 [1,1,1,0,1,0] ⟨58,af [vI 1 x1,vI 2 x2,vP 3 447,vP 6 831,(7,.v (.own 928)),(8,.v (.bool x8)),vI 9 x9],ai [(447,.box [.list Y3 x3]),(800,.rows 185 Y3 .no x6),(831,.box [.own 800]),(928,.rows 185 Y3 .no x7)]⟩
theorem Jh (a0:List D1) (a1 a2:Int):ze a0 a1 a2=ze.a a1 a2 a0 [] [] false 0:=
 (aa cfg 304 _).trans (by kernel_rfl)
theorem ze.a_eq (x1 x2:Int) (x3 x6 x7:List D1) (x8:Bool) (x9:Int):ze.a x1 x2 x3 x6 x7 x8 x9=bif (decide (x9< (x3.length:Int)))then(ax (fun kr3=>bif (!x8)then(bif (ao x9 (x3.length))then kr3 (decide ((rd (τ:=Y3) x3 x9).1>x1))else none)else kr3 false) fun(r2:Bool)=>bif r2 then(bif (decide (0≤128)&&av (Int.toNat 128) 1)then(bif (av ((x7.length)+([(x1,x2,(aI (List.replicate (Int.toNat 128) (0:Int))))].length)) 32)then(bif (ao x9 (x3.length))then(bif (av (((x7++[(x1,x2,(aI (List.replicate (Int.toNat 128) (0:Int))))]).length)+([(rd (τ:=Y3) x3 x9)].length)) 32)then ze.a x1 x2 x3 x6 ((x7++[(x1,x2,(aI (List.replicate (Int.toNat 128) (0:Int))))])++[(rd (τ:=Y3) x3 x9)]) true (IntKind.wrap .i64 (x9+1))else none)else none)else none)else none)else(bif (ao x9 (x3.length))then(bif (av ((x7.length)+([(rd (τ:=Y3) x3 x9)].length)) 32)then ze.a x1 x2 x3 x6 (x7++[(rd (τ:=Y3) x3 x9)]) x8 (IntKind.wrap .i64 (x9+1))else none)else none))else(bif (!x8)then(bif (decide (0≤128)&&av (Int.toNat 128) 1)then(bif (av ((x7.length)+([(x1,x2,(aI (List.replicate (Int.toNat 128) (0:Int))))].length)) 32)then some (x7++[(x1,x2,(aI (List.replicate (Int.toNat 128) (0:Int))))])else none)else none)else some x7):=
 (ak cfg 304 _ _ _).trans (by kernel_rfl)
noncomputable def pJ (a0:List D1) (a1 a2 a3:Int):Option (List D1):=ar cfg 269 [.agg [.list Y3 a0],.v (.int .i64 a1),.v (.int .i64 a2),.v (.int .i64 a3)]
noncomputable def pJ.a (x1 x2 x3:Int) (x4 x8:List D1) (x9:Int):Option (List D1):=LA 269 Tryz.f269 [1,0,1,0] ⟨22,af [vI 1 x1,vI 2 x2,vI 3 x3,vP 4 575,vP 8 1087,vI 9 x9],ai [(575,.box [.list Y3 x4]),(1056,.rows 185 Y3 .no x8),(1087,.box [.own 1056])]⟩
theorem Ji (a0:List D1) (a1 a2 a3:Int):pJ a0 a1 a2 a3=pJ.a a1 a2 a3 a0 [] 0:=
 (aa cfg 269 _).trans (by kernel_rfl)
theorem pJ.a_eq (x1 x2 x3:Int) (x4 x8:List D1) (x9:Int):pJ.a x1 x2 x3 x4 x8 x9=bif (decide (x9<x2))then((ze x4 (IntKind.wrap .i64 (x1+x9)) x3).bind fun r1=>pJ.a x1 x2 x3 r1 x8 (IntKind.wrap .i64 (x9+128)))else some x4:=
 (ak cfg 269 _ _ _).trans (by kernel_rfl)
noncomputable def Cw:Option (List D1):=ar cfg 204 []
noncomputable def Cw.a (x0 x1:List D1) (x2:Int):Option (List D1):=LA 204 Tryz.f204 [1,1,1,1,1,0,1,0] ⟨21,af [vP 0 63,vP 1 191,vI 2 x2],ai [(32,.rows 185 Y3 .no x0),(63,.box [.own 32]),(191,.box [.list Y3 x1])]⟩
theorem Jj:Cw=(pJ [] 4096 1024 4).bind fun r1=>(pJ r1 8192 1024 4).bind fun r2=>(pJ r2 16384 256 3).bind fun r3=>(pJ r3 20480 256 3).bind fun r4=>Cw.a [] r4 0:=
 (aa cfg 204 _).trans (by kernel_rfl)
theorem Cw.a_eq (x0 x1:List D1) (x2:Int):Cw.a x0 x1 x2=bif (decide (x2<4))then((pJ x1 (IntKind.wrap .i64 (32768+(IntKind.wrap .i64 (1024*x2)))) 512 11).bind fun r5=>Cw.a x0 r5 (IntKind.wrap .i64 (x2+1)))else some x1:=
 (ak cfg 204 _ _ _).trans (by kernel_rfl)
noncomputable def Qt (a0:D3):Option (List D1):=ar cfg 146 [.agg [.str a0.1,.str a0.2.1,.list Y4 a0.2.2]]
theorem Jk (a0:D3):Qt a0=(Cw).bind fun r1=>(wo r1 4096 a0.1).bind fun r2=>(wo r2 16384 a0.2.1).bind fun r3=>some r3:=
 (aa cfg 146 _).trans (by kernel_rfl)
noncomputable def Qu (a0:D3):Option tI:=ar cfg 88 [.agg [.str a0.1,.str a0.2.1,.list Y4 a0.2.2]]
theorem Jl (a0:D3):Qu a0=(Cv a0).bind fun r1=>(Bo a0).bind fun r2=>(Qt a0).bind fun r3=>some (r1,(8192,1024,8192),(20480,256,20480),r2,r3):=
 (aa cfg 88 _).trans (by kernel_rfl)
noncomputable def Qv (a0:ByteArray):Option Bool:=ar cfg 270 [.v (.str a0)]
theorem Jm (a0:ByteArray):Qv a0=bif (decide (((a0.size:Int).tmod 4)=0))then(bif (decide ((a0.size:Int)≥20))then some (decide ((a0.size:Int)≤256))else some false)else some false:=
 (aa cfg 270 _).trans (by kernel_rfl)
noncomputable def tw (a0:D9):Option (Int×Int):=ar cfg 205 [.agg [.str a0.1,.int .i64 a0.2.1,.list Y5 a0.2.2.1,.list (.pair .str .str) a0.2.2.2.1,.list Y6 a0.2.2.2.2.1,.list (.pair (.int .i64) .bool) a0.2.2.2.2.2]]
noncomputable def tw.a (x1:D9) (x4:Int):Option (Int×Int):=LA 205 Tryz.f205 [1,0,1,0] ⟨49,af [vP 1 191,vI 4 x4],ai [(191,.box [.str x1.1,.int .i64 x1.2.1,.list Y5 x1.2.2.1,.list (.pair .str .str) x1.2.2.2.1,.list Y6 x1.2.2.2.2.1,.list (.pair (.int .i64) .bool) x1.2.2.2.2.2])]⟩
noncomputable def tw.b (x1:D9) (x4:Int) (x5:D6) (x6:Int):Option (Int×Int):=LA 205 Tryz.f205 [1,0,1,0,0,1,0,0,1,1,0,1,0] ⟨49,af [vP 1 191,vI 4 x4,vP 5 703,vI 6 x6],ai [(191,.box [.str x1.1,.int .i64 x1.2.1,.list Y5 x1.2.2.1,.list (.pair .str .str) x1.2.2.2.1,.list Y6 x1.2.2.2.2.1,.list (.pair (.int .i64) .bool) x1.2.2.2.2.2]),(703,.box [.str x5.1,.bool x5.2.1,.int .i64 x5.2.2.1,.str x5.2.2.2])]⟩
theorem Jn (a0:D9):tw a0=tw.a a0 0:=
 (aa cfg 205 _).trans (by kernel_rfl)
theorem tw.a_eq (x1:D9) (x4:Int):tw.a x1 x4=bif (decide (x4< (x1.2.2.1.length:Int)))then(bif (ao x4 (x1.2.2.1.length))then((Zx ((rd (τ:=Y5) x1.2.2.1 x4).1)).bind fun r1=>bif (!r1)then some (x4,3)else tw.b x1 x4 (rd (τ:=Y5) x1.2.2.1 x4) 0)else none)else some (0,0):=
 (ak cfg 205 _ _ _).trans (by kernel_rfl)
theorem tw.b_eq (x1:D9) (x4:Int) (x5:D6) (x6:Int):tw.b x1 x4 x5 x6=bif (decide (x6<x4))then(bif (ao x6 (x1.2.2.1.length))then(bif (bu ((rd (τ:=Y5) x1.2.2.1 x6).1) x5.1)then some (x4,24)else tw.b x1 x4 x5 (IntKind.wrap .i64 (x6+1)))else none)else((OH x5.2.2.1).bind fun r2=>bif (!r2)then some (x4,17)else((Qv x5.2.2.2).bind fun r3=>bif (!r3)then some (x4,8)else tw.a x1 (IntKind.wrap .i64 (x4+1)))):=
 (ak cfg 205 _ _ _).trans (by kernel_rfl)
noncomputable def mJ (a0:D9):Option (Int×Int):=ar cfg 206 [.agg [.str a0.1,.int .i64 a0.2.1,.list Y5 a0.2.2.1,.list (.pair .str .str) a0.2.2.2.1,.list Y6 a0.2.2.2.2.1,.list (.pair (.int .i64) .bool) a0.2.2.2.2.2]]
noncomputable def mJ.a (x1:D9) (x4:Int):Option (Int×Int):=LA 206 Tryz.f206 [1,0,1,0] ⟨75,af [vP 1 191,vI 4 x4],ai [(191,.box [.str x1.1,.int .i64 x1.2.1,.list Y5 x1.2.2.1,.list (.pair .str .str) x1.2.2.2.1,.list Y6 x1.2.2.2.2.1,.list (.pair (.int .i64) .bool) x1.2.2.2.2.2])]⟩
noncomputable def mJ.b (x1:D9) (x4:Int) (x5:D7) (x6:Int):Option (Int×Int):=LA 206 Tryz.f206 [1,0,1,0,0,1,0,0,1,1,0,1,0] ⟨75,af [vP 1 191,vI 4 x4,vP 5 703,vI 6 x6],ai [(191,.box [.str x1.1,.int .i64 x1.2.1,.list Y5 x1.2.2.1,.list (.pair .str .str) x1.2.2.2.1,.list Y6 x1.2.2.2.2.1,.list (.pair (.int .i64) .bool) x1.2.2.2.2.2]),(703,.box [.str x5.1,.str x5.2])]⟩
noncomputable def mJ.c (x1:D9) (x4:Int) (x5:D7) (x7:Int):Option (Int×Int):=LA 206 Tryz.f206 [1,0,1,0,0,1,0,0,1,1,1,0,1,0] ⟨75,af [vP 1 191,vI 4 x4,vP 5 703,vI 7 x7],ai [(191,.box [.str x1.1,.int .i64 x1.2.1,.list Y5 x1.2.2.1,.list (.pair .str .str) x1.2.2.2.1,.list Y6 x1.2.2.2.2.1,.list (.pair (.int .i64) .bool) x1.2.2.2.2.2]),(703,.box [.str x5.1,.str x5.2])]⟩
theorem Jo (a0:D9):mJ a0=mJ.a a0 0:=
 (aa cfg 206 _).trans (by kernel_rfl)
theorem mJ.a_eq (x1:D9) (x4:Int):mJ.a x1 x4=bif (decide (x4< (x1.2.2.2.1.length:Int)))then(bif (ao x4 (x1.2.2.2.1.length))then((Zx ((rd (τ:=(.pair .str .str)) x1.2.2.2.1 x4).1)).bind fun r1=>bif (!r1)then some (x4,3)else mJ.b x1 x4 (rd (τ:=(.pair .str .str)) x1.2.2.2.1 x4) 0)else none)else some (0,0):=
 (ak cfg 206 _ _ _).trans (by kernel_rfl)
theorem mJ.b_eq (x1:D9) (x4:Int) (x5:D7) (x6:Int):mJ.b x1 x4 x5 x6=bif (decide (x6< (x1.2.2.1.length:Int)))then(bif (ao x6 (x1.2.2.1.length))then(bif (bu ((rd (τ:=Y5) x1.2.2.1 x6).1) x5.1)then some (x4,24)else mJ.b x1 x4 x5 (IntKind.wrap .i64 (x6+1)))else none)else mJ.c x1 x4 x5 0:=
 (ak cfg 206 _ _ _).trans (by kernel_rfl)
theorem mJ.c_eq (x1:D9) (x4:Int) (x5:D7) (x7:Int):mJ.c x1 x4 x5 x7=bif (decide (x7<x4))then(bif (ao x7 (x1.2.2.2.1.length))then(bif (bu ((rd (τ:=(.pair .str .str)) x1.2.2.2.1 x7).1) x5.1)then some (x4,24)else mJ.c x1 x4 x5 (IntKind.wrap .i64 (x7+1)))else none)else(bif (!decide (((x5.2.size:Int).tmod 8)=0))then some (x4,8)else(bif (decide ((x5.2.size:Int)<8))then some (x4,8)else(bif (decide ((x5.2.size:Int)>64))then some (x4,8)else mJ.a x1 (IntKind.wrap .i64 (x4+1))))):=
 (ak cfg 206 _ _ _).trans (by kernel_rfl)
noncomputable def O3 (a0:D9) (a1:Int):Option Int:=ar cfg 271 [.agg [.str a0.1,.int .i64 a0.2.1,.list Y5 a0.2.2.1,.list (.pair .str .str) a0.2.2.2.1,.list Y6 a0.2.2.2.2.1,.list (.pair (.int .i64) .bool) a0.2.2.2.2.2],.v (.int .i64 a1)]
theorem Jp (a0:D9) (a1:Int):O3 a0 a1=ax (fun kr6=>bif (decide (a1≥0))then kr6 (decide (a1< (a0.2.2.1.length:Int)))else kr6 false) fun(r2:Bool)=>bif r2 then(bif (ao a1 (a0.2.2.1.length))then some (IntKind.wrap .i64 ((((rd (τ:=Y5) a0.2.2.1 a1).2.2.2).size:Int).tdiv 4))else none)else(ax (fun kr5=>bif (decide (a1≥(a0.2.2.1.length:Int)))then kr5 (decide ((IntKind.wrap .i64 (a1-(a0.2.2.1.length:Int)))< (a0.2.2.2.1.length:Int)))else kr5 false) fun(r4:Bool)=>bif r4 then(bif (ao (IntKind.wrap .i64 (a1-(a0.2.2.1.length:Int))) (a0.2.2.2.1.length))then some (IntKind.wrap .i64 ((((rd (τ:=(.pair .str .str)) a0.2.2.2.1 (IntKind.wrap .i64 (a1-(a0.2.2.1.length:Int)))).2).size:Int).tdiv 8))else none)else some (-1)):=
 (aa cfg 271 _).trans (by kernel_rfl)
noncomputable def Cy (a0:D9):Option (Int×Int):=ar cfg 207 [.agg [.str a0.1,.int .i64 a0.2.1,.list Y5 a0.2.2.1,.list (.pair .str .str) a0.2.2.2.1,.list Y6 a0.2.2.2.2.1,.list (.pair (.int .i64) .bool) a0.2.2.2.2.2]]
noncomputable def Cy.a (x1:D9) (x4:Int):Option (Int×Int):=LA 207 Tryz.f207 [1,0,1,0] ⟨85,af [vP 1 191,vI 4 x4],ai [(191,.box [.str x1.1,.int .i64 x1.2.1,.list Y5 x1.2.2.1,.list (.pair .str .str) x1.2.2.2.1,.list Y6 x1.2.2.2.2.1,.list (.pair (.int .i64) .bool) x1.2.2.2.2.2])]⟩
theorem Jq (a0:D9):Cy a0=Cy.a a0 0:=
 (aa cfg 207 _).trans (by kernel_rfl)
theorem Cy.a_eq (x1:D9) (x4:Int):Cy.a x1 x4=bif (decide (x4< (x1.2.2.2.2.1.length:Int)))then(bif (ao x4 (x1.2.2.2.2.1.length))then(ax (fun kr13=>bif (decide ((rd (τ:=Y6) x1.2.2.2.2.1 x4).2.1<0))then kr13 true else((O3 x1 ((rd (τ:=Y6) x1.2.2.2.2.1 x4).1)).bind fun r1=>kr13 (decide ((rd (τ:=Y6) x1.2.2.2.2.1 x4).2.1≥r1)))) fun(r3:Bool)=>bif r3 then some (x4,4)else(ax (fun kr12=>(nj ((rd (τ:=Y6) x1.2.2.2.2.1 x4).2.2.1) 1 9).bind fun r4=>bif (!r4)then kr12 true else kr12 (!((decide ((rd (τ:=Y6) x1.2.2.2.2.1 x4).2.2.1=9))==(decide ((rd (τ:=Y6) x1.2.2.2.2.1 x4).1≥(x1.2.2.1.length:Int)))))) fun(r6:Bool)=>bif r6 then some (x4,26)else((Zx ((rd (τ:=Y6) x1.2.2.2.2.1 x4).2.2.2.1)).bind fun r7=>bif (!r7)then some (x4,3)else((nj ((rd (τ:=Y6) x1.2.2.2.2.1 x4).2.2.2.2) (-2147483648) 2147483647).bind fun r8=>bif (!r8)then some (x4,4)else(bif (decide (x4>0))then(bif (ao (IntKind.wrap .i64 (x4-1)) (x1.2.2.2.2.1.length))then(bif (ao (IntKind.wrap .i64 (x4-1)) (x1.2.2.2.2.1.length))then((Ct [(rd (τ:=Y6) x1.2.2.2.2.1 (IntKind.wrap .i64 (x4-1))).1,(rd (τ:=Y6) x1.2.2.2.2.1 (IntKind.wrap .i64 (x4-1))).2.1] [(rd (τ:=Y6) x1.2.2.2.2.1 x4).1,(rd (τ:=Y6) x1.2.2.2.2.1 x4).2.1]).bind fun r9=>bif (!r9)then some (x4,24)else Cy.a x1 (IntKind.wrap .i64 (x4+1)))else none)else none)else Cy.a x1 (IntKind.wrap .i64 (x4+1)))))))else none)else some (0,0):=
 (ak cfg 207 _ _ _).trans (by kernel_rfl)
noncomputable def Cz (a0:D9):Option (Int×Int):=ar cfg 208 [.agg [.str a0.1,.int .i64 a0.2.1,.list Y5 a0.2.2.1,.list (.pair .str .str) a0.2.2.2.1,.list Y6 a0.2.2.2.2.1,.list (.pair (.int .i64) .bool) a0.2.2.2.2.2]]
noncomputable def Cz.a (x1:D9) (x4:Int):Option (Int×Int):=LA 208 Tryz.f208 [1,0,1,0] ⟨40,af [vP 1 191,vI 4 x4],ai [(191,.box [.str x1.1,.int .i64 x1.2.1,.list Y5 x1.2.2.1,.list (.pair .str .str) x1.2.2.2.1,.list Y6 x1.2.2.2.2.1,.list (.pair (.int .i64) .bool) x1.2.2.2.2.2])]⟩
theorem Jr (a0:D9):Cz a0=Cz.a a0 0:=
 (aa cfg 208 _).trans (by kernel_rfl)
theorem Cz.a_eq (x1:D9) (x4:Int):Cz.a x1 x4=bif (decide (x4< (x1.2.2.2.2.2.length:Int)))then(bif (ao x4 (x1.2.2.2.2.2.length))then((nj ((rd (τ:=(.pair (.int .i64) .bool)) x1.2.2.2.2.2 x4).1) 0 255).bind fun r1=>bif (!r1)then some (x4,4)else(bif (decide (x4>0))then(bif (ao x4 (x1.2.2.2.2.2.length))then(bif (ao (IntKind.wrap .i64 (x4-1)) (x1.2.2.2.2.2.length))then(bif (decide ((rd (τ:=(.pair (.int .i64) .bool)) x1.2.2.2.2.2 x4).1≤(rd (τ:=(.pair (.int .i64) .bool)) x1.2.2.2.2.2 (IntKind.wrap .i64 (x4-1))).1))then some (x4,24)else Cz.a x1 (IntKind.wrap .i64 (x4+1)))else none)else none)else Cz.a x1 (IntKind.wrap .i64 (x4+1))))else none)else some (0,0):=
 (ak cfg 208 _ _ _).trans (by kernel_rfl)
noncomputable def Qw (a0:D9):Option (Int×Int):=ar cfg 147 [.agg [.str a0.1,.int .i64 a0.2.1,.list Y5 a0.2.2.1,.list (.pair .str .str) a0.2.2.2.1,.list Y6 a0.2.2.2.2.1,.list (.pair (.int .i64) .bool) a0.2.2.2.2.2]]
theorem Js (a0:D9):Qw a0=(Zx a0.1).bind fun r1=>bif (!r1)then some (0,3)else((nj a0.2.1 0 5).bind fun r2=>bif (!r2)then some (0,27)else(bif (decide ((a0.2.2.1.length:Int)=0))then some (0,5)else(ax (fun kr13=>bif (decide ((a0.2.2.1.length:Int)>4))then kr13 true else(bif (decide ((a0.2.2.2.1.length:Int)>4))then kr13 true else(bif (decide ((a0.2.2.2.2.1.length:Int)>32))then kr13 true else kr13 (decide ((a0.2.2.2.2.2.length:Int)>4))))) fun(r8:Bool)=>bif r8 then some (0,6)else((tw a0).bind fun r9=>bif (!decide (r9.2=0))then some r9 else((mJ a0).bind fun r10=>bif (!decide (r10.2=0))then some r10 else((Cy a0).bind fun r11=>bif (!decide (r11.2=0))then some r11 else((Cz a0).bind fun r12=>some r12))))))):=
 (aa cfg 147 _).trans (by kernel_rfl)
noncomputable def Qx (a0:D9):Option Bool:=ar cfg 89 [.agg [.str a0.1,.int .i64 a0.2.1,.list Y5 a0.2.2.1,.list (.pair .str .str) a0.2.2.2.1,.list Y6 a0.2.2.2.2.1,.list (.pair (.int .i64) .bool) a0.2.2.2.2.2]]
theorem Jt (a0:D9):Qx a0=(Qw a0).bind fun r1=>some (decide (r1.2=0)):=
 (aa cfg 89 _).trans (by kernel_rfl)
noncomputable def iX (a0:List ef) (a1:D9):Option Int:=ar cfg 90 [.v (.list bJ a0),.agg [.str a1.1,.int .i64 a1.2.1,.list Y5 a1.2.2.1,.list (.pair .str .str) a1.2.2.2.1,.list Y6 a1.2.2.2.2.1,.list (.pair (.int .i64) .bool) a1.2.2.2.2.2]]
noncomputable def iX.a (x0:List ef) (x3:D9) (x5:Int):Option Int:=LA 90 Tryz.f90 [1,0,1,0] ⟨62,af [vL 0 bJ x0,vP 3 447,vI 5 x5],ai [(447,.box [.str x3.1,.int .i64 x3.2.1,.list Y5 x3.2.2.1,.list (.pair .str .str) x3.2.2.2.1,.list Y6 x3.2.2.2.2.1,.list (.pair (.int .i64) .bool) x3.2.2.2.2.2])]⟩
noncomputable def iX.b (x0:List ef) (x3:D9) (x6:Int):Option Int:=LA 90 Tryz.f90 [1,1,0,1,0] ⟨62,af [vL 0 bJ x0,vP 3 447,vI 6 x6],ai [(447,.box [.str x3.1,.int .i64 x3.2.1,.list Y5 x3.2.2.1,.list (.pair .str .str) x3.2.2.2.1,.list Y6 x3.2.2.2.2.1,.list (.pair (.int .i64) .bool) x3.2.2.2.2.2])]⟩
noncomputable def iX.c (x0:List ef) (x3:D9) (x6:Int) (x7:List (Int×Bool)) (x8:Int):Option Int:=LA 90 Tryz.f90 [1,1,0,1,0,0,1,0,0,1,1,0] ⟨62,af [vL 0 bJ x0,vP 3 447,vI 6 x6,vL 7 (.pair (.int .i64) .bool) x7,vI 8 x8],ai [(447,.box [.str x3.1,.int .i64 x3.2.1,.list Y5 x3.2.2.1,.list (.pair .str .str) x3.2.2.2.1,.list Y6 x3.2.2.2.2.1,.list (.pair (.int .i64) .bool) x3.2.2.2.2.2])]⟩
noncomputable def iX.d (x0:List ef) (x3:D9) (x6:Int) (x7:List (Int×Bool)) (x8 x9:Int):Option Int:=LA 90 Tryz.f90 [1,1,0,1,0,0,1,0,0,1,1,0,0,1,0,0,1,0] ⟨62,af [vL 0 bJ x0,vP 3 447,vI 6 x6,vL 7 (.pair (.int .i64) .bool) x7,vI 8 x8,vI 9 x9],ai [(447,.box [.str x3.1,.int .i64 x3.2.1,.list Y5 x3.2.2.1,.list (.pair .str .str) x3.2.2.2.1,.list Y6 x3.2.2.2.2.1,.list (.pair (.int .i64) .bool) x3.2.2.2.2.2])]⟩
theorem Ju (a0:List ef) (a1:D9):iX a0 a1=iX.a a0 a1 0:=
 (aa cfg 90 _).trans (by kernel_rfl)
theorem iX.a_eq (x0:List ef) (x3:D9) (x5:Int):iX.a x0 x3 x5=bif (decide (x5< (x0.length:Int)))then(bif (ao x5 (x0.length))then(bif (bu ((rd (τ:=bJ) x0 x5).1.1) x3.1)then some 24 else iX.a x0 x3 (IntKind.wrap .i64 (x5+1)))else none)else iX.b x0 x3 0:=
 (ak cfg 90 _ _ _).trans (by kernel_rfl)
theorem iX.b_eq (x0:List ef) (x3:D9) (x6:Int):iX.b x0 x3 x6=bif (decide (x6< (x0.length:Int)))then(bif (ao x6 (x0.length))then iX.c x0 x3 x6 ((rd (τ:=bJ) x0 x6).1.2.2.2.2.2) 0 else none)else some 0:=
 (ak cfg 90 _ _ _).trans (by kernel_rfl)
theorem iX.c_eq (x0:List ef) (x3:D9) (x6:Int) (x7:List (Int×Bool)) (x8:Int):iX.c x0 x3 x6 x7 x8=bif (decide (x8< (x7.length:Int)))then iX.d x0 x3 x6 x7 x8 0 else iX.b x0 x3 (IntKind.wrap .i64 (x6+1)):=
 (ak cfg 90 _ _ _).trans (by kernel_rfl)
theorem iX.d_eq (x0:List ef) (x3:D9) (x6:Int) (x7:List (Int×Bool)) (x8 x9:Int):iX.d x0 x3 x6 x7 x8 x9=bif (decide (x9< (x3.2.2.2.2.2.length:Int)))then(bif (ao x8 (x7.length))then(bif (ao x9 (x3.2.2.2.2.2.length))then(bif (decide ((rd (τ:=(.pair (.int .i64) .bool)) x7 x8).1=(rd (τ:=(.pair (.int .i64) .bool)) x3.2.2.2.2.2 x9).1))then some 30 else iX.d x0 x3 x6 x7 x8 (IntKind.wrap .i64 (x9+1)))else none)else none)else iX.c x0 x3 x6 x7 (IntKind.wrap .i64 (x8+1)):=
 (ak cfg 90 _ _ _).trans (by kernel_rfl)
noncomputable def rU (a0:List D0) (a1:D9):Option Int:=ar cfg 148 [.v (.list Y0 a0),.agg [.str a1.1,.int .i64 a1.2.1,.list Y5 a1.2.2.1,.list (.pair .str .str) a1.2.2.2.1,.list Y6 a1.2.2.2.2.1,.list (.pair (.int .i64) .bool) a1.2.2.2.2.2]]
noncomputable def rU.a (x0:List D0) (x3:D9) (x5:Int):Option Int:=LA 148 Tryz.f148 [1,0,1,0] ⟨56,af [vL 0 Y0 x0,vP 3 447,vI 5 x5],ai [(447,.box [.str x3.1,.int .i64 x3.2.1,.list Y5 x3.2.2.1,.list (.pair .str .str) x3.2.2.2.1,.list Y6 x3.2.2.2.2.1,.list (.pair (.int .i64) .bool) x3.2.2.2.2.2])]⟩
noncomputable def rU.b (x0:List D0) (x3:D9) (x7:Int):Option Int:=LA 148 Tryz.f148 [1,1,0,1,0] ⟨56,af [vL 0 Y0 x0,vP 3 447,vI 7 x7],ai [(447,.box [.str x3.1,.int .i64 x3.2.1,.list Y5 x3.2.2.1,.list (.pair .str .str) x3.2.2.2.1,.list Y6 x3.2.2.2.2.1,.list (.pair (.int .i64) .bool) x3.2.2.2.2.2])]⟩
theorem Jv (a0:List D0) (a1:D9):rU a0 a1=rU.a a0 a1 0:=
 (aa cfg 148 _).trans (by kernel_rfl)
theorem rU.a_eq (x0:List D0) (x3:D9) (x5:Int):rU.a x0 x3 x5=bif (decide (x5< (x3.2.2.1.length:Int)))then(bif (ao x5 (x3.2.2.1.length))then((wn x0 ((rd (τ:=Y5) x3.2.2.1 x5).1)).bind fun r1=>bif (ao x5 (x3.2.2.1.length))then(bif (!(rd (τ:=Y5) x3.2.2.1 x5).2.1)then(bif (decide (r1≥0))then some 24 else rU.a x0 x3 (IntKind.wrap .i64 (x5+1)))else(bif (decide (r1<0))then some 23 else(bif (ao r1 (x0.length))then(bif (!decide ((rd (τ:=Y0) x0 r1).2.1=1))then some 26 else rU.a x0 x3 (IntKind.wrap .i64 (x5+1)))else none)))else none)else none)else rU.b x0 x3 0:=
 (ak cfg 148 _ _ _).trans (by kernel_rfl)
theorem rU.b_eq (x0:List D0) (x3:D9) (x7:Int):rU.b x0 x3 x7=bif (decide (x7< (x3.2.2.2.1.length:Int)))then(bif (ao x7 (x3.2.2.2.1.length))then((wn x0 ((rd (τ:=(.pair .str .str)) x3.2.2.2.1 x7).1)).bind fun r2=>bif (decide (r2≥0))then some 24 else rU.b x0 x3 (IntKind.wrap .i64 (x7+1)))else none)else some 0:=
 (ak cfg 148 _ _ _).trans (by kernel_rfl)
noncomputable def CA (a0:Int×Int×Int) (a1:Int):Option Q4:=ar cfg 209 [.agg [.int .i64 a0.1,.int .i64 a0.2.1,.int .i64 a0.2.2],.v (.int .i64 a1)]
noncomputable def CA.a (x1:Int) (x2 x4:Int×Int×Int):Option Q4:=LA 209 Tryz.f209 [1,0,0] ⟨33,af [vI 1 x1,vP 2 319,vP 4 575],ai [(319,.box [.int .i64 x2.1,.int .i64 x2.2.1,.int .i64 x2.2.2]),(575,.box [.int .i64 x4.1,.int .i64 x4.2.1,.int .i64 x4.2.2])]⟩
theorem Jw (a0:Int×Int×Int) (a1:Int):CA a0 a1=CA.a a1 a0 (0,0,0):=
 (aa cfg 209 _).trans (by kernel_rfl)
theorem CA.a_eq (x1:Int) (x2 x4:Int×Int×Int):CA.a x1 x2 x4=bif (!decide ((x1.tmod 8)=0))then CA.a (IntKind.wrap .i64 (x1+1)) x2 x4 else(bif (decide (x1>(IntKind.wrap .i64 ((IntKind.wrap .i64 (x2.1+x2.2.1))-x2.2.2))))then some (x2,0,false)else some ((x2.1,x2.2.1,(IntKind.wrap .i64 (x2.2.2+x1))),x2.2.2,true)):=
 (ak cfg 209 _ _ _).trans (by kernel_rfl)
noncomputable def pK (a0 a1:Int×Int×Int) (a2:D9):Option Q5:=ar cfg 149 [.agg [.int .i64 a0.1,.int .i64 a0.2.1,.int .i64 a0.2.2],.agg [.int .i64 a1.1,.int .i64 a1.2.1,.int .i64 a1.2.2],.agg [.str a2.1,.int .i64 a2.2.1,.list Y5 a2.2.2.1,.list (.pair .str .str) a2.2.2.2.1,.list Y6 a2.2.2.2.2.1,.list (.pair (.int .i64) .bool) a2.2.2.2.2.2]]
noncomputable def pK.a (x3 x4:Int×Int×Int) (x5:D9) (x6:bX) (x7 x8:Int×Int×Int) (x10:bX) (x11:Int):Option Q5:=LA 149 Tryz.f149 [1,1,0,1,0] ⟨113,af [vP 3 447,vP 4 575,vP 5 703,vP 6 831,vP 7 959,vP 8 1087,vP 10 1343,vI 11 x11],ai [(447,.box [.int .i64 x3.1,.int .i64 x3.2.1,.int .i64 x3.2.2]),(575,.box [.int .i64 x4.1,.int .i64 x4.2.1,.int .i64 x4.2.2]),(703,.box [.str x5.1,.int .i64 x5.2.1,.list Y5 x5.2.2.1,.list (.pair .str .str) x5.2.2.2.1,.list Y6 x5.2.2.2.2.1,.list (.pair (.int .i64) .bool) x5.2.2.2.2.2]),(800,.rows 3 (.int .i64) .no x6.1),(801,.rows 9 .str .no x6.2.1),(802,.rows 3 (.int .i64) .no x6.2.2.1),(803,.rows 9 .str .no x6.2.2.2),(831,.box [.own 800,.own 801,.own 802,.own 803]),(959,.box [.int .i64 x7.1,.int .i64 x7.2.1,.int .i64 x7.2.2]),(1087,.box [.int .i64 x8.1,.int .i64 x8.2.1,.int .i64 x8.2.2]),(1312,.rows 3 (.int .i64) .no x10.1),(1313,.rows 9 .str .no x10.2.1),(1314,.rows 3 (.int .i64) .no x10.2.2.1),(1315,.rows 9 .str .no x10.2.2.2),(1343,.box [.own 1312,.own 1313,.own 1314,.own 1315])]⟩
noncomputable def pK.b (x3 x4:Int×Int×Int) (x5:D9) (x6:bX) (x7 x8:Int×Int×Int) (x10:bX) (x15:Int):Option Q5:=LA 149 Tryz.f149 [1,1,1,0,1,0] ⟨113,af [vP 3 447,vP 4 575,vP 5 703,vP 6 831,vP 7 959,vP 8 1087,vP 10 1343,vI 15 x15],ai [(447,.box [.int .i64 x3.1,.int .i64 x3.2.1,.int .i64 x3.2.2]),(575,.box [.int .i64 x4.1,.int .i64 x4.2.1,.int .i64 x4.2.2]),(703,.box [.str x5.1,.int .i64 x5.2.1,.list Y5 x5.2.2.1,.list (.pair .str .str) x5.2.2.2.1,.list Y6 x5.2.2.2.2.1,.list (.pair (.int .i64) .bool) x5.2.2.2.2.2]),(800,.rows 3 (.int .i64) .no x6.1),(801,.rows 9 .str .no x6.2.1),(802,.rows 3 (.int .i64) .no x6.2.2.1),(803,.rows 9 .str .no x6.2.2.2),(831,.box [.own 800,.own 801,.own 802,.own 803]),(959,.box [.int .i64 x7.1,.int .i64 x7.2.1,.int .i64 x7.2.2]),(1087,.box [.int .i64 x8.1,.int .i64 x8.2.1,.int .i64 x8.2.2]),(1312,.rows 3 (.int .i64) .no x10.1),(1313,.rows 9 .str .no x10.2.1),(1314,.rows 3 (.int .i64) .no x10.2.2.1),(1315,.rows 9 .str .no x10.2.2.2),(1343,.box [.own 1312,.own 1313,.own 1314,.own 1315])]⟩
theorem Jx (a0 a1:Int×Int×Int) (a2:D9):pK a0 a1 a2=pK.a a0 a1 a2 ([],[],[],[]) (0,0,0) (0,0,0) ([],[],[],[]) 0:=
 (aa cfg 149 _).trans (by kernel_rfl)
theorem pK.a_eq (x3 x4:Int×Int×Int) (x5:D9) (x6:bX) (x7 x8:Int×Int×Int) (x10:bX) (x11:Int):pK.a x3 x4 x5 x6 x7 x8 x10 x11=bif (decide (x11< (x5.2.2.1.length:Int)))then(bif (ao x11 (x5.2.2.1.length))then((CA x3 (((rd (τ:=Y5) x5.2.2.1 x11).2.2.2).size:Int)).bind fun r1=>bif (!r1.2.2)then some (x10,x3,x4,false)else(bif (av ((x10.1.length)+([r1.2.1].length)) 8)then(bif (ao x11 (x5.2.2.1.length))then(bif (av ((x10.2.1.length)+([(rd (τ:=Y5) x5.2.2.1 x11).2.2.2].length)) 16)then pK.a r1.1 x4 x5 x6 x7 x8 ((x10.1++[r1.2.1]),(x10.2.1++[(rd (τ:=Y5) x5.2.2.1 x11).2.2.2]),x10.2.2) (IntKind.wrap .i64 (x11+1))else none)else none)else none))else none)else pK.b x3 x4 x5 x6 x7 x8 x10 0:=
 (ak cfg 149 _ _ _).trans (by kernel_rfl)
theorem pK.b_eq (x3 x4:Int×Int×Int) (x5:D9) (x6:bX) (x7 x8:Int×Int×Int) (x10:bX) (x15:Int):pK.b x3 x4 x5 x6 x7 x8 x10 x15=bif (decide (x15< (x5.2.2.2.1.length:Int)))then(bif (ao x15 (x5.2.2.2.1.length))then((CA x4 (((rd (τ:=(.pair .str .str)) x5.2.2.2.1 x15).2).size:Int)).bind fun r2=>bif (!r2.2.2)then some (x10,x3,x4,false)else(bif (av ((x10.2.2.1.length)+([r2.2.1].length)) 8)then(bif (ao x15 (x5.2.2.2.1.length))then(bif (av ((x10.2.2.2.length)+([(rd (τ:=(.pair .str .str)) x5.2.2.2.1 x15).2].length)) 16)then pK.b x3 r2.1 x5 x6 x7 x8 (x10.1,x10.2.1,(x10.2.2.1++[r2.2.1]),(x10.2.2.2++[(rd (τ:=(.pair .str .str)) x5.2.2.2.1 x15).2])) (IntKind.wrap .i64 (x15+1))else none)else none)else none))else none)else some (x10,x3,x4,true):=
 (ak cfg 149 _ _ _).trans (by kernel_rfl)
noncomputable def rV (a0:List D0) (a1:D9) (a2:bX) (a3:ByteArray):Option (Int×Bool):=ar cfg 210 [.v (.list Y0 a0),.agg [.str a1.1,.int .i64 a1.2.1,.list Y5 a1.2.2.1,.list (.pair .str .str) a1.2.2.2.1,.list Y6 a1.2.2.2.2.1,.list (.pair (.int .i64) .bool) a1.2.2.2.2.2],.agg [.list (.int .i64) a2.1,.list .str a2.2.1,.list (.int .i64) a2.2.2.1,.list .str a2.2.2.2],.v (.str a3)]
noncomputable def rV.a (x0:List D0) (x3:ByteArray) (x5:D9) (x6:bX) (x10:Int):Option (Int×Bool):=LA 210 Tryz.f210 [1,0,1,0] ⟨72,af [vL 0 Y0 x0,(3,.v (.str x3)),vP 5 703,vP 6 831,vI 10 x10],ai [(703,.box [.str x5.1,.int .i64 x5.2.1,.list Y5 x5.2.2.1,.list (.pair .str .str) x5.2.2.2.1,.list Y6 x5.2.2.2.2.1,.list (.pair (.int .i64) .bool) x5.2.2.2.2.2]),(831,.box [.list (.int .i64) x6.1,.list .str x6.2.1,.list (.int .i64) x6.2.2.1,.list .str x6.2.2.2])]⟩
noncomputable def rV.b (x0:List D0) (x3:ByteArray) (x5:D9) (x6:bX) (x11:Int):Option (Int×Bool):=LA 210 Tryz.f210 [1,1,0,1,0] ⟨72,af [vL 0 Y0 x0,(3,.v (.str x3)),vP 5 703,vP 6 831,vI 11 x11],ai [(703,.box [.str x5.1,.int .i64 x5.2.1,.list Y5 x5.2.2.1,.list (.pair .str .str) x5.2.2.2.1,.list Y6 x5.2.2.2.2.1,.list (.pair (.int .i64) .bool) x5.2.2.2.2.2]),(831,.box [.list (.int .i64) x6.1,.list .str x6.2.1,.list (.int .i64) x6.2.2.1,.list .str x6.2.2.2])]⟩
theorem Jy (a0:List D0) (a1:D9) (a2:bX) (a3:ByteArray):rV a0 a1 a2 a3=rV.a a0 a3 a1 a2 0:=
 (aa cfg 210 _).trans (by kernel_rfl)
theorem rV.a_eq (x0:List D0) (x3:ByteArray) (x5:D9) (x6:bX) (x10:Int):rV.a x0 x3 x5 x6 x10=bif (decide (x10< (x5.2.2.1.length:Int)))then(bif (ao x10 (x5.2.2.1.length))then(bif (!(rd (τ:=Y5) x5.2.2.1 x10).2.1)then(bif (ao x10 (x5.2.2.1.length))then(bif (bu ((rd (τ:=Y5) x5.2.2.1 x10).1) x3)then(bif (ao x10 (x6.1.length))then some ((rd (τ:=(.int .i64)) x6.1 x10),true)else none)else rV.a x0 x3 x5 x6 (IntKind.wrap .i64 (x10+1)))else none)else rV.a x0 x3 x5 x6 (IntKind.wrap .i64 (x10+1)))else none)else rV.b x0 x3 x5 x6 0:=
 (ak cfg 210 _ _ _).trans (by kernel_rfl)
theorem rV.b_eq (x0:List D0) (x3:ByteArray) (x5:D9) (x6:bX) (x11:Int):rV.b x0 x3 x5 x6 x11=bif (decide (x11< (x5.2.2.2.1.length:Int)))then(bif (ao x11 (x5.2.2.2.1.length))then(bif (bu ((rd (τ:=(.pair .str .str)) x5.2.2.2.1 x11).1) x3)then(bif (ao x11 (x6.2.2.1.length))then some ((rd (τ:=(.int .i64)) x6.2.2.1 x11),true)else none)else rV.b x0 x3 x5 x6 (IntKind.wrap .i64 (x11+1)))else none)else((wn x0 x3).bind fun r5=>bif (decide (r5<0))then some (0,false)else(bif (ao r5 (x0.length))then some ((rd (τ:=Y0) x0 r5).2.2.1,true)else none)):=
 (ak cfg 210 _ _ _).trans (by kernel_rfl)
noncomputable def wq (a0 a1:Int):Option ByteArray:=ar cfg 211 [.v (.int .i64 a0),.v (.int .i64 a1)]
noncomputable def wq.a (x0 x1:Int) (x5:List Int) (x6:Int):Option ByteArray:=LA 211 Tryz.f211 [1,1,0,1,0] ⟨25,af [vI 0 x0,vI 1 x1,(5,.v (.own 672)),vI 6 x6],ai [(672,.rows 5 (.int .u8) .no x5)]⟩
theorem Jz (a0 a1:Int):wq a0 a1=wq.a a0 a1 [] 0:=
 (aa cfg 211 _).trans (by kernel_rfl)
theorem wq.a_eq (x0 x1:Int) (x5:List Int) (x6:Int):wq.a x0 x1 x5 x6=bif (decide (x6<x1))then(bif (decide ((IntKind.wrap .u64 ((IntKind.wrap .i64 (8*x6))))<0))then none else(bif (av ((x5.length)+([(IntKind.wrap .u8 ((lr .u64 (IntKind.wrap .u64 (x0)) (IntKind.wrap .u64 ((IntKind.wrap .i64 (8*x6)))))))].length)) 1)then wq.a x0 x1 (x5++[(IntKind.wrap .u8 ((lr .u64 (IntKind.wrap .u64 (x0)) (IntKind.wrap .u64 ((IntKind.wrap .i64 (8*x6)))))))]) (IntKind.wrap .i64 (x6+1))else none))else some (aI x5):=
 (ak cfg 211 _ _ _).trans (by kernel_rfl)
noncomputable def Qy (a0:bQ) (a1:Int):Option Bool:=ar cfg 272 [.agg [.int .i64 a0.1,.int .i64 a0.2.1,.int .i64 a0.2.2.1,.int .i64 a0.2.2.2.1,.int .i64 a0.2.2.2.2],.v (.int .i64 a1)]
theorem JA (a0:bQ) (a1:Int):Qy a0 a1=(H7 a0.1).bind fun r1=>bif (decide (a1=1))then some (decide (a0.1=1))else(ax (fun kr7=>bif (decide (a1=2))then kr7 (decide (a1=2))else kr7 (decide (a1=5))) fun(r2:Bool)=>bif r2 then(bif (decide (r1.1=3))then some (!decide (a0.1=4))else some false)else(ax (fun kr6=>bif (decide (a1=3))then kr6 (decide (a1=3))else kr6 (decide (a1=6))) fun(r5:Bool)=>bif r5 then some (decide (r1.1=5))else(bif (decide (a1=4))then some (decide (a0.1=2))else(bif (decide (a1=7))then some (decide (a0.1=3))else(bif (decide (a1=8))then some (decide (r1.1=4))else some false))))):=
 (aa cfg 272 _).trans (by kernel_rfl)
noncomputable def NN (a0:Int):Option Int:=ar cfg 306 [.v (.int .i64 a0)]
theorem JB (a0:Int):NN a0=(wl a0 12).bind fun r1=>some r1:=
 (aa cfg 306 _).trans (by kernel_rfl)
noncomputable def O4 (a0:Int):Option Int:=ar cfg 305 [.v (.int .i64 a0)]
theorem JC (a0:Int):O4 a0=(NN a0).bind fun r1=>some (IntKind.wrap .i64 (a0-r1)):=
 (aa cfg 305 _).trans (by kernel_rfl)
noncomputable def Qz (a0 a1 a2:Int):Option Int:=ar cfg 273 [.v (.int .i64 a0),.v (.int .i64 a1),.v (.int .i64 a2)]
theorem JD (a0 a1 a2:Int):Qz a0 a1 a2=bif (decide (a0=1))then((O4 a1).bind fun r1=>some r1)else(ax (fun kr11=>bif (decide (a0=2))then kr11 (decide (a0=2))else kr11 (decide (a0=3))) fun(r2:Bool)=>bif r2 then((NN a1).bind fun r3=>some r3)else(bif (decide (a0=4))then((O4 (IntKind.wrap .i64 (a1-a2))).bind fun r4=>some r4)else(bif (decide (a0=5))then(bif (decide (a0=5))then((NN (IntKind.wrap .i64 ((IntKind.wrap .i64 (a1-a2))+4))).bind fun r7=>some r7)else some (IntKind.wrap .i64 (a1-a2)))else(bif (decide (a0=6))then((NN (IntKind.wrap .i64 ((IntKind.wrap .i64 (a1-a2))+4))).bind fun r8=>some r8)else some (IntKind.wrap .i64 (a1-a2)))))):=
 (aa cfg 273 _).trans (by kernel_rfl)
noncomputable def QA (a0 a1 a2 a3:Int):Option (Int×Int):=ar cfg 212 [.v (.int .i64 a0),.v (.int .i64 a1),.v (.int .i64 a2),.v (.int .i64 a3)]
theorem JE (a0 a1 a2 a3:Int):QA a0 a1 a2 a3=(wm a0).bind fun r1=>bif (!r1.2)then some (0,10)else((Qy r1.1 a1).bind fun r2=>bif (!r2)then some (0,26)else((Qz a1 a2 a3).bind fun r3=>(O1 (r1.1.1,r1.1.2.1,r1.1.2.2.1,r1.1.2.2.2.1,r3)).bind fun r4=>bif (!r4)then some (0,25)else((gM (r1.1.1,r1.1.2.1,r1.1.2.2.1,r1.1.2.2.2.1,r3)).bind fun r5=>some (r5,0)))):=
 (aa cfg 212 _).trans (by kernel_rfl)
noncomputable def QB (a0:List D0) (a1:D9) (a2:bX) (a3:D8):Option (bX×Int):=ar cfg 150 [.v (.list Y0 a0),.agg [.str a1.1,.int .i64 a1.2.1,.list Y5 a1.2.2.1,.list (.pair .str .str) a1.2.2.2.1,.list Y6 a1.2.2.2.2.1,.list (.pair (.int .i64) .bool) a1.2.2.2.2.2],.agg [.list (.int .i64) a2.1,.list .str a2.2.1,.list (.int .i64) a2.2.2.1,.list .str a2.2.2.2],.agg [.int .i64 a3.1,.int .i64 a3.2.1,.int .i64 a3.2.2.1,.str a3.2.2.2.1,.int .i64 a3.2.2.2.2]]
theorem JF (a0:List D0) (a1:D9) (a2:bX) (a3:D8):QB a0 a1 a2 a3=(rV a0 a1 a2 a3.2.2.2.1).bind fun r1=>bif (!r1.2)then some (a2,23)else(bif (decide (a3.1≥(a1.2.2.1.length:Int)))then(bif (ao (IntKind.wrap .i64 (a3.1-(a1.2.2.1.length:Int))) (a2.2.2.2.length))then(bif (av (0+(a2.2.2.2.length)) 16)then(bif (decide (0≤0)&&decide (0≤(IntKind.wrap .i64 (8*a3.2.1)))&&decide ((IntKind.wrap .i64 (8*a3.2.1))≤((rd (τ:= .str) a2.2.2.2 (IntKind.wrap .i64 (a3.1-(a1.2.2.1.length:Int)))).size:Int)))then((wq (IntKind.wrap .i64 (r1.1+a3.2.2.2.2)) 8).bind fun r2=>bif (decide (((rd (τ:= .str) a2.2.2.2 (IntKind.wrap .i64 (a3.1-(a1.2.2.1.length:Int)))).extract (Int.toNat 0) (Int.toNat (IntKind.wrap .i64 (8*a3.2.1)))).size+r2.size≤9223372036854775807))then(bif (decide (0≤(IntKind.wrap .i64 ((IntKind.wrap .i64 (8*a3.2.1))+8)))&&decide ((IntKind.wrap .i64 ((IntKind.wrap .i64 (8*a3.2.1))+8))≤((rd (τ:= .str) a2.2.2.2 (IntKind.wrap .i64 (a3.1-(a1.2.2.1.length:Int)))).size:Int))&&decide (((rd (τ:= .str) a2.2.2.2 (IntKind.wrap .i64 (a3.1-(a1.2.2.1.length:Int)))).size:Int)≤((rd (τ:= .str) a2.2.2.2 (IntKind.wrap .i64 (a3.1-(a1.2.2.1.length:Int)))).size:Int)))then(bif (decide ((((rd (τ:= .str) a2.2.2.2 (IntKind.wrap .i64 (a3.1-(a1.2.2.1.length:Int)))).extract (Int.toNat 0) (Int.toNat (IntKind.wrap .i64 (8*a3.2.1))))++r2).size+((rd (τ:= .str) a2.2.2.2 (IntKind.wrap .i64 (a3.1-(a1.2.2.1.length:Int)))).extract (Int.toNat (IntKind.wrap .i64 ((IntKind.wrap .i64 (8*a3.2.1))+8))) (Int.toNat ((rd (τ:= .str) a2.2.2.2 (IntKind.wrap .i64 (a3.1-(a1.2.2.1.length:Int)))).size:Int))).size≤9223372036854775807))then(bif (ao (IntKind.wrap .i64 (a3.1-(a1.2.2.1.length:Int))) (a2.2.2.2.length))then(letB (a2.2.2.2.set (Int.toNat (IntKind.wrap .i64 (a3.1-(a1.2.2.1.length:Int)))) ((((rd (τ:= .str) a2.2.2.2 (IntKind.wrap .i64 (a3.1-(a1.2.2.1.length:Int)))).extract (Int.toNat 0) (Int.toNat (IntKind.wrap .i64 (8*a3.2.1))))++r2)++((rd (τ:= .str) a2.2.2.2 (IntKind.wrap .i64 (a3.1-(a1.2.2.1.length:Int)))).extract (Int.toNat (IntKind.wrap .i64 ((IntKind.wrap .i64 (8*a3.2.1))+8))) (Int.toNat ((rd (τ:= .str) a2.2.2.2 (IntKind.wrap .i64 (a3.1-(a1.2.2.1.length:Int)))).size:Int))))) fun r3=>some ((a2.1,a2.2.1,a2.2.2.1,r3),0))else none)else none)else none)else none)else none)else none)else none)else(bif (ao a3.1 (a2.2.1.length))then((wj (rd (τ:= .str) a2.2.1 a3.1) (IntKind.wrap .i64 (4*a3.2.1)) 4).bind fun r4=>bif (ao a3.1 (a2.1.length))then((QA r4 a3.2.2.1 (IntKind.wrap .i64 (r1.1+a3.2.2.2.2)) (IntKind.wrap .i64 ((rd (τ:=(.int .i64)) a2.1 a3.1)+(IntKind.wrap .i64 (4*a3.2.1))))).bind fun r5=>bif (!decide (r5.2=0))then some (a2,r5.2)else(bif (av (0+(a2.2.1.length)) 16)then(bif (decide (0≤0)&&decide (0≤(IntKind.wrap .i64 (4*a3.2.1)))&&decide ((IntKind.wrap .i64 (4*a3.2.1))≤((rd (τ:= .str) a2.2.1 a3.1).size:Int)))then((wq r5.1 4).bind fun r6=>bif (decide (((rd (τ:= .str) a2.2.1 a3.1).extract (Int.toNat 0) (Int.toNat (IntKind.wrap .i64 (4*a3.2.1)))).size+r6.size≤9223372036854775807))then(bif (decide (0≤(IntKind.wrap .i64 ((IntKind.wrap .i64 (4*a3.2.1))+4)))&&decide ((IntKind.wrap .i64 ((IntKind.wrap .i64 (4*a3.2.1))+4))≤((rd (τ:= .str) a2.2.1 a3.1).size:Int))&&decide (((rd (τ:= .str) a2.2.1 a3.1).size:Int)≤((rd (τ:= .str) a2.2.1 a3.1).size:Int)))then(bif (decide ((((rd (τ:= .str) a2.2.1 a3.1).extract (Int.toNat 0) (Int.toNat (IntKind.wrap .i64 (4*a3.2.1))))++r6).size+((rd (τ:= .str) a2.2.1 a3.1).extract (Int.toNat (IntKind.wrap .i64 ((IntKind.wrap .i64 (4*a3.2.1))+4))) (Int.toNat ((rd (τ:= .str) a2.2.1 a3.1).size:Int))).size≤9223372036854775807))then(bif (ao a3.1 (a2.2.1.length))then(letB (a2.2.1.set (Int.toNat a3.1) ((((rd (τ:= .str) a2.2.1 a3.1).extract (Int.toNat 0) (Int.toNat (IntKind.wrap .i64 (4*a3.2.1))))++r6)++((rd (τ:= .str) a2.2.1 a3.1).extract (Int.toNat (IntKind.wrap .i64 ((IntKind.wrap .i64 (4*a3.2.1))+4))) (Int.toNat ((rd (τ:= .str) a2.2.1 a3.1).size:Int))))) fun r7=>some ((a2.1,r7,a2.2.2),0))else none)else none)else none)else none)else none)else none))else none)else none)):=
 (aa cfg 150 _).trans (by kernel_rfl)
noncomputable def fX (a0:List D0) (a1 a2:Int×Int×Int) (a3:D9):Option Gy:=ar cfg 91 [.v (.list Y0 a0),.agg [.int .i64 a1.1,.int .i64 a1.2.1,.int .i64 a1.2.2],.agg [.int .i64 a2.1,.int .i64 a2.2.1,.int .i64 a2.2.2],.agg [.str a3.1,.int .i64 a3.2.1,.list Y5 a3.2.2.1,.list (.pair .str .str) a3.2.2.2.1,.list Y6 a3.2.2.2.2.1,.list (.pair (.int .i64) .bool) a3.2.2.2.2.2]]
noncomputable def fX.a (x0:List D0) (x7:D9) (x8:bX) (x9 x10:Int×Int×Int) (x13:bX) (x14 x15:Int×Int×Int) (x17:Int):Option Gy:=LA 91 Tryz.f91 [1,1,1,1,0,1,0] ⟨155,af [vL 0 Y0 x0,vP 7 959,vP 8 1087,vP 9 1215,vP 10 1343,vP 13 1727,vP 14 1855,vP 15 1983,vI 17 x17],ai [(959,.box [.str x7.1,.int .i64 x7.2.1,.list Y5 x7.2.2.1,.list (.pair .str .str) x7.2.2.2.1,.list Y6 x7.2.2.2.2.1,.list (.pair (.int .i64) .bool) x7.2.2.2.2.2]),(1056,.rows 3 (.int .i64) .no x8.1),(1057,.rows 9 .str .no x8.2.1),(1058,.rows 3 (.int .i64) .no x8.2.2.1),(1059,.rows 9 .str .no x8.2.2.2),(1087,.box [.own 1056,.own 1057,.own 1058,.own 1059]),(1215,.box [.int .i64 x9.1,.int .i64 x9.2.1,.int .i64 x9.2.2]),(1343,.box [.int .i64 x10.1,.int .i64 x10.2.1,.int .i64 x10.2.2]),(1727,.box [.list (.int .i64) x13.1,.list .str x13.2.1,.list (.int .i64) x13.2.2.1,.list .str x13.2.2.2]),(1855,.box [.int .i64 x14.1,.int .i64 x14.2.1,.int .i64 x14.2.2]),(1983,.box [.int .i64 x15.1,.int .i64 x15.2.1,.int .i64 x15.2.2])]⟩
noncomputable def fX.b (x0:List D0) (x7:D9) (x8:bX) (x9 x10:Int×Int×Int) (x13:bX) (x14 x15:Int×Int×Int) (x20:List Int) (x21:Int):Option Gy:=LA 91 Tryz.f91 [1,1,1,1,1,1,0,1,0] ⟨155,af [vL 0 Y0 x0,vP 7 959,vP 8 1087,vP 9 1215,vP 10 1343,vP 13 1727,vP 14 1855,vP 15 1983,(20,.v (.own 2592)),vI 21 x21],ai [(959,.box [.str x7.1,.int .i64 x7.2.1,.list Y5 x7.2.2.1,.list (.pair .str .str) x7.2.2.2.1,.list Y6 x7.2.2.2.2.1,.list (.pair (.int .i64) .bool) x7.2.2.2.2.2]),(1056,.rows 3 (.int .i64) .no x8.1),(1057,.rows 9 .str .no x8.2.1),(1058,.rows 3 (.int .i64) .no x8.2.2.1),(1059,.rows 9 .str .no x8.2.2.2),(1087,.box [.own 1056,.own 1057,.own 1058,.own 1059]),(1215,.box [.int .i64 x9.1,.int .i64 x9.2.1,.int .i64 x9.2.2]),(1343,.box [.int .i64 x10.1,.int .i64 x10.2.1,.int .i64 x10.2.2]),(1727,.box [.list (.int .i64) x13.1,.list .str x13.2.1,.list (.int .i64) x13.2.2.1,.list .str x13.2.2.2]),(1855,.box [.int .i64 x14.1,.int .i64 x14.2.1,.int .i64 x14.2.2]),(1983,.box [.int .i64 x15.1,.int .i64 x15.2.1,.int .i64 x15.2.2]),(2592,.rows 3 (.int .i64) .no x20)]⟩
noncomputable def fX.c (x7:D9) (x8:bX) (x9 x10:Int×Int×Int) (x13:bX) (x14 x15:Int×Int×Int) (x20:List Int) (x22:Int):Option Gy:=LA 91 Tryz.f91 [1,1,1,1,1,1,1,0,1,0] ⟨155,af [vP 7 959,vP 8 1087,vP 9 1215,vP 10 1343,vP 13 1727,vP 14 1855,vP 15 1983,(20,.v (.own 2592)),vI 22 x22],ai [(959,.box [.str x7.1,.int .i64 x7.2.1,.list Y5 x7.2.2.1,.list (.pair .str .str) x7.2.2.2.1,.list Y6 x7.2.2.2.2.1,.list (.pair (.int .i64) .bool) x7.2.2.2.2.2]),(1056,.rows 3 (.int .i64) .no x8.1),(1057,.rows 9 .str .no x8.2.1),(1058,.rows 3 (.int .i64) .no x8.2.2.1),(1059,.rows 9 .str .no x8.2.2.2),(1087,.box [.own 1056,.own 1057,.own 1058,.own 1059]),(1215,.box [.int .i64 x9.1,.int .i64 x9.2.1,.int .i64 x9.2.2]),(1343,.box [.int .i64 x10.1,.int .i64 x10.2.1,.int .i64 x10.2.2]),(1727,.box [.list (.int .i64) x13.1,.list .str x13.2.1,.list (.int .i64) x13.2.2.1,.list .str x13.2.2.2]),(1855,.box [.int .i64 x14.1,.int .i64 x14.2.1,.int .i64 x14.2.2]),(1983,.box [.int .i64 x15.1,.int .i64 x15.2.1,.int .i64 x15.2.2]),(2592,.rows 3 (.int .i64) .no x20)]⟩
noncomputable def fX.d (x7:D9) (x8:bX) (x9 x10:Int×Int×Int) (x13:bX) (x14 x15:Int×Int×Int) (x20:List Int) (x23:Int):Option Gy:=LA 91 Tryz.f91 [1,1,1,1,1,1,1,1,0,1,0] ⟨155,af [vP 7 959,vP 8 1087,vP 9 1215,vP 10 1343,vP 13 1727,vP 14 1855,vP 15 1983,(20,.v (.own 2592)),vI 23 x23],ai [(959,.box [.str x7.1,.int .i64 x7.2.1,.list Y5 x7.2.2.1,.list (.pair .str .str) x7.2.2.2.1,.list Y6 x7.2.2.2.2.1,.list (.pair (.int .i64) .bool) x7.2.2.2.2.2]),(1056,.rows 3 (.int .i64) .no x8.1),(1057,.rows 9 .str .no x8.2.1),(1058,.rows 3 (.int .i64) .no x8.2.2.1),(1059,.rows 9 .str .no x8.2.2.2),(1087,.box [.own 1056,.own 1057,.own 1058,.own 1059]),(1215,.box [.int .i64 x9.1,.int .i64 x9.2.1,.int .i64 x9.2.2]),(1343,.box [.int .i64 x10.1,.int .i64 x10.2.1,.int .i64 x10.2.2]),(1727,.box [.list (.int .i64) x13.1,.list .str x13.2.1,.list (.int .i64) x13.2.2.1,.list .str x13.2.2.2]),(1855,.box [.int .i64 x14.1,.int .i64 x14.2.1,.int .i64 x14.2.2]),(1983,.box [.int .i64 x15.1,.int .i64 x15.2.1,.int .i64 x15.2.2]),(2592,.rows 3 (.int .i64) .no x20)]⟩
theorem JG (a0:List D0) (a1 a2:Int×Int×Int) (a3:D9):fX a0 a1 a2 a3=(rU a0 a3).bind fun r1=>bif (!decide (r1=0))then some (([],[],[],[]),(0,0,0),(0,0,0),r1)else((pK a1 a2 a3).bind fun r2=>bif (!r2.2.2.2)then some (([],[],[],[]),(0,0,0),(0,0,0),7)else fX.a a0 a3 ([],[],[],[]) (0,0,0) (0,0,0) r2.1 r2.2.1 r2.2.2.1 0):=
 (aa cfg 91 _).trans (by kernel_rfl)
theorem fX.a_eq (x0:List D0) (x7:D9) (x8:bX) (x9 x10:Int×Int×Int) (x13:bX) (x14 x15:Int×Int×Int) (x17:Int):fX.a x0 x7 x8 x9 x10 x13 x14 x15 x17=bif (decide (x17< (x7.2.2.2.2.1.length:Int)))then(bif (ao x17 (x7.2.2.2.2.1.length))then((QB x0 x7 x13 (rd (τ:=Y6) x7.2.2.2.2.1 x17)).bind fun r3=>bif (!decide (r3.2=0))then some (([],[],[],[]),(0,0,0),(0,0,0),r3.2)else fX.a x0 x7 x8 x9 x10 r3.1 x14 x15 (IntKind.wrap .i64 (x17+1)))else none)else fX.b x0 x7 x8 x9 x10 x13 x14 x15 [] 0:=
 (ak cfg 91 _ _ _).trans (by kernel_rfl)
theorem fX.b_eq (x0:List D0) (x7:D9) (x8:bX) (x9 x10:Int×Int×Int) (x13:bX) (x14 x15:Int×Int×Int) (x20:List Int) (x21:Int):fX.b x0 x7 x8 x9 x10 x13 x14 x15 x20 x21=bif (decide (x21< (x0.length:Int)))then(bif (ao x21 (x0.length))then(bif (decide ((rd (τ:=Y0) x0 x21).2.1=1))then(bif (ao x21 (x0.length))then(bif (av ((x20.length)+([(rd (τ:=Y0) x0 x21).2.2.1].length)) 8)then fX.b x0 x7 x8 x9 x10 x13 x14 x15 (x20++[(rd (τ:=Y0) x0 x21).2.2.1]) (IntKind.wrap .i64 (x21+1))else none)else none)else fX.b x0 x7 x8 x9 x10 x13 x14 x15 x20 (IntKind.wrap .i64 (x21+1)))else none)else fX.c x7 x8 x9 x10 x13 x14 x15 x20 0:=
 (ak cfg 91 _ _ _).trans (by kernel_rfl)
theorem fX.c_eq (x7:D9) (x8:bX) (x9 x10:Int×Int×Int) (x13:bX) (x14 x15:Int×Int×Int) (x20:List Int) (x22:Int):fX.c x7 x8 x9 x10 x13 x14 x15 x20 x22=bif (decide (x22< (x7.2.2.1.length:Int)))then(bif (ao x22 (x7.2.2.1.length))then(bif (!(rd (τ:=Y5) x7.2.2.1 x22).2.1)then(bif (ao x22 (x13.1.length))then(bif (av ((x20.length)+([(rd (τ:=(.int .i64)) x13.1 x22)].length)) 8)then fX.c x7 x8 x9 x10 x13 x14 x15 (x20++[(rd (τ:=(.int .i64)) x13.1 x22)]) (IntKind.wrap .i64 (x22+1))else none)else none)else fX.c x7 x8 x9 x10 x13 x14 x15 x20 (IntKind.wrap .i64 (x22+1)))else none)else fX.d x7 x8 x9 x10 x13 x14 x15 x20 0:=
 (ak cfg 91 _ _ _).trans (by kernel_rfl)
theorem fX.d_eq (x7:D9) (x8:bX) (x9 x10:Int×Int×Int) (x13:bX) (x14 x15:Int×Int×Int) (x20:List Int) (x23:Int):fX.d x7 x8 x9 x10 x13 x14 x15 x20 x23=bif (decide (x23< (x7.2.2.1.length:Int)))then(bif (ao x23 (x13.2.1.length))then(bif (ao x23 (x13.1.length))then(bif (ao x23 (x7.2.2.1.length))then((qj (rd (τ:= .str) x13.2.1 x23) (rd (τ:=(.int .i64)) x13.1 x23) ((rd (τ:=Y5) x7.2.2.1 x23).2.2.1) x20).bind fun r4=>bif (!decide (r4.2=0))then some (([],[],[],[]),(0,0,0),(0,0,0),r4.2)else fX.d x7 x8 x9 x10 x13 x14 x15 x20 (IntKind.wrap .i64 (x23+1)))else none)else none)else none)else some (x13,x14,x15,0):=
 (ak cfg 91 _ _ _).trans (by kernel_rfl)
noncomputable def CB (a0 a1:List Int):Option Bool:=ar cfg 151 [.v (.list (.int .i64) a0),.v (.list (.int .i64) a1)]
noncomputable def CB.a (x0 x1:List Int) (x5:Int):Option Bool:=LA 151 Tryz.f151 [1,1,0,1,0] ⟨26,af [vL 0 (.int .i64) x0,vL 1 (.int .i64) x1,vI 5 x5],ai []⟩
theorem JH (a0 a1:List Int):CB a0 a1=bif (!decide ((a0.length:Int)=(a1.length:Int)))then some false else CB.a a0 a1 0:=
 (aa cfg 151 _).trans (by kernel_rfl)
theorem CB.a_eq (x0 x1:List Int) (x5:Int):CB.a x0 x1 x5=bif (decide (x5< (x0.length:Int)))then(bif (ao x5 (x0.length))then(bif (ao x5 (x1.length))then(bif (!decide ((rd (τ:=(.int .i64)) x0 x5)=(rd (τ:=(.int .i64)) x1 x5)))then some false else CB.a x0 x1 (IntKind.wrap .i64 (x5+1)))else none)else none)else some true:=
 (ak cfg 151 _ _ _).trans (by kernel_rfl)
noncomputable def CC (a0 a1:List ByteArray):Option Bool:=ar cfg 152 [.v (.list .str a0),.v (.list .str a1)]
noncomputable def CC.a (x0 x1:List ByteArray) (x5:Int):Option Bool:=LA 152 Tryz.f152 [1,1,0,1,0] ⟨26,af [vL 0 .str x0,vL 1 .str x1,vI 5 x5],ai []⟩
theorem JI (a0 a1:List ByteArray):CC a0 a1=bif (!decide ((a0.length:Int)=(a1.length:Int)))then some false else CC.a a0 a1 0:=
 (aa cfg 152 _).trans (by kernel_rfl)
theorem CC.a_eq (x0 x1:List ByteArray) (x5:Int):CC.a x0 x1 x5=bif (decide (x5< (x0.length:Int)))then(bif (ao x5 (x0.length))then(bif (ao x5 (x1.length))then(bif (!bu (rd (τ:= .str) x0 x5) (rd (τ:= .str) x1 x5))then some false else CC.a x0 x1 (IntKind.wrap .i64 (x5+1)))else none)else none)else some true:=
 (ak cfg 152 _ _ _).trans (by kernel_rfl)
noncomputable def QC (a0 a1:bX):Option Bool:=ar cfg 92 [.agg [.list (.int .i64) a0.1,.list .str a0.2.1,.list (.int .i64) a0.2.2.1,.list .str a0.2.2.2],.agg [.list (.int .i64) a1.1,.list .str a1.2.1,.list (.int .i64) a1.2.2.1,.list .str a1.2.2.2]]
theorem JJ (a0 a1:bX):QC a0 a1=(CB a0.1 a1.1).bind fun r1=>bif r1 then((CC a0.2.1 a1.2.1).bind fun r2=>bif r2 then((CB a0.2.2.1 a1.2.2.1).bind fun r3=>bif r3 then((CC a0.2.2.2 a1.2.2.2).bind fun r4=>some r4)else some false)else some false)else some false:=
 (aa cfg 92 _).trans (by kernel_rfl)
noncomputable def qk (a0:List D0) (a1:D9) (a2:bX) (a3:Int):Option (List D0):=ar cfg 153 [.v (.list Y0 a0),.agg [.str a1.1,.int .i64 a1.2.1,.list Y5 a1.2.2.1,.list (.pair .str .str) a1.2.2.2.1,.list Y6 a1.2.2.2.2.1,.list (.pair (.int .i64) .bool) a1.2.2.2.2.2],.agg [.list (.int .i64) a2.1,.list .str a2.2.1,.list (.int .i64) a2.2.2.1,.list .str a2.2.2.2],.v (.int .i64 a3)]
noncomputable def qk.a (x3:Int) (x5:D9) (x6:bX) (x9:List D0) (x10:Int):Option (List D0):=LA 153 Tryz.f153 [1,1,0,1,0] ⟨81,af [vI 3 x3,vP 5 703,vP 6 831,(9,.v (.own 1184)),vI 10 x10],ai [(703,.box [.str x5.1,.int .i64 x5.2.1,.list Y5 x5.2.2.1,.list (.pair .str .str) x5.2.2.2.1,.list Y6 x5.2.2.2.2.1,.list (.pair (.int .i64) .bool) x5.2.2.2.2.2]),(831,.box [.list (.int .i64) x6.1,.list .str x6.2.1,.list (.int .i64) x6.2.2.1,.list .str x6.2.2.2]),(1184,.rows 116 Y0 .no x9)]⟩
noncomputable def qk.b (x3:Int) (x5:D9) (x6:bX) (x9:List D0) (x12:Int):Option (List D0):=LA 153 Tryz.f153 [1,1,1,0,1,0] ⟨81,af [vI 3 x3,vP 5 703,vP 6 831,(9,.v (.own 1184)),vI 12 x12],ai [(703,.box [.str x5.1,.int .i64 x5.2.1,.list Y5 x5.2.2.1,.list (.pair .str .str) x5.2.2.2.1,.list Y6 x5.2.2.2.2.1,.list (.pair (.int .i64) .bool) x5.2.2.2.2.2]),(831,.box [.list (.int .i64) x6.1,.list .str x6.2.1,.list (.int .i64) x6.2.2.1,.list .str x6.2.2.2]),(1184,.rows 116 Y0 .no x9)]⟩
theorem JK (a0:List D0) (a1:D9) (a2:bX) (a3:Int):qk a0 a1 a2 a3=bif (av (0+(a0.length)) 56)then qk.a a3 a1 a2 a0 0 else none:=
 (aa cfg 153 _).trans (by kernel_rfl)
theorem qk.a_eq (x3:Int) (x5:D9) (x6:bX) (x9:List D0) (x10:Int):qk.a x3 x5 x6 x9 x10=bif (decide (x10< (x5.2.2.1.length:Int)))then(bif (ao x10 (x5.2.2.1.length))then(bif (!(rd (τ:=Y5) x5.2.2.1 x10).2.1)then(bif (ao x10 (x6.1.length))then(bif (ao x10 (x6.2.1.length))then(bif (av ((x9.length)+([((rd (τ:=Y5) x5.2.2.1 x10).1,1,(rd (τ:=(.int .i64)) x6.1 x10),((rd (τ:= .str) x6.2.1 x10).size:Int),(rd (τ:=Y5) x5.2.2.1 x10).2.2.1,x3)].length)) 56)then qk.a x3 x5 x6 (x9++[((rd (τ:=Y5) x5.2.2.1 x10).1,1,(rd (τ:=(.int .i64)) x6.1 x10),((rd (τ:= .str) x6.2.1 x10).size:Int),(rd (τ:=Y5) x5.2.2.1 x10).2.2.1,x3)]) (IntKind.wrap .i64 (x10+1))else none)else none)else none)else qk.a x3 x5 x6 x9 (IntKind.wrap .i64 (x10+1)))else none)else qk.b x3 x5 x6 x9 0:=
 (ak cfg 153 _ _ _).trans (by kernel_rfl)
theorem qk.b_eq (x3:Int) (x5:D9) (x6:bX) (x9:List D0) (x12:Int):qk.b x3 x5 x6 x9 x12=bif (decide (x12< (x5.2.2.2.1.length:Int)))then(bif (ao x12 (x5.2.2.2.1.length))then(bif (ao x12 (x6.2.2.1.length))then(bif (ao x12 (x6.2.2.2.length))then(bif (av ((x9.length)+([((rd (τ:=(.pair .str .str)) x5.2.2.2.1 x12).1,2,(rd (τ:=(.int .i64)) x6.2.2.1 x12),((rd (τ:= .str) x6.2.2.2 x12).size:Int),0,x3)].length)) 56)then qk.b x3 x5 x6 (x9++[((rd (τ:=(.pair .str .str)) x5.2.2.2.1 x12).1,2,(rd (τ:=(.int .i64)) x6.2.2.1 x12),((rd (τ:= .str) x6.2.2.2 x12).size:Int),0,x3)]) (IntKind.wrap .i64 (x12+1))else none)else none)else none)else none)else some x9:=
 (ak cfg 153 _ _ _).trans (by kernel_rfl)
noncomputable def zf (a0:List D1) (a1 a2:Int):Option ByteArray:=ar cfg 214 [.agg [.list Y3 a0],.v (.int .i64 a1),.v (.int .i64 a2)]
noncomputable def zf.a (x1 x2:Int) (x3:List D1) (x7:List Int) (x8:Int):Option ByteArray:=LA 214 Tryz.f214 [1,1,0,1,0] ⟨39,af [vI 1 x1,vI 2 x2,vP 3 447,(7,.v (.own 928)),vI 8 x8],ai [(447,.box [.list Y3 x3]),(928,.rows 5 (.int .u8) .no x7)]⟩
theorem JL (a0:List D1) (a1 a2:Int):zf a0 a1 a2=zf.a a1 a2 a0 [] 0:=
 (aa cfg 214 _).trans (by kernel_rfl)
theorem zf.a_eq (x1 x2:Int) (x3:List D1) (x7:List Int) (x8:Int):zf.a x1 x2 x3 x7 x8=bif (decide (x8<x2))then((zd x3 (IntKind.wrap .i64 (x1+x8))).bind fun r1=>bif (ao r1 (x3.length))then(bif (ao (IntKind.wrap .i64 ((IntKind.wrap .i64 (x1+x8))-(rd (τ:=Y3) x3 r1).1)) ((rd (τ:=Y3) x3 r1).2.2).size)then(bif (av ((x7.length)+([(bt ((rd (τ:=Y3) x3 r1).2.2) (IntKind.wrap .i64 ((IntKind.wrap .i64 (x1+x8))-(rd (τ:=Y3) x3 r1).1)))].length)) 1)then zf.a x1 x2 x3 (x7++[(bt ((rd (τ:=Y3) x3 r1).2.2) (IntKind.wrap .i64 ((IntKind.wrap .i64 (x1+x8))-(rd (τ:=Y3) x3 r1).1)))]) (IntKind.wrap .i64 (x8+1))else none)else none)else none)else some (aI x7):=
 (ak cfg 214 _ _ _).trans (by kernel_rfl)
noncomputable def Ra (a0 a1:Int):Option bQ:=ar cfg 216 [.v (.int .i64 a0),.v (.int .i64 a1)]
theorem JM (a0 a1:Int):Ra a0 a1=some (3,0,0,0,(IntKind.wrap .i64 (a1-a0))):=
 (aa cfg 216 _).trans (by kernel_rfl)
noncomputable def ql (a0:List D1) (a1:List D0) (a2:D9) (a3:bX):Option NS:=ar cfg 154 [.agg [.list Y3 a0],.v (.list Y0 a1),.agg [.str a2.1,.int .i64 a2.2.1,.list Y5 a2.2.2.1,.list (.pair .str .str) a2.2.2.2.1,.list Y6 a2.2.2.2.2.1,.list (.pair (.int .i64) .bool) a2.2.2.2.2.2],.agg [.list (.int .i64) a3.1,.list .str a3.2.1,.list (.int .i64) a3.2.2.1,.list .str a3.2.2.2]]
noncomputable def ql.a (x1:List D0) (x4:List D1) (x6:D9) (x7:bX) (x8:List D1) (x10:Int):Option NS:=LA 154 Tryz.f154 [1,0,1,0] ⟨83,af [vL 1 Y0 x1,vP 4 575,vP 6 831,vP 7 959,vP 8 1087,vI 10 x10],ai [(575,.box [.list Y3 x4]),(831,.box [.str x6.1,.int .i64 x6.2.1,.list Y5 x6.2.2.1,.list (.pair .str .str) x6.2.2.2.1,.list Y6 x6.2.2.2.2.1,.list (.pair (.int .i64) .bool) x6.2.2.2.2.2]),(959,.box [.list (.int .i64) x7.1,.list .str x7.2.1,.list (.int .i64) x7.2.2.1,.list .str x7.2.2.2]),(1056,.rows 185 Y3 .no x8),(1087,.box [.own 1056])]⟩
noncomputable def ql.b (x1:List D0) (x4:List D1) (x6:D9) (x7:bX) (x8:List D1) (x11:List (Int×Int)) (x12:Int):Option NS:=LA 154 Tryz.f154 [1,1,1,0,1,0] ⟨83,af [vL 1 Y0 x1,vP 4 575,vP 6 831,vP 7 959,vP 8 1087,(11,.v (.own 1440)),vI 12 x12],ai [(575,.box [.list Y3 x4]),(831,.box [.str x6.1,.int .i64 x6.2.1,.list Y5 x6.2.2.1,.list (.pair .str .str) x6.2.2.2.1,.list Y6 x6.2.2.2.2.1,.list (.pair (.int .i64) .bool) x6.2.2.2.2.2]),(959,.box [.list (.int .i64) x7.1,.list .str x7.2.1,.list (.int .i64) x7.2.2.1,.list .str x7.2.2.2]),(1056,.rows 185 Y3 .no x8),(1087,.box [.own 1056]),(1440,.rows 202 Y9 .no x11)]⟩
theorem JN (a0:List D1) (a1:List D0) (a2:D9) (a3:bX):ql a0 a1 a2 a3=ql.a a1 a0 a2 a3 [] 0:=
 (aa cfg 154 _).trans (by kernel_rfl)
theorem ql.a_eq (x1:List D0) (x4:List D1) (x6:D9) (x7:bX) (x8:List D1) (x10:Int):ql.a x1 x4 x6 x7 x8 x10=bif (decide (x10< (x6.2.2.1.length:Int)))then(bif (ao x10 (x7.1.length))then(bif (ao x10 (x7.2.1.length))then((wo x4 (rd (τ:=(.int .i64)) x7.1 x10) (rd (τ:= .str) x7.2.1 x10)).bind fun r1=>ql.a x1 r1 x6 x7 x8 (IntKind.wrap .i64 (x10+1)))else none)else none)else ql.b x1 x4 x6 x7 x8 [] 0:=
 (ak cfg 154 _ _ _).trans (by kernel_rfl)
theorem ql.b_eq (x1:List D0) (x4:List D1) (x6:D9) (x7:bX) (x8:List D1) (x11:List (Int×Int)) (x12:Int):ql.b x1 x4 x6 x7 x8 x11 x12=bif (decide (x12< (x6.2.2.1.length:Int)))then(bif (ao x12 (x6.2.2.1.length))then(bif (!(rd (τ:=Y5) x6.2.2.1 x12).2.1)then ql.b x1 x4 x6 x7 x8 x11 (IntKind.wrap .i64 (x12+1))else(bif (ao x12 (x6.2.2.1.length))then((wn x1 ((rd (τ:=Y5) x6.2.2.1 x12).1)).bind fun r2=>bif (ao r2 (x1.length))then((zf x4 ((rd (τ:=Y0) x1 r2).2.2.1) 4).bind fun r3=>(wj r3 0 4).bind fun r4=>bif (av ((x11.length)+([((rd (τ:=Y0) x1 r2).2.2.1,r4)].length)) 16)then(bif (ao x12 (x7.1.length))then((Ra ((rd (τ:=Y0) x1 r2).2.2.1) (rd (τ:=(.int .i64)) x7.1 x12)).bind fun r5=>(gM r5).bind fun r6=>(wq r6 4).bind fun r7=>(wo x4 ((rd (τ:=Y0) x1 r2).2.2.1) r7).bind fun r8=>ql.b x1 r8 x6 x7 x8 (x11++[((rd (τ:=Y0) x1 r2).2.2.1,r4)]) (IntKind.wrap .i64 (x12+1)))else none)else none)else none)else none))else none)else some (x4,x11):=
 (ak cfg 154 _ _ _).trans (by kernel_rfl)
noncomputable def Bp (a0:tI) (a1:D9) (a2:bX) (a3 a4:Int×Int×Int) (a5:Int):Option Rt:=ar cfg 93 [.agg [.list Y0 a0.1,.int .i64 a0.2.1.1,.int .i64 a0.2.1.2.1,.int .i64 a0.2.1.2.2,.int .i64 a0.2.2.1.1,.int .i64 a0.2.2.1.2.1,.int .i64 a0.2.2.1.2.2,.list aL a0.2.2.2.1,.list Y3 a0.2.2.2.2],.agg [.str a1.1,.int .i64 a1.2.1,.list Y5 a1.2.2.1,.list (.pair .str .str) a1.2.2.2.1,.list Y6 a1.2.2.2.2.1,.list (.pair (.int .i64) .bool) a1.2.2.2.2.2],.agg [.list (.int .i64) a2.1,.list .str a2.2.1,.list (.int .i64) a2.2.2.1,.list .str a2.2.2.2],.agg [.int .i64 a3.1,.int .i64 a3.2.1,.int .i64 a3.2.2],.agg [.int .i64 a4.1,.int .i64 a4.2.1,.int .i64 a4.2.2],.v (.int .i64 a5)]
noncomputable def Bp.a (x5:Int) (x6:tI) (x7:D9) (x8:bX) (x9 x10:Int×Int×Int) (x12:tI) (x14:List D0) (x15:List bQ) (x16:Int):Option Rt:=LA 93 Tryz.f93 [1,1,1,0,1,0] ⟨84,af [vI 5 x5,vP 6 831,vP 7 959,vP 8 1087,vP 9 1215,vP 10 1343,vP 12 1599,(14,.v (.own 1824)),(15,.v (.own 1952)),vI 16 x16],ai [(831,.box [.list Y0 x6.1,.int .i64 x6.2.1.1,.int .i64 x6.2.1.2.1,.int .i64 x6.2.1.2.2,.int .i64 x6.2.2.1.1,.int .i64 x6.2.2.1.2.1,.int .i64 x6.2.2.1.2.2,.list aL x6.2.2.2.1,.list Y3 x6.2.2.2.2]),(959,.box [.str x7.1,.int .i64 x7.2.1,.list Y5 x7.2.2.1,.list (.pair .str .str) x7.2.2.2.1,.list Y6 x7.2.2.2.2.1,.list (.pair (.int .i64) .bool) x7.2.2.2.2.2]),(1087,.box [.list (.int .i64) x8.1,.list .str x8.2.1,.list (.int .i64) x8.2.2.1,.list .str x8.2.2.2]),(1215,.box [.int .i64 x9.1,.int .i64 x9.2.1,.int .i64 x9.2.2]),(1343,.box [.int .i64 x10.1,.int .i64 x10.2.1,.int .i64 x10.2.2]),(1568,.rows 116 Y0 .no x12.1),(1569,.rows 91 aL .no x12.2.2.2.1),(1570,.rows 185 Y3 .no x12.2.2.2.2),(1599,.box [.own 1568,.int .i64 x12.2.1.1,.int .i64 x12.2.1.2.1,.int .i64 x12.2.1.2.2,.int .i64 x12.2.2.1.1,.int .i64 x12.2.2.1.2.1,.int .i64 x12.2.2.1.2.2,.own 1569,.own 1570]),(1824,.rows 116 Y0 .no x14),(1952,.rows 91 aL .no x15)]⟩
theorem JO (a0:tI) (a1:D9) (a2:bX) (a3 a4:Int×Int×Int) (a5:Int):Bp a0 a1 a2 a3 a4 a5=(qk a0.1 a1 a2 a5).bind fun r1=>bif (av (0+(a0.2.2.2.1.length)) 40)then Bp.a a5 a0 a1 a2 a3 a4 ([],(0,0,0),(0,0,0),[],[]) r1 a0.2.2.2.1 0 else none:=
 (aa cfg 93 _).trans (by kernel_rfl)
theorem Bp.a_eq (x5:Int) (x6:tI) (x7:D9) (x8:bX) (x9 x10:Int×Int×Int) (x12:tI) (x14:List D0) (x15:List bQ) (x16:Int):Bp.a x5 x6 x7 x8 x9 x10 x12 x14 x15 x16=bif (decide (x16< (x7.2.2.1.length:Int)))then(bif (ao x16 (x7.2.2.1.length))then((wn x14 ((rd (τ:=Y5) x7.2.2.1 x16).1)).bind fun r3=>bif (ao x16 (x8.1.length))then(bif (ao x16 (x8.2.1.length))then(bif (ao x16 (x7.2.2.1.length))then(bif (av ((x15.length)+([(r3,x5,(rd (τ:=(.int .i64)) x8.1 x16),((rd (τ:= .str) x8.2.1 x16).size:Int),(rd (τ:=Y5) x7.2.2.1 x16).2.2.1)].length)) 40)then Bp.a x5 x6 x7 x8 x9 x10 x12 x14 (x15++[(r3,x5,(rd (τ:=(.int .i64)) x8.1 x16),((rd (τ:= .str) x8.2.1 x16).size:Int),(rd (τ:=Y5) x7.2.2.1 x16).2.2.1)]) (IntKind.wrap .i64 (x16+1))else none)else none)else none)else none)else none)else((ql x6.2.2.2.2 x14 x7 x8).bind fun r2=>some ((x14,x9,x10,x15,r2.1),r2.2)):=
 (ak cfg 93 _ _ _).trans (by kernel_rfl)
noncomputable def Fa (a0 a1:List (Int×Int)):Option Bool:=ar cfg 94 [.v (.list Y9 a0),.v (.list Y9 a1)]
noncomputable def Fa.a (x0 x1:List (Int×Int)) (x5:Int):Option Bool:=LA 94 Tryz.f94 [1,1,0,1,0] ⟨26,af [vL 0 Y9 x0,vL 1 Y9 x1,vI 5 x5],ai []⟩
theorem JP (a0 a1:List (Int×Int)):Fa a0 a1=bif (!decide ((a0.length:Int)=(a1.length:Int)))then some false else Fa.a a0 a1 0:=
 (aa cfg 94 _).trans (by kernel_rfl)
theorem Fa.a_eq (x0 x1:List (Int×Int)) (x5:Int):Fa.a x0 x1 x5=bif (decide (x5< (x0.length:Int)))then(bif (ao x5 (x0.length))then(bif (ao x5 (x1.length))then(bif (!(jQ Y9 (rd (τ:=Y9) x0 x5) (rd (τ:=Y9) x1 x5)))then some false else Fa.a x0 x1 (IntKind.wrap .i64 (x5+1)))else none)else none)else some true:=
 (ak cfg 94 _ _ _).trans (by kernel_rfl)
noncomputable def zg (a0:D3) (a1:List ef) (a2:Bool):Option (tI×Bool):=ar cfg 44 [.agg [.str a0.1,.str a0.2.1,.list Y4 a0.2.2],.v (.list bJ a1),.v (.bool a2)]
noncomputable def zg.a (x1:List ef) (x2:Bool) (x6 x8:tI) (x9:Int):Option (tI×Bool):=LA 44 Tryz.f44 [1,1,1,0,1,0] ⟨111,af [vL 1 bJ x1,(2,.v (.bool x2)),vP 6 831,vP 8 1087,vI 9 x9],ai [(800,.rows 116 Y0 .no x6.1),(801,.rows 91 aL .no x6.2.2.2.1),(802,.rows 185 Y3 .no x6.2.2.2.2),(831,.box [.own 800,.int .i64 x6.2.1.1,.int .i64 x6.2.1.2.1,.int .i64 x6.2.1.2.2,.int .i64 x6.2.2.1.1,.int .i64 x6.2.2.1.2.1,.int .i64 x6.2.2.1.2.2,.own 801,.own 802]),(1056,.rows 91 aL .no x8.2.2.2.1),(1087,.box [.list Y0 x8.1,.int .i64 x8.2.1.1,.int .i64 x8.2.1.2.1,.int .i64 x8.2.1.2.2,.int .i64 x8.2.2.1.1,.int .i64 x8.2.2.1.2.1,.int .i64 x8.2.2.1.2.2,.own 1056,.list Y3 x8.2.2.2.2])]⟩
theorem JQ (a0:D3) (a1:List ef) (a2:Bool):zg a0 a1 a2=(Qu a0).bind fun r1=>bif (decide ((a1.length:Int)>6))then some (r1,false)else zg.a a1 a2 ([],(0,0,0),(0,0,0),[],[]) r1 0:=
 (aa cfg 44 _).trans (by kernel_rfl)
theorem zg.a_eq (x1:List ef) (x2:Bool) (x6 x8:tI) (x9:Int):zg.a x1 x2 x6 x8 x9=bif (decide (x9< (x1.length:Int)))then(bif (ao x9 (x1.length))then(ax (fun kr19=>(Qx ((rd (τ:=bJ) x1 x9).1)).bind fun r2=>bif (!r2)then kr19 true else(bif (!decide ((rd (τ:=bJ) x1 x9).1.2.1=x9))then kr19 true else(bif (decide (0≤0)&&decide (0≤x9)&&decide (x9≤(x1.length:Int)))then((iX ((x1.take (Int.toNat x9)).drop (Int.toNat 0)) ((rd (τ:=bJ) x1 x9).1)).bind fun r3=>kr19 (!decide (r3=0)))else none))) fun(r7:Bool)=>bif r7 then some (x8,false)else((fX x8.1 x8.2.1 x8.2.2.1 ((rd (τ:=bJ) x1 x9).1)).bind fun r8=>ax (fun kr18=>bif (!decide (r8.2.2.2=0))then kr18 true else((QC r8.1 ((rd (τ:=bJ) x1 x9).2.1)).bind fun r9=>kr18 (!r9))) fun(r11:Bool)=>bif r11 then some (x8,false)else((Bp x8 ((rd (τ:=bJ) x1 x9).1) r8.1 r8.2.1 r8.2.2.1 (IntKind.wrap .i64 (x9+1))).bind fun r12=>bif x2 then((Fa r12.2 ((rd (τ:=bJ) x1 x9).2.2)).bind fun r13=>bif (!r13)then some (x8,false)else(bif (!x2)then(bif (decide ((((rd (τ:=bJ) x1 x9).2.2).length:Int)>0))then some (x8,false)else zg.a x1 x2 x6 r12.1 (IntKind.wrap .i64 (x9+1)))else zg.a x1 x2 x6 r12.1 (IntKind.wrap .i64 (x9+1))))else(bif (!x2)then(bif (decide ((((rd (τ:=bJ) x1 x9).2.2).length:Int)>0))then some (x8,false)else zg.a x1 x2 x6 r12.1 (IntKind.wrap .i64 (x9+1)))else zg.a x1 x2 x6 r12.1 (IntKind.wrap .i64 (x9+1))))))else none)else some (x8,true):=
 (ak cfg 44 _ _ _).trans (by kernel_rfl)
noncomputable def Fb (a0 a1:List D0):Option Bool:=ar cfg 45 [.v (.list Y0 a0),.v (.list Y0 a1)]
noncomputable def Fb.a (x0 x1:List D0) (x5:Int):Option Bool:=LA 45 Tryz.f45 [1,1,0,1,0] ⟨26,af [vL 0 Y0 x0,vL 1 Y0 x1,vI 5 x5],ai []⟩
theorem JR (a0 a1:List D0):Fb a0 a1=bif (!decide ((a0.length:Int)=(a1.length:Int)))then some false else Fb.a a0 a1 0:=
 (aa cfg 45 _).trans (by kernel_rfl)
theorem Fb.a_eq (x0 x1:List D0) (x5:Int):Fb.a x0 x1 x5=bif (decide (x5< (x0.length:Int)))then(bif (ao x5 (x0.length))then(bif (ao x5 (x1.length))then(bif (!(jQ Y0 (rd (τ:=Y0) x0 x5) (rd (τ:=Y0) x1 x5)))then some false else Fb.a x0 x1 (IntKind.wrap .i64 (x5+1)))else none)else none)else some true:=
 (ak cfg 45 _ _ _).trans (by kernel_rfl)
noncomputable def CD (a0 a1:List D1):Option Bool:=ar cfg 46 [.agg [.list Y3 a0],.agg [.list Y3 a1]]
noncomputable def CD.a (x2 x3:List D1) (x5:Int):Option Bool:=LA 46 Tryz.f46 [1,1,0,1,0] ⟨56,af [vP 2 319,vP 3 447,vI 5 x5],ai [(319,.box [.list Y3 x2]),(447,.box [.list Y3 x3])]⟩
theorem JS (a0 a1:List D1):CD a0 a1=bif (!decide ((a0.length:Int)=(a1.length:Int)))then some false else CD.a a0 a1 0:=
 (aa cfg 46 _).trans (by kernel_rfl)
theorem CD.a_eq (x2 x3:List D1) (x5:Int):CD.a x2 x3 x5=bif (decide (x5< (x2.length:Int)))then(bif (ao x5 (x2.length))then(bif (ao x5 (x3.length))then(bif (!decide ((rd (τ:=Y3) x2 x5).1=(rd (τ:=Y3) x3 x5).1))then some false else(bif (!decide ((rd (τ:=Y3) x2 x5).2.1=(rd (τ:=Y3) x3 x5).2.1))then some false else(bif (decide ((rd (τ:=Y3) x2 x5).2.1=4))then(bif (!bu ((rd (τ:=Y3) x2 x5).2.2) ((rd (τ:=Y3) x3 x5).2.2))then some false else CD.a x2 x3 (IntKind.wrap .i64 (x5+1)))else CD.a x2 x3 (IntKind.wrap .i64 (x5+1)))))else none)else none)else some true:=
 (ak cfg 46 _ _ _).trans (by kernel_rfl)
noncomputable def OJ (a0:nK):Option (tI×Bool):=ar cfg 22 [.agg [.str a0.1.1,.str a0.1.2.1,.list Y4 a0.1.2.2,.list Y3 a0.2.1.1,.list Y2 a0.2.1.2.1,.list Y0 a0.2.1.2.2.1,.list aW a0.2.1.2.2.2,.list bJ a0.2.2]]
theorem JT (a0:nK):OJ a0=ax (fun kr12=>(Qk a0.1).bind fun r1=>bif (!r1)then kr12 true else((E9 a0.2.1).bind fun r2=>kr12 (!r2))) fun(r4:Bool)=>bif r4 then some (([],(0,0,0),(0,0,0),[],[]),false)else((zg a0.1 a0.2.2 true).bind fun r5=>bif r5.2 then((Fb a0.2.1.2.2.1 r5.1.1).bind fun r6=>bif r6 then((CD a0.2.1.1 r5.1.2.2.2.2).bind fun r7=>some (r5.1,r7))else some (r5.1,false))else some (r5.1,false)):=
 (aa cfg 22 _).trans (by kernel_rfl)
noncomputable def CE (a0:tI) (a1:Int):Option Int:=ar cfg 23 [.agg [.list Y0 a0.1,.int .i64 a0.2.1.1,.int .i64 a0.2.1.2.1,.int .i64 a0.2.1.2.2,.int .i64 a0.2.2.1.1,.int .i64 a0.2.2.1.2.1,.int .i64 a0.2.2.1.2.2,.list aL a0.2.2.2.1,.list Y3 a0.2.2.2.2],.v (.int .i64 a1)]
noncomputable def CE.a (x1:Int) (x2:tI) (x5 x6:Int):Option Int:=LA 23 Tryz.f23 [1,1,0,1,0] ⟨35,af [vI 1 x1,vP 2 319,vI 5 x5,vI 6 x6],ai [(319,.box [.list Y0 x2.1,.int .i64 x2.2.1.1,.int .i64 x2.2.1.2.1,.int .i64 x2.2.1.2.2,.int .i64 x2.2.2.1.1,.int .i64 x2.2.2.1.2.1,.int .i64 x2.2.2.1.2.2,.list aL x2.2.2.2.1,.list Y3 x2.2.2.2.2])]⟩
theorem JU (a0:tI) (a1:Int):CE a0 a1=bif (ao a1 (a0.1.length))then CE.a a1 a0 ((rd (τ:=Y0) a0.1 a1).2.2.2.2.2) 0 else none:=
 (aa cfg 23 _).trans (by kernel_rfl)
theorem CE.a_eq (x1:Int) (x2:tI) (x5 x6:Int):CE.a x1 x2 x5 x6=bif (decide (x6< (x2.2.2.2.1.length:Int)))then(bif (ao x6 (x2.2.2.2.1.length))then(bif (decide ((rd (τ:=aL) x2.2.2.2.1 x6).1=x1))then(bif (ao x6 (x2.2.2.2.1.length))then CE.a x1 x2 ((rd (τ:=aL) x2.2.2.2.1 x6).2.1) (IntKind.wrap .i64 (x6+1))else none)else CE.a x1 x2 x5 (IntKind.wrap .i64 (x6+1)))else none)else some x5:=
 (ak cfg 23 _ _ _).trans (by kernel_rfl)
noncomputable def CF (a0:nK):Option (List Int×Int):=ar cfg 6 [.agg [.str a0.1.1,.str a0.1.2.1,.list Y4 a0.1.2.2,.list Y3 a0.2.1.1,.list Y2 a0.2.1.2.1,.list Y0 a0.2.1.2.2.1,.list aW a0.2.1.2.2.2,.list bJ a0.2.2]]
noncomputable def CF.a (x4:tI) (x6:List Int) (x7:Int):Option (List Int×Int):=LA 6 Tryz.f6 [1,1,1,1,0,1,0] ⟨31,af [vP 4 575,(6,.v (.own 800)),vI 7 x7],ai [(575,.box [.list Y0 x4.1,.int .i64 x4.2.1.1,.int .i64 x4.2.1.2.1,.int .i64 x4.2.1.2.2,.int .i64 x4.2.2.1.1,.int .i64 x4.2.2.1.2.1,.int .i64 x4.2.2.1.2.2,.list aL x4.2.2.2.1,.list Y3 x4.2.2.2.2]),(800,.rows 3 (.int .i64) .no x6)]⟩
theorem JV (a0:nK):CF a0=(OJ a0).bind fun r1=>bif (!r1.2)then some ([],1)else CF.a r1.1 [] 0:=
 (aa cfg 6 _).trans (by kernel_rfl)
theorem CF.a_eq (x4:tI) (x6:List Int) (x7:Int):CF.a x4 x6 x7=bif (decide (x7< (x4.1.length:Int)))then((CE x4 x7).bind fun r2=>bif (av ((x6.length)+([r2].length)) 8)then CF.a x4 (x6++[r2]) (IntKind.wrap .i64 (x7+1))else none)else some (x6,0):=
 (ak cfg 6 _ _ _).trans (by kernel_rfl)
noncomputable def O5 (a0:D2):Option D2:=ar cfg 95 [.agg [.str a0.1,.int .i64 a0.2.1,.int .i64 a0.2.2.1,.int .i64 a0.2.2.2.1,.int .i64 a0.2.2.2.2]]
theorem JW (a0:D2):O5 a0=some a0:=
 (aa cfg 95 _).trans (by kernel_rfl)
noncomputable def CG (a0:List D2):Option (List D2):=ar cfg 47 [.v (.list Y4 a0)]
noncomputable def CG.a (x0 x3:List D2) (x4:Int):Option (List D2):=LA 47 Tryz.f47 [1,1,0,1,0] ⟨23,af [vL 0 Y4 x0,(3,.v (.own 416)),vI 4 x4],ai [(416,.rows 186 Y4 .no x3)]⟩
theorem JX (a0:List D2):CG a0=bif (decide (0≤(a0.length:Int))&&av (Int.toNat (a0.length:Int)) 48)then CG.a a0 (List.replicate (Int.toNat (a0.length:Int)) ((⟨#[]⟩:ByteArray),0,0,0,0)) 0 else none:=
 (aa cfg 47 _).trans (by kernel_rfl)
theorem CG.a_eq (x0 x3:List D2) (x4:Int):CG.a x0 x3 x4=bif (decide (x4< (x0.length:Int)))then(bif (ao x4 (x0.length))then((O5 (rd (τ:=Y4) x0 x4)).bind fun r1=>bif (ao x4 (x3.length))then CG.a x0 (x3.set (Int.toNat x4) r1) (IntKind.wrap .i64 (x4+1))else none)else none)else some x3:=
 (ak cfg 47 _ _ _).trans (by kernel_rfl)
noncomputable def O6 (a0:D3):Option D3:=ar cfg 24 [.agg [.str a0.1,.str a0.2.1,.list Y4 a0.2.2]]
theorem JY (a0:D3):O6 a0=(CG a0.2.2).bind fun r1=>some (a0.1,a0.2.1,r1):=
 (aa cfg 24 _).trans (by kernel_rfl)
noncomputable def O7 (a0:D1):Option D1:=ar cfg 155 [.agg [.int .i64 a0.1,.int .i64 a0.2.1,.str a0.2.2]]
theorem JZ (a0:D1):O7 a0=some a0:=
 (aa cfg 155 _).trans (by kernel_rfl)
noncomputable def CH (a0:List D1):Option (List D1):=ar cfg 96 [.v (.list Y3 a0)]
noncomputable def CH.a (x0 x3:List D1) (x4:Int):Option (List D1):=LA 96 Tryz.f96 [1,1,0,1,0] ⟨23,af [vL 0 Y3 x0,(3,.v (.own 416)),vI 4 x4],ai [(416,.rows 185 Y3 .no x3)]⟩
theorem J0 (a0:List D1):CH a0=bif (decide (0≤(a0.length:Int))&&av (Int.toNat (a0.length:Int)) 32)then CH.a a0 (List.replicate (Int.toNat (a0.length:Int)) (0,0,(⟨#[]⟩:ByteArray))) 0 else none:=
 (aa cfg 96 _).trans (by kernel_rfl)
theorem CH.a_eq (x0 x3:List D1) (x4:Int):CH.a x0 x3 x4=bif (decide (x4< (x0.length:Int)))then(bif (ao x4 (x0.length))then((O7 (rd (τ:=Y3) x0 x4)).bind fun r1=>bif (ao x4 (x3.length))then CH.a x0 (x3.set (Int.toNat x4) r1) (IntKind.wrap .i64 (x4+1))else none)else none)else some x3:=
 (ak cfg 96 _ _ _).trans (by kernel_rfl)
noncomputable def O8 (a0:List D1):Option (List D1):=ar cfg 48 [.agg [.list Y3 a0]]
theorem J1 (a0:List D1):O8 a0=(CH a0).bind fun r1=>some r1:=
 (aa cfg 48 _).trans (by kernel_rfl)
noncomputable def zh (a0:List Int):Option (List Int):=ar cfg 217 [.agg [.seg (.int .i64) 32 a0]]
noncomputable def zh.a (x1 x2 x3:List Int) (x4:Int):Option (List Int):=LA 217 Tryz.f217 [1,1,0,1,0] ⟨15,af [vP 1 191,vP 2 319,vP 3 447,vI 4 x4],ai [(191,.box [.seg (.int .i64) 32 x1]),(319,.box [.seg (.int .i64) 32 x2]),(447,.box [.seg (.int .i64) 32 x3])]⟩
theorem J2 (a0:List Int):zh a0=zh.a a0 [0,0,0,0,0,0,0,0,0,0,0,0,0,0,0,0,0,0,0,0,0,0,0,0,0,0,0,0,0,0,0,0] [0,0,0,0,0,0,0,0,0,0,0,0,0,0,0,0,0,0,0,0,0,0,0,0,0,0,0,0,0,0,0,0] 0:=
 (aa cfg 217 _).trans (by kernel_rfl)
theorem zh.a_eq (x1 x2 x3:List Int) (x4:Int):zh.a x1 x2 x3 x4=bif (decide (x4<32))then(bif (ao x4 32)then(bif (ao x4 32)then zh.a x1 x2 (x3.set (Int.toNat x4) (rd (τ:=(.int .i64)) x1 x4)) (IntKind.wrap .i64 (x4+1))else none)else none)else some x3:=
 (ak cfg 217 _ _ _).trans (by kernel_rfl)
noncomputable def O9 (a0:List Int×Int):Option (List Int×Int):=ar cfg 156 [.agg [.seg (.int .i64) 32 a0.1,.int .i64 a0.2]]
theorem J3 (a0:List Int×Int):O9 a0=(zh a0.1).bind fun r1=>some (r1,a0.2):=
 (aa cfg 156 _).trans (by kernel_rfl)
noncomputable def zi (a0:List Int):Option (List Int):=ar cfg 157 [.v (.list (.int .i64) a0)]
noncomputable def zi.a (x0 x3:List Int) (x4:Int):Option (List Int):=LA 157 Tryz.f157 [1,1,0,1,0] ⟨22,af [vL 0 (.int .i64) x0,(3,.v (.own 416)),vI 4 x4],ai [(416,.rows 3 (.int .i64) .no x3)]⟩
theorem J4 (a0:List Int):zi a0=bif (decide (0≤(a0.length:Int))&&av (Int.toNat (a0.length:Int)) 8)then zi.a a0 (List.replicate (Int.toNat (a0.length:Int)) (0:Int)) 0 else none:=
 (aa cfg 157 _).trans (by kernel_rfl)
theorem zi.a_eq (x0 x3:List Int) (x4:Int):zi.a x0 x3 x4=bif (decide (x4< (x0.length:Int)))then(bif (ao x4 (x0.length))then(bif (ao x4 (x3.length))then zi.a x0 (x3.set (Int.toNat x4) (rd (τ:=(.int .i64)) x0 x4)) (IntKind.wrap .i64 (x4+1))else none)else none)else some x3:=
 (ak cfg 157 _ _ _).trans (by kernel_rfl)
noncomputable def Pa (a0:D4):Option D4:=ar cfg 97 [.agg [.int .i64 a0.1,.seg (.int .i64) 32 a0.2.1.1,.int .i64 a0.2.1.2,.list (.int .i64) a0.2.2.1,.int .i64 a0.2.2.2]]
theorem J5 (a0:D4):Pa a0=(O9 a0.2.1).bind fun r1=>(zi a0.2.2.1).bind fun r2=>some (a0.1,r1,r2,a0.2.2.2):=
 (aa cfg 97 _).trans (by kernel_rfl)
noncomputable def CI (a0:List D4):Option (List D4):=ar cfg 49 [.v (.list Y2 a0)]
noncomputable def CI.a (x0 x3:List D4) (x4:Int):Option (List D4):=LA 49 Tryz.f49 [1,1,0,1,0] ⟨23,af [vL 0 Y2 x0,(3,.v (.own 416)),vI 4 x4],ai [(416,.rows 174 Y2 (.pair .no (.pair .no (.pair (.own 3 .no) .no))) x3)]⟩
theorem J6 (a0:List D4):CI a0=bif (decide (0≤(a0.length:Int))&&av (Int.toNat (a0.length:Int)) 304)then CI.a a0 (List.replicate (Int.toNat (a0.length:Int)) (0,([0,0,0,0,0,0,0,0,0,0,0,0,0,0,0,0,0,0,0,0,0,0,0,0,0,0,0,0,0,0,0,0],0),[],0)) 0 else none:=
 (aa cfg 49 _).trans (by kernel_rfl)
theorem CI.a_eq (x0 x3:List D4) (x4:Int):CI.a x0 x3 x4=bif (decide (x4< (x0.length:Int)))then(bif (ao x4 (x0.length))then((Pa (rd (τ:=Y2) x0 x4)).bind fun r1=>bif (ao x4 (x3.length))then CI.a x0 (x3.set (Int.toNat x4) r1) (IntKind.wrap .i64 (x4+1))else none)else none)else some x3:=
 (ak cfg 49 _ _ _).trans (by kernel_rfl)
noncomputable def Pb (a0:D0):Option D0:=ar cfg 98 [.agg [.str a0.1,.int .i64 a0.2.1,.int .i64 a0.2.2.1,.int .i64 a0.2.2.2.1,.int .i64 a0.2.2.2.2.1,.int .i64 a0.2.2.2.2.2]]
theorem J7 (a0:D0):Pb a0=some a0:=
 (aa cfg 98 _).trans (by kernel_rfl)
noncomputable def CJ (a0:List D0):Option (List D0):=ar cfg 50 [.v (.list Y0 a0)]
noncomputable def CJ.a (x0 x3:List D0) (x4:Int):Option (List D0):=LA 50 Tryz.f50 [1,1,0,1,0] ⟨23,af [vL 0 Y0 x0,(3,.v (.own 416)),vI 4 x4],ai [(416,.rows 116 Y0 .no x3)]⟩
theorem J8 (a0:List D0):CJ a0=bif (decide (0≤(a0.length:Int))&&av (Int.toNat (a0.length:Int)) 56)then CJ.a a0 (List.replicate (Int.toNat (a0.length:Int)) ((⟨#[]⟩:ByteArray),0,0,0,0,0)) 0 else none:=
 (aa cfg 50 _).trans (by kernel_rfl)
theorem CJ.a_eq (x0 x3:List D0) (x4:Int):CJ.a x0 x3 x4=bif (decide (x4< (x0.length:Int)))then(bif (ao x4 (x0.length))then((Pb (rd (τ:=Y0) x0 x4)).bind fun r1=>bif (ao x4 (x3.length))then CJ.a x0 (x3.set (Int.toNat x4) r1) (IntKind.wrap .i64 (x4+1))else none)else none)else some x3:=
 (ak cfg 50 _ _ _).trans (by kernel_rfl)
noncomputable def Pd (a0:Int×Int×Int):Option (Int×Int×Int):=ar cfg 99 [.agg [.int .i64 a0.1,.int .i64 a0.2.1,.int .i64 a0.2.2]]
theorem J9 (a0:Int×Int×Int):Pd a0=some a0:=
 (aa cfg 99 _).trans (by kernel_rfl)
noncomputable def CK (a0:List (Int×Int×Int)):Option (List (Int×Int×Int)):=ar cfg 51 [.v (.list aW a0)]
noncomputable def CK.a (x0 x3:List (Int×Int×Int)) (x4:Int):Option (List (Int×Int×Int)):=LA 51 Tryz.f51 [1,1,0,1,0] ⟨23,af [vL 0 aW x0,(3,.v (.own 416)),vI 4 x4],ai [(416,.rows 192 aW .no x3)]⟩
theorem Ka (a0:List (Int×Int×Int)):CK a0=bif (decide (0≤(a0.length:Int))&&av (Int.toNat (a0.length:Int)) 24)then CK.a a0 (List.replicate (Int.toNat (a0.length:Int)) (0,0,0)) 0 else none:=
 (aa cfg 51 _).trans (by kernel_rfl)
theorem CK.a_eq (x0 x3:List (Int×Int×Int)) (x4:Int):CK.a x0 x3 x4=bif (decide (x4< (x0.length:Int)))then(bif (ao x4 (x0.length))then((Pd (rd (τ:=aW) x0 x4)).bind fun r1=>bif (ao x4 (x3.length))then CK.a x0 (x3.set (Int.toNat x4) r1) (IntKind.wrap .i64 (x4+1))else none)else none)else some x3:=
 (ak cfg 51 _ _ _).trans (by kernel_rfl)
noncomputable def Pe (a0:D5):Option D5:=ar cfg 25 [.agg [.list Y3 a0.1,.list Y2 a0.2.1,.list Y0 a0.2.2.1,.list aW a0.2.2.2]]
theorem Kb (a0:D5):Pe a0=(O8 a0.1).bind fun r1=>(CI a0.2.1).bind fun r2=>(CJ a0.2.2.1).bind fun r3=>(CK a0.2.2.2).bind fun r4=>some (r1,r2,r3,r4):=
 (aa cfg 25 _).trans (by kernel_rfl)
noncomputable def Pf (a0:D6):Option D6:=ar cfg 218 [.agg [.str a0.1,.bool a0.2.1,.int .i64 a0.2.2.1,.str a0.2.2.2]]
theorem Kc (a0:D6):Pf a0=some a0:=
 (aa cfg 218 _).trans (by kernel_rfl)
noncomputable def CL (a0:List D6):Option (List D6):=ar cfg 158 [.v (.list Y5 a0)]
noncomputable def CL.a (x0 x3:List D6) (x4:Int):Option (List D6):=LA 158 Tryz.f158 [1,1,0,1,0] ⟨23,af [vL 0 Y5 x0,(3,.v (.own 416)),vI 4 x4],ai [(416,.rows 215 Y5 .no x3)]⟩
theorem Kd (a0:List D6):CL a0=bif (decide (0≤(a0.length:Int))&&av (Int.toNat (a0.length:Int)) 48)then CL.a a0 (List.replicate (Int.toNat (a0.length:Int)) ((⟨#[]⟩:ByteArray),false,0,(⟨#[]⟩:ByteArray))) 0 else none:=
 (aa cfg 158 _).trans (by kernel_rfl)
theorem CL.a_eq (x0 x3:List D6) (x4:Int):CL.a x0 x3 x4=bif (decide (x4< (x0.length:Int)))then(bif (ao x4 (x0.length))then((Pf (rd (τ:=Y5) x0 x4)).bind fun r1=>bif (ao x4 (x3.length))then CL.a x0 (x3.set (Int.toNat x4) r1) (IntKind.wrap .i64 (x4+1))else none)else none)else some x3:=
 (ak cfg 158 _ _ _).trans (by kernel_rfl)
noncomputable def Pg (a0:D7):Option D7:=ar cfg 219 [.agg [.str a0.1,.str a0.2]]
theorem Ke (a0:D7):Pg a0=some a0:=
 (aa cfg 219 _).trans (by kernel_rfl)
noncomputable def CM (a0:List D7):Option (List D7):=ar cfg 159 [.v (.list (.pair .str .str) a0)]
noncomputable def CM.a (x0 x3:List D7) (x4:Int):Option (List D7):=LA 159 Tryz.f159 [1,1,0,1,0] ⟨23,af [vL 0 (.pair .str .str) x0,(3,.v (.own 416)),vI 4 x4],ai [(416,.rows 217 (.pair .str .str) .no x3)]⟩
theorem Kf (a0:List D7):CM a0=bif (decide (0≤(a0.length:Int))&&av (Int.toNat (a0.length:Int)) 32)then CM.a a0 (List.replicate (Int.toNat (a0.length:Int)) ((⟨#[]⟩:ByteArray),(⟨#[]⟩:ByteArray))) 0 else none:=
 (aa cfg 159 _).trans (by kernel_rfl)
theorem CM.a_eq (x0 x3:List D7) (x4:Int):CM.a x0 x3 x4=bif (decide (x4< (x0.length:Int)))then(bif (ao x4 (x0.length))then((Pg (rd (τ:=(.pair .str .str)) x0 x4)).bind fun r1=>bif (ao x4 (x3.length))then CM.a x0 (x3.set (Int.toNat x4) r1) (IntKind.wrap .i64 (x4+1))else none)else none)else some x3:=
 (ak cfg 159 _ _ _).trans (by kernel_rfl)
noncomputable def Ph (a0:D8):Option D8:=ar cfg 220 [.agg [.int .i64 a0.1,.int .i64 a0.2.1,.int .i64 a0.2.2.1,.str a0.2.2.2.1,.int .i64 a0.2.2.2.2]]
theorem Kg (a0:D8):Ph a0=some a0:=
 (aa cfg 220 _).trans (by kernel_rfl)
noncomputable def CN (a0:List D8):Option (List D8):=ar cfg 160 [.v (.list Y6 a0)]
noncomputable def CN.a (x0 x3:List D8) (x4:Int):Option (List D8):=LA 160 Tryz.f160 [1,1,0,1,0] ⟨23,af [vL 0 Y6 x0,(3,.v (.own 416)),vI 4 x4],ai [(416,.rows 219 Y6 .no x3)]⟩
theorem Kh (a0:List D8):CN a0=bif (decide (0≤(a0.length:Int))&&av (Int.toNat (a0.length:Int)) 48)then CN.a a0 (List.replicate (Int.toNat (a0.length:Int)) (0,0,0,(⟨#[]⟩:ByteArray),0)) 0 else none:=
 (aa cfg 160 _).trans (by kernel_rfl)
theorem CN.a_eq (x0 x3:List D8) (x4:Int):CN.a x0 x3 x4=bif (decide (x4< (x0.length:Int)))then(bif (ao x4 (x0.length))then((Ph (rd (τ:=Y6) x0 x4)).bind fun r1=>bif (ao x4 (x3.length))then CN.a x0 (x3.set (Int.toNat x4) r1) (IntKind.wrap .i64 (x4+1))else none)else none)else some x3:=
 (ak cfg 160 _ _ _).trans (by kernel_rfl)
noncomputable def Pi (a0:Int×Bool):Option (Int×Bool):=ar cfg 221 [.agg [.int .i64 a0.1,.bool a0.2]]
theorem Ki (a0:Int×Bool):Pi a0=some a0:=
 (aa cfg 221 _).trans (by kernel_rfl)
noncomputable def CO (a0:List (Int×Bool)):Option (List (Int×Bool)):=ar cfg 161 [.v (.list (.pair (.int .i64) .bool) a0)]
noncomputable def CO.a (x0 x3:List (Int×Bool)) (x4:Int):Option (List (Int×Bool)):=LA 161 Tryz.f161 [1,1,0,1,0] ⟨23,af [vL 0 (.pair (.int .i64) .bool) x0,(3,.v (.own 416)),vI 4 x4],ai [(416,.rows 221 (.pair (.int .i64) .bool) .no x3)]⟩
theorem Kj (a0:List (Int×Bool)):CO a0=bif (decide (0≤(a0.length:Int))&&av (Int.toNat (a0.length:Int)) 16)then CO.a a0 (List.replicate (Int.toNat (a0.length:Int)) (0,false)) 0 else none:=
 (aa cfg 161 _).trans (by kernel_rfl)
theorem CO.a_eq (x0 x3:List (Int×Bool)) (x4:Int):CO.a x0 x3 x4=bif (decide (x4< (x0.length:Int)))then(bif (ao x4 (x0.length))then((Pi (rd (τ:=(.pair (.int .i64) .bool)) x0 x4)).bind fun r1=>bif (ao x4 (x3.length))then CO.a x0 (x3.set (Int.toNat x4) r1) (IntKind.wrap .i64 (x4+1))else none)else none)else some x3:=
 (ak cfg 161 _ _ _).trans (by kernel_rfl)
noncomputable def Pj (a0:D9):Option D9:=ar cfg 100 [.agg [.str a0.1,.int .i64 a0.2.1,.list Y5 a0.2.2.1,.list (.pair .str .str) a0.2.2.2.1,.list Y6 a0.2.2.2.2.1,.list (.pair (.int .i64) .bool) a0.2.2.2.2.2]]
theorem Kk (a0:D9):Pj a0=(CL a0.2.2.1).bind fun r1=>(CM a0.2.2.2.1).bind fun r2=>(CN a0.2.2.2.2.1).bind fun r3=>(CO a0.2.2.2.2.2).bind fun r4=>some (a0.1,a0.2.1,r1,r2,r3,r4):=
 (aa cfg 100 _).trans (by kernel_rfl)
noncomputable def Br (a0:List ByteArray):Option (List ByteArray):=ar cfg 162 [.v (.list .str a0)]
noncomputable def Br.a (x0 x3:List ByteArray) (x4:Int):Option (List ByteArray):=LA 162 Tryz.f162 [1,1,0,1,0] ⟨22,af [vL 0 .str x0,(3,.v (.own 416)),vI 4 x4],ai [(416,.rows 9 .str .no x3)]⟩
theorem Kl (a0:List ByteArray):Br a0=bif (decide (0≤(a0.length:Int))&&av (Int.toNat (a0.length:Int)) 16)then Br.a a0 (List.replicate (Int.toNat (a0.length:Int)) (⟨#[]⟩:ByteArray)) 0 else none:=
 (aa cfg 162 _).trans (by kernel_rfl)
theorem Br.a_eq (x0 x3:List ByteArray) (x4:Int):Br.a x0 x3 x4=bif (decide (x4< (x0.length:Int)))then(bif (ao x4 (x0.length))then(bif (ao x4 (x3.length))then Br.a x0 (x3.set (Int.toNat x4) (rd (τ:= .str) x0 x4)) (IntKind.wrap .i64 (x4+1))else none)else none)else some x3:=
 (ak cfg 162 _ _ _).trans (by kernel_rfl)
noncomputable def Pk (a0:bX):Option bX:=ar cfg 101 [.agg [.list (.int .i64) a0.1,.list .str a0.2.1,.list (.int .i64) a0.2.2.1,.list .str a0.2.2.2]]
theorem Km (a0:bX):Pk a0=(zi a0.1).bind fun r1=>(Br a0.2.1).bind fun r2=>(zi a0.2.2.1).bind fun r3=>(Br a0.2.2.2).bind fun r4=>some (r1,r2,r3,r4):=
 (aa cfg 101 _).trans (by kernel_rfl)
noncomputable def Pm (a0:Int×Int):Option (Int×Int):=ar cfg 163 [.agg [.int .i64 a0.1,.int .i64 a0.2]]
theorem Kn (a0:Int×Int):Pm a0=some a0:=
 (aa cfg 163 _).trans (by kernel_rfl)
noncomputable def CP (a0:List (Int×Int)):Option (List (Int×Int)):=ar cfg 102 [.v (.list Y9 a0)]
noncomputable def CP.a (x0 x3:List (Int×Int)) (x4:Int):Option (List (Int×Int)):=LA 102 Tryz.f102 [1,1,0,1,0] ⟨23,af [vL 0 Y9 x0,(3,.v (.own 416)),vI 4 x4],ai [(416,.rows 202 Y9 .no x3)]⟩
theorem Ko (a0:List (Int×Int)):CP a0=bif (decide (0≤(a0.length:Int))&&av (Int.toNat (a0.length:Int)) 16)then CP.a a0 (List.replicate (Int.toNat (a0.length:Int)) (0,0)) 0 else none:=
 (aa cfg 102 _).trans (by kernel_rfl)
theorem CP.a_eq (x0 x3:List (Int×Int)) (x4:Int):CP.a x0 x3 x4=bif (decide (x4< (x0.length:Int)))then(bif (ao x4 (x0.length))then((Pm (rd (τ:=Y9) x0 x4)).bind fun r1=>bif (ao x4 (x3.length))then CP.a x0 (x3.set (Int.toNat x4) r1) (IntKind.wrap .i64 (x4+1))else none)else none)else some x3:=
 (ak cfg 102 _ _ _).trans (by kernel_rfl)
noncomputable def Pn (a0:ef):Option ef:=ar cfg 52 [.agg [.str a0.1.1,.int .i64 a0.1.2.1,.list Y5 a0.1.2.2.1,.list (.pair .str .str) a0.1.2.2.2.1,.list Y6 a0.1.2.2.2.2.1,.list (.pair (.int .i64) .bool) a0.1.2.2.2.2.2,.list (.int .i64) a0.2.1.1,.list .str a0.2.1.2.1,.list (.int .i64) a0.2.1.2.2.1,.list .str a0.2.1.2.2.2,.list Y9 a0.2.2]]
theorem Kp (a0:ef):Pn a0=(Pj a0.1).bind fun r1=>(Pk a0.2.1).bind fun r2=>(CP a0.2.2).bind fun r3=>some (r1,r2,r3):=
 (aa cfg 52 _).trans (by kernel_rfl)
noncomputable def CQ (a0:List ef):Option (List ef):=ar cfg 26 [.v (.list bJ a0)]
noncomputable def CQ.a (x0 x3:List ef) (x4:Int):Option (List ef):=LA 26 Tryz.f26 [1,1,0,1,0] ⟨23,af [vL 0 bJ x0,(3,.v (.own 416)),vI 4 x4],ai [(416,.rows 131 bJ (.pair (.pair .no (.pair .no (.pair (.own 215 .no) (.pair (.own 217 .no) (.pair (.own 219 .no) (.own 221 .no)))))) (.pair (.pair (.own 3 .no) (.pair (.own 9 .no) (.pair (.own 3 .no) (.own 9 .no)))) (.own 202 .no))) x3)]⟩
theorem Kq (a0:List ef):CQ a0=bif (decide (0≤(a0.length:Int))&&av (Int.toNat (a0.length:Int)) 240)then CQ.a a0 (List.replicate (Int.toNat (a0.length:Int)) (((⟨#[]⟩:ByteArray),0,[],[],[],[]),([],[],[],[]),[])) 0 else none:=
 (aa cfg 26 _).trans (by kernel_rfl)
theorem CQ.a_eq (x0 x3:List ef) (x4:Int):CQ.a x0 x3 x4=bif (decide (x4< (x0.length:Int)))then(bif (ao x4 (x0.length))then((Pn (rd (τ:=bJ) x0 x4)).bind fun r1=>bif (ao x4 (x3.length))then CQ.a x0 (x3.set (Int.toNat x4) r1) (IntKind.wrap .i64 (x4+1))else none)else none)else some x3:=
 (ak cfg 26 _ _ _).trans (by kernel_rfl)
noncomputable def Fc (a0:nK):Option nK:=ar cfg 7 [.agg [.str a0.1.1,.str a0.1.2.1,.list Y4 a0.1.2.2,.list Y3 a0.2.1.1,.list Y2 a0.2.1.2.1,.list Y0 a0.2.1.2.2.1,.list aW a0.2.1.2.2.2,.list bJ a0.2.2]]
theorem Kr (a0:nK):Fc a0=(O6 a0.1).bind fun r1=>(Pe a0.2.1).bind fun r2=>(CQ a0.2.2).bind fun r3=>some (r1,r2,r3):=
 (aa cfg 7 _).trans (by kernel_rfl)
noncomputable def fY (a0 a1 a2:Int):Option Bool:=ar cfg 181 [.v (.int .i64 a0),.v (.int .i64 a1),.v (.int .i64 a2)]
theorem xR (a0 a1 a2:Int):fY a0 a1 a2=bif (decide (a1≤a0))then some (decide (a0≤a2))else some false:=
 (aa cfg 181 _).trans (by kernel_rfl)
noncomputable def OL (a0:Int):Option Bool:=ar cfg 284 [.v (.int .u8 a0)]
theorem Fd (a0:Int):OL a0=bif (decide (a0≥97))then(bif (decide (a0≤122))then some true else(bif (decide (a0≥65))then(bif (decide (a0≤90))then some true else some (decide (a0=95)))else some (decide (a0=95))))else(bif (decide (a0≥65))then(bif (decide (a0≤90))then some true else some (decide (a0=95)))else some (decide (a0=95))):=
 (aa cfg 284 _).trans (by kernel_rfl)
noncomputable def Po (a0:Int):Option Bool:=ar cfg 285 [.v (.int .u8 a0)]
theorem Fe (a0:Int):Po a0=bif (decide (a0≥48))then some (decide (a0≤57))else some false:=
 (aa cfg 285 _).trans (by kernel_rfl)
noncomputable def n6 (a0:ByteArray):Option Bool:=ar cfg 228 [.v (.str a0)]
noncomputable def n6.a (x0:ByteArray) (x3:Int):Option Bool:=LA 228 Tryz.f228 [1,1,0,1,0] ⟨32,af [(0,.v (.str x0)),vI 3 x3],ai []⟩
theorem Ff (a0:ByteArray):n6 a0=(fY (a0.size:Int) 1 20).bind fun r1=>bif (!r1)then some false else(bif (ao 0 a0.size)then((OL (bt a0 0)).bind fun r2=>bif (!r2)then some false else n6.a a0 1)else none):=
 (aa cfg 228 _).trans (by kernel_rfl)
theorem n6.a_eq (x0:ByteArray) (x3:Int):n6.a x0 x3=bif (decide (x3< (x0.size:Int)))then(bif (ao x3 x0.size)then((OL (bt x0 x3)).bind fun r5=>bif (!r5)then(bif (ao x3 x0.size)then((Po (bt x0 x3)).bind fun r6=>bif (!r6)then some false else n6.a x0 (IntKind.wrap .i64 (x3+1)))else none)else n6.a x0 (IntKind.wrap .i64 (x3+1)))else none)else some true:=
 (ak cfg 228 _ _ _).trans (by kernel_rfl)
noncomputable def CR (a0:D3) (a1:Int) (a2:Int×Int):Option (Int×Int×Int):=ar cfg 222 [.agg [.str a0.1,.str a0.2.1,.list Y4 a0.2.2],.v (.int .i64 a1),.agg [.int .i64 a2.1,.int .i64 a2.2]]
noncomputable def CR.a (x2:Int×Int) (x3:D3) (x7:D2) (x22:List D2) (x23 x24:Int):Option (Int×Int×Int):=LA 222 Tryz.f222 [1,1,1,0,1,0] ⟨113,af [vP 2 383,vP 3 447,vP 7 959,vL 22 Y4 x22,vI 23 x23,vI 24 x24],ai [(383,.box [.int .i64 x2.1,.int .i64 x2.2]),(447,.box [.str x3.1,.str x3.2.1,.list Y4 x3.2.2]),(959,.box [.str x7.1,.int .i64 x7.2.1,.int .i64 x7.2.2.1,.int .i64 x7.2.2.2.1,.int .i64 x7.2.2.2.2])]⟩
theorem Ks (a0:D3) (a1:Int) (a2:Int×Int):CR a0 a1 a2=bif (ao a1 (a0.2.2.length))then((n6 ((rd (τ:=Y4) a0.2.2 a1).1)).bind fun r1=>bif (!r1)then some (3,a2)else(bif (decide (0≤0)&&decide (0≤a1)&&decide (a1≤(a0.2.2.length:Int)))then CR.a a2 a0 (rd (τ:=Y4) a0.2.2 a1) ((a0.2.2.take (Int.toNat a1)).drop (Int.toNat 0)) (((a0.2.2.take (Int.toNat a1)).drop (Int.toNat 0)).length:Int) 0 else none))else none:=
 (aa cfg 222 _).trans (by kernel_rfl)
theorem CR.a_eq (x2:Int×Int) (x3:D3) (x7:D2) (x22:List D2) (x23 x24:Int):CR.a x2 x3 x7 x22 x23 x24=bif (decide (x24<x23))then(bif (ao x24 (x22.length))then(bif (bu ((rd (τ:=Y4) x22 x24).1) x7.1)then some (24,x2)else CR.a x2 x3 x7 x22 x23 (IntKind.wrap .i64 (x24+1)))else none)else(bif (decide (x7.2.1=1))then(bif (!decide (x7.2.2.1=x2.1))then some (4,x2)else((fY x7.2.2.2.1 1 (IntKind.wrap .i64 ((x3.1.size:Int)-x7.2.2.1))).bind fun r2=>bif (!r2)then some (4,x2)else some (0,(IntKind.wrap .i64 (x7.2.2.1+x7.2.2.2.1)),x2.2)))else(bif (decide (x7.2.1=2))then(ax (fun kr13=>(fY x7.2.2.1 x2.2 (x3.2.1.size:Int)).bind fun r5=>bif (!r5)then kr13 true else(bif (!decide ((x7.2.2.1.tmod 8)=0))then kr13 true else(bif (!decide ((x7.2.2.2.1.tmod 8)=0))then kr13 true else((fY x7.2.2.2.1 1 (IntKind.wrap .i64 ((x3.2.1.size:Int)-x7.2.2.1))).bind fun r6=>kr13 (!r6))))) fun(r12:Bool)=>bif r12 then some (4,x2)else(bif (!decide (x7.2.2.2.2=0))then some (17,x2.1,(IntKind.wrap .i64 (x7.2.2.1+x7.2.2.2.1)))else some (0,x2.1,(IntKind.wrap .i64 (x7.2.2.1+x7.2.2.2.1)))))else some (26,x2))):=
 (ak cfg 222 _ _ _).trans (by kernel_rfl)
noncomputable def Kt (a0:D2):Option Int:=ar cfg 225 [.agg [.str a0.1,.int .i64 a0.2.1,.int .i64 a0.2.2.1,.int .i64 a0.2.2.2.1,.int .i64 a0.2.2.2.2]]
theorem xS (a0:D2):Kt a0=bif (decide (a0.2.1=1))then some (IntKind.wrap .i64 (4096+a0.2.2.1))else some (IntKind.wrap .i64 (16384+a0.2.2.1)):=
 (aa cfg 225 _).trans (by kernel_rfl)
noncomputable def CS (a0:D3):Option (List Int):=ar cfg 223 [.agg [.str a0.1,.str a0.2.1,.list Y4 a0.2.2]]
noncomputable def CS.a (x3:List Int) (x7:List D2) (x8 x9:Int):Option (List Int):=LA 223 Tryz.f223 [1,1,0,1,0] ⟨23,af [(3,.v (.own 416)),vL 7 Y4 x7,vI 8 x8,vI 9 x9],ai [(416,.rows 3 (.int .i64) .no x3)]⟩
theorem Ku (a0:D3):CS a0=CS.a [] a0.2.2 (a0.2.2.length:Int) 0:=
 (aa cfg 223 _).trans (by kernel_rfl)
theorem CS.a_eq (x3:List Int) (x7:List D2) (x8 x9:Int):CS.a x3 x7 x8 x9=bif (decide (x9<x8))then(bif (ao x9 (x7.length))then(bif (decide ((rd (τ:=Y4) x7 x9).2.1=1))then((Kt (rd (τ:=Y4) x7 x9)).bind fun r1=>bif (av ((x3.length)+([r1].length)) 8)then CS.a (x3++[r1]) x7 x8 (IntKind.wrap .i64 (x9+1))else none)else CS.a x3 x7 x8 (IntKind.wrap .i64 (x9+1)))else none)else some x3:=
 (ak cfg 223 _ _ _).trans (by kernel_rfl)
noncomputable def OM (a0:Int):Option Bool:=ar cfg 230 [.v (.int .i64 a0)]
theorem Kv (a0:Int):OM a0=(fY a0 16 128).bind fun r1=>bif r1 then some (decide ((a0.tmod 16)=0))else some false:=
 (aa cfg 230 _).trans (by kernel_rfl)
noncomputable def QD (a0:ByteArray):Option Bool:=ar cfg 288 [.v (.str a0)]
theorem Kw (a0:ByteArray):QD a0=bif (decide (((a0.size:Int).tmod 4)=0))then some (decide ((a0.size:Int)≤256))else some false:=
 (aa cfg 288 _).trans (by kernel_rfl)
noncomputable def Pp (a0:ByteArray):Option Bool:=ar cfg 231 [.v (.str a0)]
theorem Kx (a0:ByteArray):Pp a0=(QD a0).bind fun r1=>bif r1 then some (decide ((a0.size:Int)≥20))else some false:=
 (aa cfg 231 _).trans (by kernel_rfl)
noncomputable def Pq (a0:Int):Option Bool:=ar cfg 249 [.v (.int .i64 a0)]
theorem Ky (a0:Int):Pq a0=(fY a0 0 1048575).bind fun r1=>bif r1 then some (decide ((a0.tmod 4)=0))else some false:=
 (aa cfg 249 _).trans (by kernel_rfl)
noncomputable def zj (a0:ByteArray):Option Int:=ar cfg 245 [.v (.str a0)]
noncomputable def zj.a (x0:ByteArray) (x3 x4:Int):Option Int:=LA 245 Tryz.f245 [1,1,0,1,0] ⟨20,af [(0,.v (.str x0)),vI 3 x3,vI 4 x4],ai []⟩
theorem Kz (a0:ByteArray):zj a0=zj.a a0 0 (IntKind.wrap .i64 ((a0.size:Int)-1)):=
 (aa cfg 245 _).trans (by kernel_rfl)
theorem zj.a_eq (x0:ByteArray) (x3 x4:Int):zj.a x0 x3 x4=bif (decide (x4≥0))then(bif (ao x4 x0.size)then zj.a x0 (gL .i64 (cE .i64 x3 8) (IntKind.wrap .i64 ((bt x0 x4)))) (IntKind.wrap .i64 (x4-1))else none)else some x3:=
 (ak cfg 245 _ _ _).trans (by kernel_rfl)
noncomputable def Pr:Option (List D2):=ar cfg 329 []
theorem Fg:Pr=some [((⟨#[]⟩:ByteArray),0,0,0,0),((⟨#[108,117,105]⟩:ByteArray),1,55,0,0),((⟨#[97,117,105,112,99]⟩:ByteArray),1,23,0,0),((⟨#[106,97,108]⟩:ByteArray),2,111,0,0),((⟨#[106,97,108,114]⟩:ByteArray),3,103,0,0),((⟨#[98,101,113]⟩:ByteArray),4,99,0,0),((⟨#[98,110,101]⟩:ByteArray),4,99,1,0),((⟨#[98,108,116]⟩:ByteArray),4,99,4,0),((⟨#[98,103,101]⟩:ByteArray),4,99,5,0),((⟨#[98,108,116,117]⟩:ByteArray),4,99,6,0),((⟨#[98,103,101,117]⟩:ByteArray),4,99,7,0),((⟨#[108,98]⟩:ByteArray),3,3,0,0),((⟨#[108,104]⟩:ByteArray),3,3,1,0),((⟨#[108,119]⟩:ByteArray),3,3,2,0),((⟨#[108,100]⟩:ByteArray),3,3,3,0),((⟨#[108,98,117]⟩:ByteArray),3,3,4,0),((⟨#[108,104,117]⟩:ByteArray),3,3,5,0),((⟨#[108,119,117]⟩:ByteArray),3,3,6,0),((⟨#[115,98]⟩:ByteArray),5,35,0,0),((⟨#[115,104]⟩:ByteArray),5,35,1,0),((⟨#[115,119]⟩:ByteArray),5,35,2,0),((⟨#[115,100]⟩:ByteArray),5,35,3,0),((⟨#[97,100,100,105]⟩:ByteArray),3,19,0,0),((⟨#[115,108,116,105]⟩:ByteArray),3,19,2,0),((⟨#[115,108,116,105,117]⟩:ByteArray),3,19,3,0),((⟨#[120,111,114,105]⟩:ByteArray),3,19,4,0),((⟨#[111,114,105]⟩:ByteArray),3,19,6,0),((⟨#[97,110,100,105]⟩:ByteArray),3,19,7,0),((⟨#[115,108,108,105]⟩:ByteArray),6,19,1,0),((⟨#[115,114,108,105]⟩:ByteArray),6,19,5,0),((⟨#[115,114,97,105]⟩:ByteArray),6,19,5,32),((⟨#[97,100,100]⟩:ByteArray),8,51,0,0),((⟨#[115,117,98]⟩:ByteArray),8,51,0,32),((⟨#[115,108,108]⟩:ByteArray),8,51,1,0),((⟨#[115,108,116]⟩:ByteArray),8,51,2,0),((⟨#[115,108,116,117]⟩:ByteArray),8,51,3,0),((⟨#[120,111,114]⟩:ByteArray),8,51,4,0),((⟨#[115,114,108]⟩:ByteArray),8,51,5,0),((⟨#[115,114,97]⟩:ByteArray),8,51,5,32),((⟨#[111,114]⟩:ByteArray),8,51,6,0),((⟨#[97,110,100]⟩:ByteArray),8,51,7,0),((⟨#[97,100,100,105,119]⟩:ByteArray),3,27,0,0),((⟨#[115,108,108,105,119]⟩:ByteArray),7,27,1,0),((⟨#[115,114,108,105,119]⟩:ByteArray),7,27,5,0),((⟨#[115,114,97,105,119]⟩:ByteArray),7,27,5,32),((⟨#[97,100,100,119]⟩:ByteArray),8,59,0,0),((⟨#[115,117,98,119]⟩:ByteArray),8,59,0,32),((⟨#[115,108,108,119]⟩:ByteArray),8,59,1,0),((⟨#[115,114,108,119]⟩:ByteArray),8,59,5,0),((⟨#[115,114,97,119]⟩:ByteArray),8,59,5,32),((⟨#[109,117,108]⟩:ByteArray),8,51,0,1),((⟨#[109,117,108,104]⟩:ByteArray),8,51,1,1),((⟨#[109,117,108,104,115,117]⟩:ByteArray),8,51,2,1),((⟨#[109,117,108,104,117]⟩:ByteArray),8,51,3,1),((⟨#[100,105,118]⟩:ByteArray),8,51,4,1),((⟨#[100,105,118,117]⟩:ByteArray),8,51,5,1),((⟨#[114,101,109]⟩:ByteArray),8,51,6,1),((⟨#[114,101,109,117]⟩:ByteArray),8,51,7,1),((⟨#[109,117,108,119]⟩:ByteArray),8,59,0,1),((⟨#[100,105,118,119]⟩:ByteArray),8,59,4,1),((⟨#[100,105,118,117,119]⟩:ByteArray),8,59,5,1),((⟨#[114,101,109,119]⟩:ByteArray),8,59,6,1),((⟨#[114,101,109,117,119]⟩:ByteArray),8,59,7,1),((⟨#[101,99,97,108,108]⟩:ByteArray),9,115,0,0),((⟨#[101,98,114,101,97,107]⟩:ByteArray),9,115,0,1)]:=
 (aa cfg 329 _).trans (by kernel_rfl)
noncomputable def ON (a0:Int):Option NR:=ar cfg 296 [.v (.int .i64 a0)]
theorem KA (a0:Int):ON a0=(Pr).bind fun r1=>bif (ao a0 (r1.length))then some ((rd (τ:=Y4) r1 a0).2)else none:=
 (aa cfg 296 _).trans (by kernel_rfl)
noncomputable def Pt (a0:Int):Option (List (Int×Int×Int)):=ar cfg 297 [.v (.int .i64 a0)]
theorem KB (a0:Int):Pt a0=bif (decide (a0=1))then some [(12,20,12)]else(bif (decide (a0=2))then some [(12,8,12),(11,1,20),(1,10,21),(20,1,31)]else(bif (decide (a0=3))then some [(0,12,20)]else(bif (decide (a0=4))then some [(11,1,7),(1,4,8),(5,6,25),(12,1,31)]else(bif (decide (a0=5))then some [(0,5,7),(5,7,25)]else(bif (decide (a0=6))then some [(0,6,20)]else(bif (decide (a0=7))then some [(0,5,20)]else some [])))))):=
 (aa cfg 297 _).trans (by kernel_rfl)
noncomputable def Fh (a0 a1 a2:Int):Option Int:=ar cfg 298 [.v (.int .i64 a0),.v (.int .i64 a1),.v (.int .i64 a2)]
theorem KC (a0 a1 a2:Int):Fh a0 a1 a2=bif (decide (a1<0))then none else(bif (decide (a2<0))then none else some (andI .i64 (lr .i64 a0 a1) (IntKind.wrap .i64 ((cE .i64 1 a2)-1)))):=
 (aa cfg 298 _).trans (by kernel_rfl)
noncomputable def Pu (a0:Int):Option RD:=ar cfg 299 [.v (.int .i64 a0)]
theorem KD (a0:Int):Pu a0=ax (fun kr8=>bif (decide (a0=1))then kr8 (decide (a0=1))else kr8 (decide (a0=2))) fun(r1:Bool)=>bif r1 then some (true,false,false)else(ax (fun kr6=>bif (decide (a0=3))then kr6 (decide (a0=3))else(bif (decide (a0=6))then kr6 (decide (a0=6))else kr6 (decide (a0=7)))) fun(r3:Bool)=>bif r3 then some (true,true,false)else(bif (decide (a0=4))then(bif (decide (a0=4))then some (false,true,true)else(bif (decide (a0=8))then some (true,true,true)else some (false,false,false)))else(bif (decide (a0=5))then some (false,true,true)else(bif (decide (a0=8))then some (true,true,true)else some (false,false,false))))):=
 (aa cfg 299 _).trans (by kernel_rfl)
noncomputable def wr (a0:bQ):Option Int:=ar cfg 248 [.agg [.int .i64 a0.1,.int .i64 a0.2.1,.int .i64 a0.2.2.1,.int .i64 a0.2.2.2.1,.int .i64 a0.2.2.2.2]]
noncomputable def wr.a (x1:bQ) (x3:NR) (x4:Int) (x17:List (Int×Int×Int)) (x18 x19:Int):Option Int:=LA 248 Tryz.f248 [1,1,1,0,1,0] ⟨91,af [vP 1 191,vP 3 447,vI 4 x4,(17,.v (.own 2208)),vI 18 x18,vI 19 x19],ai [(191,.box [.int .i64 x1.1,.int .i64 x1.2.1,.int .i64 x1.2.2.1,.int .i64 x1.2.2.2.1,.int .i64 x1.2.2.2.2]),(447,.box [.int .i64 x3.1,.int .i64 x3.2.1,.int .i64 x3.2.2.1,.int .i64 x3.2.2.2]),(2208,.rows 366 aW .no x17)]⟩
theorem KE (a0:bQ):wr a0=(ON a0.1).bind fun r1=>(Pt r1.1).bind fun r2=>wr.a a0 r1 r1.2.1 r2 (r2.length:Int) 0:=
 (aa cfg 248 _).trans (by kernel_rfl)
theorem wr.a_eq (x1:bQ) (x3:NR) (x4:Int) (x17:List (Int×Int×Int)) (x18 x19:Int):wr.a x1 x3 x4 x17 x18 x19=bif (decide (x19<x18))then(bif (ao x19 (x17.length))then((Fh x1.2.2.2.2 ((rd (τ:=aW) x17 x19).1) ((rd (τ:=aW) x17 x19).2.1)).bind fun r19=>bif (decide ((rd (τ:=aW) x17 x19).2.2<0))then none else wr.a x1 x3 (gL .i64 x4 (cE .i64 r19 ((rd (τ:=aW) x17 x19).2.2))) x17 x18 (IntKind.wrap .i64 (x19+1)))else none)else((Pu x3.1).bind fun r3=>ax (fun kr18=>bif r3.1 then kr18 (gL .i64 x4 (cE .i64 x1.2.1 7))else kr18 x4) fun(r4:Int)=>ax (fun kr17=>bif r3.2.1 then kr17 (gL .i64 r4 (gL .i64 (cE .i64 x1.2.2.1 15) (cE .i64 x3.2.2.1 12)))else kr17 r4) fun(r5:Int)=>ax (fun kr16=>bif r3.2.2 then kr16 (gL .i64 r5 (cE .i64 x1.2.2.2.1 20))else kr16 r5) fun(r6:Int)=>bif (decide (x3.1=6))then some (gL .i64 r6 (cE .i64 (lr .i64 x3.2.2.2 1) 26))else(bif (decide (x3.1=7))then(bif (decide (x3.1=7))then some (gL .i64 r6 (cE .i64 x3.2.2.2 25))else(bif (decide (x3.1=9))then some (gL .i64 r6 (cE .i64 x3.2.2.2 20))else some r6))else(bif (decide (x3.1=8))then some (gL .i64 r6 (cE .i64 x3.2.2.2 25))else(bif (decide (x3.1=9))then some (gL .i64 r6 (cE .i64 x3.2.2.2 20))else some r6)))):=
 (ak cfg 248 _ _ _).trans (by kernel_rfl)
noncomputable def QE (a0:Int):Option Int:=ar cfg 332 [.v (.int .i64 a0)]
theorem KF (a0:Int):QE a0=bif (decide (a0=1))then some 32 else(bif (decide (a0=2))then some 21 else(bif (decide (a0=3))then(bif (decide (a0=3))then some 12 else(bif (decide (a0=4))then some 13 else some 0))else(bif (decide (a0=5))then some 12 else(bif (decide (a0=4))then some 13 else some 0)))):=
 (aa cfg 332 _).trans (by kernel_rfl)
noncomputable def Pv (a0 a1:Int):Option Int:=ar cfg 333 [.v (.int .i64 a0),.v (.int .i64 a1)]
theorem KG (a0 a1:Int):Pv a0 a1=bif (decide ((IntKind.wrap .i64 (64-a1))<0))then none else(bif (decide ((IntKind.wrap .i64 (64-a1))<0))then none else some (lr .i64 (cE .i64 a0 (IntKind.wrap .i64 (64-a1))) (IntKind.wrap .i64 (64-a1)))):=
 (aa cfg 333 _).trans (by kernel_rfl)
noncomputable def l5 (a0:Int):Option (bQ×Bool):=ar cfg 309 [.v (.int .i64 a0)]
noncomputable def l5.a (x0:Int) (x2:bQ) (x14:List D2) (x15 x16:Int):Option (bQ×Bool):=LA 309 Tryz.f309 [1,0,1,0] ⟨92,af [vI 0 x0,vP 2 319,(14,.v (.own 1824)),vI 15 x15,vI 16 x16],ai [(319,.box [.int .i64 x2.1,.int .i64 x2.2.1,.int .i64 x2.2.2.1,.int .i64 x2.2.2.2.1,.int .i64 x2.2.2.2.2]),(1824,.rows 391 Y4 .no x14)]⟩
noncomputable def l5.b (x0:Int) (x2:bQ) (x6:NR) (x7:bQ) (x14:List D2) (x15 x16:Int) (x36:List (Int×Int×Int)) (x37 x38:Int):Option (bQ×Bool):=LA 309 Tryz.f309 [1,0,1,0,0,1,1,0,0,1,1,1,1,0,1,0] ⟨92,af [vI 0 x0,vP 2 319,vP 6 831,vP 7 959,(14,.v (.own 1824)),vI 15 x15,vI 16 x16,(36,.v (.own 4640)),vI 37 x37,vI 38 x38],ai [(319,.box [.int .i64 x2.1,.int .i64 x2.2.1,.int .i64 x2.2.2.1,.int .i64 x2.2.2.2.1,.int .i64 x2.2.2.2.2]),(831,.box [.int .i64 x6.1,.int .i64 x6.2.1,.int .i64 x6.2.2.1,.int .i64 x6.2.2.2]),(959,.box [.int .i64 x7.1,.int .i64 x7.2.1,.int .i64 x7.2.2.1,.int .i64 x7.2.2.2.1,.int .i64 x7.2.2.2.2]),(1824,.rows 391 Y4 .no x14),(4640,.rows 366 aW .no x36)]⟩
theorem KH (a0:Int):l5 a0=(Pr).bind fun r1=>l5.a a0 (0,0,0,0,0) r1 (r1.length:Int) 0:=
 (aa cfg 309 _).trans (by kernel_rfl)
theorem l5.a_eq (x0:Int) (x2:bQ) (x14:List D2) (x15 x16:Int):l5.a x0 x2 x14 x15 x16=bif (decide (x16<x15))then(bif (ao x16 (x14.length))then(ax (fun kr6=>bif (decide (x16=0))then kr6 true else((Fh x0 0 7).bind fun r2=>kr6 (!decide ((rd (τ:=Y4) x14 x16).2.2.1=r2)))) fun(r4:Bool)=>bif r4 then l5.a x0 x2 x14 x15 (IntKind.wrap .i64 (x16+1))else((Pt ((rd (τ:=Y4) x14 x16).2.1)).bind fun r5=>l5.b x0 x2 ((rd (τ:=Y4) x14 x16).2) (x16,0,0,0,0) x14 x15 x16 r5 (r5.length:Int) 0))else none)else some ((0,0,0,0,0),false):=
 (ak cfg 309 _ _ _).trans (by kernel_rfl)
theorem l5.b_eq (x0:Int) (x2:bQ) (x6:NR) (x7:bQ) (x14:List D2) (x15 x16:Int) (x36:List (Int×Int×Int)) (x37 x38:Int):l5.b x0 x2 x6 x7 x14 x15 x16 x36 x37 x38=bif (decide (x38<x37))then(bif (ao x38 (x36.length))then((Fh x0 ((rd (τ:=aW) x36 x38).2.2) ((rd (τ:=aW) x36 x38).2.1)).bind fun r22=>bif (decide ((rd (τ:=aW) x36 x38).1<0))then none else l5.b x0 x2 x6 (x7.1,x7.2.1,x7.2.2.1,x7.2.2.2.1,(gL .i64 x7.2.2.2.2 (cE .i64 r22 ((rd (τ:=aW) x36 x38).1)))) x14 x15 x16 x36 x37 (IntKind.wrap .i64 (x38+1)))else none)else((QE x6.1).bind fun r7=>ax (fun kr21=>bif (decide (r7>0))then((Pv x7.2.2.2.2 r7).bind fun r8=>kr21 r8)else kr21 x7.2.2.2.2) fun(r9:Int)=>(Pu x6.1).bind fun r10=>ax (fun kr20=>bif r10.1 then((Fh x0 7 5).bind fun r11=>kr20 r11)else kr20 x7.2.1) fun(r12:Int)=>ax (fun kr19=>bif r10.2.1 then((Fh x0 15 5).bind fun r13=>kr19 r13)else kr19 x7.2.2.1) fun(r14:Int)=>ax (fun kr18=>bif r10.2.2 then((Fh x0 20 5).bind fun r15=>kr18 r15)else kr18 x7.2.2.2.1) fun(r16:Int)=>(wr (x7.1,r12,r14,r16,r9)).bind fun r17=>bif (decide (r17=x0))then some ((x7.1,r12,r14,r16,r9),true)else l5.a x0 x2 x14 x15 (IntKind.wrap .i64 (x16+1))):=
 (ak cfg 309 _ _ _).trans (by kernel_rfl)
noncomputable def Bs (a0:ByteArray):Option Ru:=ar cfg 277 [.v (.str a0)]
noncomputable def Bs.a (x0:ByteArray) (x5:List bQ) (x6:Int):Option Ru:=LA 277 Tryz.f277 [1,1,0,1,0] ⟨34,af [(0,.v (.str x0)),(5,.v (.own 672)),vI 6 x6],ai [(672,.rows 287 aL .no x5)]⟩
theorem Fk (a0:ByteArray):Bs a0=Bs.a a0 [] 0:=
 (aa cfg 277 _).trans (by kernel_rfl)
theorem Bs.a_eq (x0:ByteArray) (x5:List bQ) (x6:Int):Bs.a x0 x5 x6=bif (decide (x6< (x0.size:Int)))then(bif (decide (0≤x6)&&decide (x6≤(IntKind.wrap .i64 (x6+4)))&&decide ((IntKind.wrap .i64 (x6+4))≤(x0.size:Int)))then((zj (x0.extract (Int.toNat x6) (Int.toNat (IntKind.wrap .i64 (x6+4))))).bind fun r1=>(l5 r1).bind fun r2=>bif (!r2.2)then some ([],(IntKind.wrap .i64 (x6.tdiv 4)),false)else(bif (av ((x5.length)+([r2.1].length)) 40)then Bs.a x0 (x5++[r2.1]) (IntKind.wrap .i64 (x6+4))else none))else none)else some (x5,0,true):=
 (ak cfg 277 _ _ _).trans (by kernel_rfl)
noncomputable def Rb (a0:Int):Option (List bQ):=ar cfg 278 [.v (.int .i64 a0)]
theorem KI (a0:Int):Rb a0=some [(22,2,2,0,(IntKind.wrap .i64 (0-a0))),(21,0,2,1,(IntKind.wrap .i64 (a0-8)))]:=
 (aa cfg 278 _).trans (by kernel_rfl)
noncomputable def Fm (a0 a1:List bQ):Option Bool:=ar cfg 279 [.v (.list aL a0),.v (.list aL a1)]
noncomputable def Fm.a (x0 x1:List bQ) (x12 x13:Int):Option Bool:=LA 279 Tryz.f279 [1,1,0,1,0] ⟨26,af [vL 0 aL x0,vL 1 aL x1,vI 12 x12,vI 13 x13],ai []⟩
theorem KJ (a0 a1:List bQ):Fm a0 a1=bif (!decide ((a0.length:Int)=(a1.length:Int)))then some false else Fm.a a0 a1 (a0.length:Int) 0:=
 (aa cfg 279 _).trans (by kernel_rfl)
theorem Fm.a_eq (x0 x1:List bQ) (x12 x13:Int):Fm.a x0 x1 x12 x13=bif (decide (x13<x12))then(bif (ao x13 (x0.length))then(bif (ao x13 (x1.length))then(bif (!(jQ aL (rd (τ:=aL) x0 x13) (rd (τ:=aL) x1 x13)))then some false else Fm.a x0 x1 x12 (IntKind.wrap .i64 (x13+1)))else none)else none)else some true:=
 (ak cfg 279 _ _ _).trans (by kernel_rfl)
noncomputable def QF (a0:Int):Option (List bQ):=ar cfg 280 [.v (.int .i64 a0)]
theorem KK (a0:Int):QF a0=some [(14,1,2,0,(IntKind.wrap .i64 (a0-8))),(22,2,2,0,a0),(4,0,1,0,0)]:=
 (aa cfg 280 _).trans (by kernel_rfl)
noncomputable def Gp (a0:List Int) (a1:Int):Option Int:=ar cfg 334 [.v (.list (.int .i64) a0),.v (.int .i64 a1)]
noncomputable def Gp.a (x0:List Int) (x1 x7 x8:Int):Option Int:=LA 334 Tryz.f334 [1,0,1,0] ⟨19,af [vL 0 (.int .i64) x0,vI 1 x1,vI 7 x7,vI 8 x8],ai []⟩
theorem KL (a0:List Int) (a1:Int):Gp a0 a1=Gp.a a0 a1 (a0.length:Int) 0:=
 (aa cfg 334 _).trans (by kernel_rfl)
theorem Gp.a_eq (x0:List Int) (x1 x7 x8:Int):Gp.a x0 x1 x7 x8=bif (decide (x8<x7))then(bif (ao x8 (x0.length))then(bif (decide (x1=(rd (τ:=(.int .i64)) x0 x8)))then some x8 else Gp.a x0 x1 x7 (IntKind.wrap .i64 (x8+1)))else none)else some (-1):=
 (ak cfg 334 _ _ _).trans (by kernel_rfl)
noncomputable def QG (a0:List Int) (a1:Int):Option Bool:=ar cfg 310 [.v (.list (.int .i64) a0),.v (.int .i64 a1)]
theorem KM (a0:List Int) (a1:Int):QG a0 a1=(Gp a0 a1).bind fun r1=>some (decide (r1≥0)):=
 (aa cfg 310 _).trans (by kernel_rfl)
noncomputable def Pw (a0:If) (a1:Int):Option Bool:=ar cfg 311 [.v (.cptr NE a0 0),.v (.int .i64 a1)]
theorem KN (a0:If) (a1:Int):Pw a0 a1=bif (ao a1 (a0.1.length))then(bif (decide ((((rd (τ:=aL) a0.1 a1).2.2.2.2).tmod 4)=0))then((fY (IntKind.wrap .i64 (a1+(IntKind.wrap .i64 (((rd (τ:=aL) a0.1 a1).2.2.2.2).tdiv 4)))) 2 (IntKind.wrap .i64 ((a0.1.length:Int)-1))).bind fun r1=>bif r1 then(bif (ao (IntKind.wrap .i64 (a1+(IntKind.wrap .i64 (((rd (τ:=aL) a0.1 a1).2.2.2.2).tdiv 4)))) (a0.2.2.2.2.length))then some (decide ((rd (τ:=(.int .i64)) a0.2.2.2.2 (IntKind.wrap .i64 (a1+(IntKind.wrap .i64 (((rd (τ:=aL) a0.1 a1).2.2.2.2).tdiv 4)))))<2))else none)else some false)else some false)else none:=
 (aa cfg 311 _).trans (by kernel_rfl)
noncomputable def Px (a0:Int):Option Bool:=ar cfg 312 [.v (.int .i64 a0)]
theorem KO (a0:Int):Px a0=(fY a0 5 10).bind fun r1=>some r1:=
 (aa cfg 312 _).trans (by kernel_rfl)
noncomputable def QH (a0:Int):Option Bool:=ar cfg 313 [.v (.int .i64 a0)]
theorem KP (a0:Int):QH a0=(fY a0 11 17).bind fun r1=>some r1:=
 (aa cfg 313 _).trans (by kernel_rfl)
noncomputable def NO (a0:Int):Option Bool:=ar cfg 314 [.v (.int .i64 a0)]
theorem KQ (a0:Int):NO a0=(fY a0 18 21).bind fun r1=>some r1:=
 (aa cfg 314 _).trans (by kernel_rfl)
noncomputable def QI (a0:Int):Option (Int×Bool):=ar cfg 315 [.v (.int .i64 a0)]
theorem KR (a0:Int):QI a0=(NO a0).bind fun r1=>bif r1 then(bif (decide ((IntKind.wrap .i64 (a0-18))<0))then none else some ((cE .i64 1 (IntKind.wrap .i64 (a0-18))),false))else(bif (decide (a0>14))then(bif (decide ((IntKind.wrap .i64 (a0-15))<0))then none else some ((cE .i64 1 (IntKind.wrap .i64 (a0-15))),false))else(bif (decide ((IntKind.wrap .i64 (a0-11))<0))then none else some ((cE .i64 1 (IntKind.wrap .i64 (a0-11))),true))):=
 (aa cfg 315 _).trans (by kernel_rfl)
noncomputable def QJ (a0:If) (a1:Int):Option Int:=ar cfg 281 [.v (.cptr NE a0 0),.v (.int .i64 a1)]
theorem KS (a0:If) (a1:Int):QJ a0 a1=bif (ao a1 (a0.1.length))then(bif (decide ((rd (τ:=aL) a0.1 a1).1=4))then(bif (ao a1 (a0.2.2.2.2.length))then(bif (!decide ((rd (τ:=(.int .i64)) a0.2.2.2.2 a1)=3))then some 18 else some 0)else none)else(ax (fun kr27=>bif (decide ((rd (τ:=aL) a0.1 a1).1=3))then kr27 (decide ((rd (τ:=aL) a0.1 a1).2.1=1))else kr27 false) fun(r1:Bool)=>bif r1 then((QG a0.2.2.2.1 (IntKind.wrap .i64 ((IntKind.wrap .i64 (a0.2.2.1+(IntKind.wrap .i64 (4*a1))))+(rd (τ:=aL) a0.1 a1).2.2.2.2))).bind fun r3=>bif (!r3)then some 20 else some 0)else(bif (decide ((rd (τ:=aL) a0.1 a1).1=3))then(bif (!decide ((rd (τ:=aL) a0.1 a1).2.1=0))then some 19 else((Pw a0 a1).bind fun r4=>bif (!r4)then some 19 else some 0))else((Px ((rd (τ:=aL) a0.1 a1).1)).bind fun r7=>bif r7 then((Pw a0 a1).bind fun r8=>bif (!r8)then some 19 else some 0)else(ax (fun kr26=>bif (decide ((rd (τ:=aL) a0.1 a1).2.1=1))then(bif (ao a1 (a0.2.2.2.2.length))then(bif (!decide ((rd (τ:=(.int .i64)) a0.2.2.2.2 a1)=1))then kr26 true else(bif (decide ((rd (τ:=aL) a0.1 a1).2.1=2))then(bif (ao a1 (a0.2.2.2.2.length))then kr26 (!decide ((rd (τ:=(.int .i64)) a0.2.2.2.2 a1)=2))else none)else kr26 false))else none)else(bif (decide ((rd (τ:=aL) a0.1 a1).2.1=2))then(bif (ao a1 (a0.2.2.2.2.length))then kr26 (!decide ((rd (τ:=(.int .i64)) a0.2.2.2.2 a1)=2))else none)else kr26 false)) fun(r9:Bool)=>bif r9 then some 21 else(ax (fun kr25=>(QH ((rd (τ:=aL) a0.1 a1).1)).bind fun r13=>bif r13 then(bif (decide ((rd (τ:=aL) a0.1 a1).2.2.1=2))then(bif (ao a1 (a0.2.2.2.2.length))then kr25 (!decide ((rd (τ:=(.int .i64)) a0.2.2.2.2 a1)=1))else none)else kr25 false)else((NO ((rd (τ:=aL) a0.1 a1).1)).bind fun r14=>bif r14 then(bif (decide ((rd (τ:=aL) a0.1 a1).2.2.1=2))then(bif (ao a1 (a0.2.2.2.2.length))then kr25 (!decide ((rd (τ:=(.int .i64)) a0.2.2.2.2 a1)=1))else none)else kr25 false)else kr25 false)) fun(r15:Bool)=>bif r15 then((QI ((rd (τ:=aL) a0.1 a1).1)).bind fun r21=>(fY ((rd (τ:=aL) a0.1 a1).2.2.2.2) 0 (IntKind.wrap .i64 ((IntKind.wrap .i64 (a0.2.1-8))-r21.1))).bind fun r22=>bif (!r22)then some 17 else(bif (decide (r21.1=0))then none else(bif (!decide ((((rd (τ:=aL) a0.1 a1).2.2.2.2).tmod r21.1)=0))then some 17 else some 0)))else some 0))))))else none:=
 (aa cfg 281 _).trans (by kernel_rfl)
noncomputable def jv (a0:ByteArray) (a1 a2:Int) (a3:List Int):Option (Int×Int):=ar cfg 224 [.v (.str a0),.v (.int .i64 a1),.v (.int .i64 a2),.v (.list (.int .i64) a3)]
noncomputable def jv.a (x1 x2:Int) (x3:List Int) (x10 x42:List bQ) (x43 x44:Int):Option (Int×Int):=LA 224 Tryz.f224 [1,1,1,1,0,1,0] ⟨136,af [vI 1 x1,vI 2 x2,vL 3 (.int .i64) x3,(10,.v (.own 1312)),(42,.v (.own 5408)),vI 43 x43,vI 44 x44],ai [(1312,.rows 287 aL .no x10),(5408,.rows 287 aL .no x42)]⟩
noncomputable def jv.b (x2:Int) (x10:List bQ) (x16:If) (x17:Int):Option (Int×Int):=LA 224 Tryz.f224 [1,1,1,1,1,1,1,1,0,1,0] ⟨136,af [vI 2 x2,vL 10 aL x10,vP 16 2111,vI 17 x17],ai [(2080,.rows 3 (.int .i64) .no x16.2.2.2.2),(2111,.box [.list aL x16.1,.int .i64 x16.2.1,.int .i64 x16.2.2.1,.list (.int .i64) x16.2.2.2.1,.own 2080])]⟩
noncomputable def jv.c (x10:List bQ) (x16:If) (x18:Int):Option (Int×Int):=LA 224 Tryz.f224 [1,1,1,1,1,1,1,1,1,0,1,0] ⟨136,af [vL 10 aL x10,vP 16 2111,vI 18 x18],ai [(2080,.rows 3 (.int .i64) .no x16.2.2.2.2),(2111,.box [.list aL x16.1,.int .i64 x16.2.1,.int .i64 x16.2.2.1,.list (.int .i64) x16.2.2.2.1,.own 2080])]⟩
theorem Fo (a0:ByteArray) (a1 a2:Int) (a3:List Int):jv a0 a1 a2 a3=(Pq a1).bind fun r1=>bif (!r1)then some (0,4)else((OM a2).bind fun r2=>bif (!r2)then some (0,17)else((Pp a0).bind fun r3=>bif (!r3)then some (0,8)else((Bs a0).bind fun r4=>bif (!r4.2.2)then some (r4.2.1,10)else((Rb a2).bind fun r5=>jv.a a1 a2 a3 r4.1 r5 (r5.length:Int) 0)))):=
 (aa cfg 224 _).trans (by kernel_rfl)
theorem jv.a_eq (x1 x2:Int) (x3:List Int) (x10 x42:List bQ) (x43 x44:Int):jv.a x1 x2 x3 x10 x42 x43 x44=bif (decide (x44<x43))then(bif (ao x44 (x42.length))then(bif (ao x44 (x10.length))then(bif (!(jQ aL (rd (τ:=aL) x10 x44) (rd (τ:=aL) x42 x44)))then some (x44,17)else jv.a x1 x2 x3 x10 x42 x43 (IntKind.wrap .i64 (x44+1)))else none)else none)else(bif (ao (IntKind.wrap .i64 ((x10.length:Int)-1)) (x10.length))then(ax (fun kr8=>bif (!decide ((rd (τ:=aL) x10 (IntKind.wrap .i64 ((x10.length:Int)-1))).1=4))then(bif (!decide ((rd (τ:=aL) x10 (IntKind.wrap .i64 ((x10.length:Int)-1))).1=3))then kr8 true else kr8 (!decide ((rd (τ:=aL) x10 (IntKind.wrap .i64 ((x10.length:Int)-1))).2.1=0)))else kr8 false) fun(r7:Bool)=>bif r7 then some ((IntKind.wrap .i64 ((x10.length:Int)-1)),22)else(bif (decide (0≤(x10.length:Int))&&av (Int.toNat (x10.length:Int)) 8)then jv.b x2 x10 (x10,x2,x1,x3,(List.replicate (Int.toNat (x10.length:Int)) (0:Int))) 2 else none))else none):=
 (ak cfg 224 _ _ _).trans (by kernel_rfl)
theorem jv.b_eq (x2:Int) (x10:List bQ) (x16:If) (x17:Int):jv.b x2 x10 x16 x17=bif (decide ((IntKind.wrap .i64 (x17+3))≤(x10.length:Int)))then(bif (decide (0≤x17)&&decide (x17≤(IntKind.wrap .i64 (x17+3)))&&decide ((IntKind.wrap .i64 (x17+3))≤(x10.length:Int)))then((QF x2).bind fun r9=>(Fm ((x10.take (Int.toNat (IntKind.wrap .i64 (x17+3)))).drop (Int.toNat x17)) r9).bind fun r10=>bif r10 then(bif (ao x17 (x16.2.2.2.2.length))then(bif (ao (IntKind.wrap .i64 (x17+1)) ((x16.2.2.2.2.set (Int.toNat x17) 1).length))then(letB ((x16.2.2.2.2.set (Int.toNat x17) 1).set (Int.toNat (IntKind.wrap .i64 (x17+1))) 2) fun r11=>bif (ao (IntKind.wrap .i64 (x17+2)) (r11.length))then jv.b x2 x10 (x16.1,x16.2.1,x16.2.2.1,x16.2.2.2.1,(r11.set (Int.toNat (IntKind.wrap .i64 (x17+2))) 3)) (IntKind.wrap .i64 (x17+1))else none)else none)else none)else jv.b x2 x10 x16 (IntKind.wrap .i64 (x17+1)))else none)else jv.c x10 x16 2:=
 (ak cfg 224 _ _ _).trans (by kernel_rfl)
theorem jv.c_eq (x10:List bQ) (x16:If) (x18:Int):jv.c x10 x16 x18=bif (decide (x18< (x10.length:Int)))then((QJ x16 x18).bind fun r14=>bif (!decide (r14=0))then some (x18,r14)else jv.c x10 x16 (IntKind.wrap .i64 (x18+1)))else some (0,0):=
 (ak cfg 224 _ _ _).trans (by kernel_rfl)
noncomputable def n7 (a0:D3):Option (Int×Int×Int):=ar cfg 164 [.agg [.str a0.1,.str a0.2.1,.list Y4 a0.2.2]]
noncomputable def n7.a (x1:D3) (x5:Int×Int) (x31 x32:Int):Option (Int×Int×Int):=LA 164 Tryz.f164 [1,1,1,0,1,0] ⟨101,af [vP 1 191,vP 5 703,vI 31 x31,vI 32 x32],ai [(191,.box [.str x1.1,.str x1.2.1,.list Y4 x1.2.2]),(703,.box [.int .i64 x5.1,.int .i64 x5.2])]⟩
noncomputable def n7.b (x1:D3) (x8:List Int) (x66:List D2) (x67 x68:Int):Option (Int×Int×Int):=LA 164 Tryz.f164 [1,1,1,1,1,1,0,1,0] ⟨101,af [vP 1 191,(8,.v (.own 1056)),vL 66 Y4 x66,vI 67 x67,vI 68 x68],ai [(191,.box [.str x1.1,.str x1.2.1,.list Y4 x1.2.2]),(1056,.rows 3 (.int .i64) .no x8)]⟩
theorem KT (a0:D3):n7 a0=bif (decide ((a0.2.2.length:Int)>16))then some (0,0,6)else(bif (decide ((a0.1.size:Int)>1024))then some (0,0,8)else(bif (decide ((a0.2.1.size:Int)>256))then some (0,0,8)else n7.a a0 (0,0) (a0.2.2.length:Int) 0)):=
 (aa cfg 164 _).trans (by kernel_rfl)
theorem n7.a_eq (x1:D3) (x5:Int×Int) (x31 x32:Int):n7.a x1 x5 x31 x32=bif (decide (x32<x31))then((CR x1 x32 x5).bind fun r14=>bif (!decide (r14.1=0))then some (x32,0,r14.1)else n7.a x1 r14.2 x31 (IntKind.wrap .i64 (x32+1)))else(bif (decide ((x1.2.2.length:Int)=0))then some (0,0,23)else(bif (ao 0 (x1.2.2.length))then(bif (!decide ((rd (τ:=Y4) x1.2.2 0).2.1=1))then some (0,0,23)else(bif (!decide (x5.1=(x1.1.size:Int)))then some (0,0,22)else((CS x1).bind fun r13=>n7.b x1 r13 x1.2.2 (x1.2.2.length:Int) 0)))else none)):=
 (ak cfg 164 _ _ _).trans (by kernel_rfl)
theorem n7.b_eq (x1:D3) (x8:List Int) (x66:List D2) (x67 x68:Int):n7.b x1 x8 x66 x67 x68=bif (decide (x68<x67))then(bif (ao x68 (x66.length))then(bif (!decide ((rd (τ:=Y4) x66 x68).2.1=1))then n7.b x1 x8 x66 x67 (IntKind.wrap .i64 (x68+1))else(bif (decide (0≤(rd (τ:=Y4) x66 x68).2.2.1)&&decide ((rd (τ:=Y4) x66 x68).2.2.1≤(IntKind.wrap .i64 ((rd (τ:=Y4) x66 x68).2.2.1+(rd (τ:=Y4) x66 x68).2.2.2.1)))&&decide ((IntKind.wrap .i64 ((rd (τ:=Y4) x66 x68).2.2.1+(rd (τ:=Y4) x66 x68).2.2.2.1))≤(x1.1.size:Int)))then((Kt (rd (τ:=Y4) x66 x68)).bind fun r15=>(jv (x1.1.extract (Int.toNat ((rd (τ:=Y4) x66 x68).2.2.1)) (Int.toNat (IntKind.wrap .i64 ((rd (τ:=Y4) x66 x68).2.2.1+(rd (τ:=Y4) x66 x68).2.2.2.1)))) r15 ((rd (τ:=Y4) x66 x68).2.2.2.2) x8).bind fun r16=>bif (!decide (r16.2=0))then some (x68,r16)else n7.b x1 x8 x66 x67 (IntKind.wrap .i64 (x68+1)))else none))else none)else some (0,0,0):=
 (ak cfg 164 _ _ _).trans (by kernel_rfl)
noncomputable def OO (a0:D3):Option Bool:=ar cfg 103 [.agg [.str a0.1,.str a0.2.1,.list Y4 a0.2.2]]
theorem KU (a0:D3):OO a0=(n7 a0).bind fun r1=>some (decide (r1.2.2=0)):=
 (aa cfg 103 _).trans (by kernel_rfl)
noncomputable def CT (a0:D3):Option (List D0):=ar cfg 165 [.agg [.str a0.1,.str a0.2.1,.list Y4 a0.2.2]]
noncomputable def CT.a (x3:List D0) (x7:List D2) (x8 x9:Int):Option (List D0):=LA 165 Tryz.f165 [1,1,0,1,0] ⟨29,af [(3,.v (.own 416)),vL 7 Y4 x7,vI 8 x8,vI 9 x9],ai [(416,.rows 116 Y0 .no x3)]⟩
theorem KV (a0:D3):CT a0=CT.a [] a0.2.2 (a0.2.2.length:Int) 0:=
 (aa cfg 165 _).trans (by kernel_rfl)
theorem CT.a_eq (x3:List D0) (x7:List D2) (x8 x9:Int):CT.a x3 x7 x8 x9=bif (decide (x9<x8))then(bif (ao x9 (x7.length))then((Kt (rd (τ:=Y4) x7 x9)).bind fun r1=>bif (av ((x3.length)+([((rd (τ:=Y4) x7 x9).1,(rd (τ:=Y4) x7 x9).2.1,r1,(rd (τ:=Y4) x7 x9).2.2.2.1,(rd (τ:=Y4) x7 x9).2.2.2.2,0)].length)) 56)then CT.a (x3++[((rd (τ:=Y4) x7 x9).1,(rd (τ:=Y4) x7 x9).2.1,r1,(rd (τ:=Y4) x7 x9).2.2.2.1,(rd (τ:=Y4) x7 x9).2.2.2.2,0)]) x7 x8 (IntKind.wrap .i64 (x9+1))else none)else none)else some x3:=
 (ak cfg 165 _ _ _).trans (by kernel_rfl)
noncomputable def Bt (a0:D3):Option (List bQ):=ar cfg 166 [.agg [.str a0.1,.str a0.2.1,.list Y4 a0.2.2]]
noncomputable def Bt.a (x3:List bQ) (x7:List D2) (x8 x9:Int):Option (List bQ):=LA 166 Tryz.f166 [1,1,0,1,0] ⟨30,af [(3,.v (.own 416)),vL 7 Y4 x7,vI 8 x8,vI 9 x9],ai [(416,.rows 91 aL .no x3)]⟩
theorem KW (a0:D3):Bt a0=Bt.a [] a0.2.2 (a0.2.2.length:Int) 0:=
 (aa cfg 166 _).trans (by kernel_rfl)
theorem Bt.a_eq (x3:List bQ) (x7:List D2) (x8 x9:Int):Bt.a x3 x7 x8 x9=bif (decide (x9<x8))then(bif (ao x9 (x7.length))then(bif (decide ((rd (τ:=Y4) x7 x9).2.1=1))then((Kt (rd (τ:=Y4) x7 x9)).bind fun r1=>bif (av ((x3.length)+([(x9,0,r1,(rd (τ:=Y4) x7 x9).2.2.2)].length)) 40)then Bt.a (x3++[(x9,0,r1,(rd (τ:=Y4) x7 x9).2.2.2)]) x7 x8 (IntKind.wrap .i64 (x9+1))else none)else Bt.a x3 x7 x8 (IntKind.wrap .i64 (x9+1)))else none)else some x3:=
 (ak cfg 166 _ _ _).trans (by kernel_rfl)
noncomputable def Rc (a0:List D1):Option (List D1):=ar cfg 294 [.agg [.list Y3 a0]]
theorem KX (a0:List D1):Rc a0=(Z3 a0).bind fun r1=>some r1:=
 (aa cfg 294 _).trans (by kernel_rfl)
noncomputable def nE (a0:List D1) (a1:Int) (a2:ByteArray):Option (List D1):=ar cfg 244 [.agg [.list Y3 a0],.v (.int .i64 a1),.v (.str a2)]
noncomputable def nE.a (x1:Int) (x2:ByteArray) (x6 x7:List D1) (x17 x18:Int):Option (List D1):=LA 244 Tryz.f244 [1,1,0,1,0] ⟨58,af [(16,.v (.own 928)),vI 1 x1,(2,.v (.str x2)),vP 6 831,vP 7 959,vI 17 x17,vI 18 x18],ai [(800,.rows 185 Y3 .no x6),(831,.box [.own 800]),(928,.rows 185 Y3 .no x7),(959,.box [.own 928])]⟩
noncomputable def nE.b (x1:Int) (x2:ByteArray) (x6 x7:List D1) (x8:Int) (x9:D1) (x10:List Int) (x17 x18 x27 x28:Int):Option (List D1):=LA 244 Tryz.f244 [1,1,0,1,0,0,1,1,0,0,1,1,0,1,0] ⟨58,af [(16,.v (.own 928)),vI 1 x1,(2,.v (.str x2)),vP 6 831,vP 7 959,vI 8 x8,vP 9 1215,(10,.v (.own 1312)),vI 17 x17,vI 18 x18,vI 27 x27,vI 28 x28],ai [(800,.rows 185 Y3 .no x6),(831,.box [.own 800]),(928,.rows 185 Y3 .no x7),(959,.box [.own 928]),(1215,.box [.int .i64 x9.1,.int .i64 x9.2.1,.str x9.2.2]),(1312,.rows 5 (.int .u8) .box x10)]⟩
theorem KY (a0:List D1) (a1:Int) (a2:ByteArray):nE a0 a1 a2=(Rc a0).bind fun r1=>nE.a a1 a2 [] r1 (r1.length:Int) 0:=
 (aa cfg 244 _).trans (by kernel_rfl)
theorem nE.a_eq (x1:Int) (x2:ByteArray) (x6 x7:List D1) (x17 x18:Int):nE.a x1 x2 x6 x7 x17 x18=bif (decide (x18<x17))then(bif (ao x18 (x7.length))then(bif (decide (((rd (τ:=Y3) x7 x18).2.2).size≤9223372036854775807))then nE.b x1 x2 x6 x7 x18 (rd (τ:=Y3) x7 x18) (eV ((rd (τ:=Y3) x7 x18).2.2)) x17 x18 ((eV ((rd (τ:=Y3) x7 x18).2.2)).length:Int) 0 else none)else none)else some x7:=
 (ak cfg 244 _ _ _).trans (by kernel_rfl)
theorem nE.b_eq (x1:Int) (x2:ByteArray) (x6 x7:List D1) (x8:Int) (x9:D1) (x10:List Int) (x17 x18 x27 x28:Int):nE.b x1 x2 x6 x7 x8 x9 x10 x17 x18 x27 x28=bif (decide (x28<x27))then((fY (IntKind.wrap .i64 ((IntKind.wrap .i64 (x9.1+x28))-x1)) 0 (IntKind.wrap .i64 ((x2.size:Int)-1))).bind fun r3=>bif r3 then(bif (ao (IntKind.wrap .i64 ((IntKind.wrap .i64 (x9.1+x28))-x1)) x2.size)then(bif (ao x28 (x10.length))then(letB (x10.set (Int.toNat x28) (bt x2 (IntKind.wrap .i64 ((IntKind.wrap .i64 (x9.1+x28))-x1)))) fun r4=>nE.b x1 x2 x6 x7 x8 x9 r4 x17 x18 x27 (IntKind.wrap .i64 (x28+1)))else none)else none)else nE.b x1 x2 x6 x7 x8 x9 x10 x17 x18 x27 (IntKind.wrap .i64 (x28+1)))else(bif (ao x8 (x7.length))then(letB (x7.set (Int.toNat x8) ((rd (τ:=Y3) x7 x8).1,(rd (τ:=Y3) x7 x8).2.1,(aI x10))) fun r2=>nE.a x1 x2 x6 r2 x17 (IntKind.wrap .i64 (x18+1)))else none):=
 (ak cfg 244 _ _ _).trans (by kernel_rfl)
noncomputable def Bu (a0:List D1) (a1 a2:Int):Option (List D1):=ar cfg 282 [.agg [.list Y3 a0],.v (.int .i64 a1),.v (.int .i64 a2)]
noncomputable def Bu.a (x1 x2:Int) (x3 x6:List D1) (x7:Int):Option (List D1):=LA 282 Tryz.f282 [1,1,0,0] ⟨36,af [vI 1 x1,vI 2 x2,vP 3 447,vP 6 831,vI 7 x7],ai [(447,.box [.list Y3 x3]),(800,.rows 185 Y3 .no x6),(831,.box [.own 800])]⟩
theorem KZ (a0:List D1) (a1 a2:Int):Bu a0 a1 a2=Bu.a a1 a2 a0 [] 0:=
 (aa cfg 282 _).trans (by kernel_rfl)
theorem Bu.a_eq (x1 x2:Int) (x3 x6:List D1) (x7:Int):Bu.a x1 x2 x3 x6 x7=ax (fun kr6=>bif (decide (x7< (x3.length:Int)))then(bif (ao x7 (x3.length))then kr6 (decide ((rd (τ:=Y3) x3 x7).1<x1))else none)else kr6 false) fun(r2:Bool)=>bif r2 then Bu.a x1 x2 x3 x6 (IntKind.wrap .i64 (x7+1))else((Z3 x3).bind fun r3=>(Z0 (⟨#[0]⟩:ByteArray) 128).bind fun r4=>(Z2 r3 x7 [(x1,x2,r4)]).bind fun r5=>some r5):=
 (ak cfg 282 _ _ _).trans (by kernel_rfl)
noncomputable def qm (a0:List D1) (a1 a2:Int) (a3:ByteArray):Option (List D1):=ar cfg 226 [.agg [.list Y3 a0],.v (.int .i64 a1),.v (.int .i64 a2),.v (.str a3)]
noncomputable def qm.a (x1 x2:Int) (x3:ByteArray) (x4 x8:List D1) (x9:Int):Option (List D1):=LA 226 Tryz.f226 [1,0,1,0] ⟨26,af [vI 1 x1,vI 2 x2,(3,.v (.str x3)),vP 4 575,vP 8 1087,vI 9 x9],ai [(575,.box [.list Y3 x4]),(1056,.rows 185 Y3 .no x8),(1087,.box [.own 1056])]⟩
theorem K0 (a0:List D1) (a1 a2:Int) (a3:ByteArray):qm a0 a1 a2 a3=qm.a a1 a2 a3 a0 [] 0:=
 (aa cfg 226 _).trans (by kernel_rfl)
theorem qm.a_eq (x1 x2:Int) (x3:ByteArray) (x4 x8:List D1) (x9:Int):qm.a x1 x2 x3 x4 x8 x9=bif (decide (x9< (x3.size:Int)))then((Bu x4 (IntKind.wrap .i64 (x1+x9)) x2).bind fun r2=>qm.a x1 x2 x3 r2 x8 (IntKind.wrap .i64 (x9+128)))else((nE x4 x1 x3).bind fun r1=>some r1):=
 (ak cfg 226 _ _ _).trans (by kernel_rfl)
noncomputable def CU (a0:ByteArray) (a1:Int):Option ByteArray:=ar cfg 227 [.v (.str a0),.v (.int .i64 a1)]
theorem K3 (a0:ByteArray) (a1:Int):CU a0 a1=(Z0 (⟨#[0]⟩:ByteArray) (IntKind.wrap .i64 (a1-(a0.size:Int)))).bind fun r1=>bif (decide (a0.size+r1.size≤9223372036854775807))then some (a0++r1)else none:=
 (aa cfg 227 _).trans (by kernel_rfl)
noncomputable def CV (a0:D3):Option (List D1):=ar cfg 167 [.agg [.str a0.1,.str a0.2.1,.list Y4 a0.2.2]]
noncomputable def CV.a (x2 x3:List D1) (x21:Int):Option (List D1):=LA 167 Tryz.f167 [1,1,1,1,1,1,0,1,0] ⟨32,af [vP 2 319,vP 3 447,vI 21 x21],ai [(288,.rows 185 Y3 .no x2),(319,.box [.own 288]),(416,.rows 185 Y3 .no x3),(447,.box [.own 416])]⟩
theorem K4 (a0:D3):CV a0=(CU a0.1 1024).bind fun r1=>(qm [] 4096 4 r1).bind fun r2=>(CU (⟨#[]⟩:ByteArray) 1024).bind fun r3=>(qm r2 8192 4 r3).bind fun r4=>(CU a0.2.1 256).bind fun r5=>(qm r4 16384 3 r5).bind fun r6=>(CU (⟨#[]⟩:ByteArray) 256).bind fun r7=>(qm r6 20480 3 r7).bind fun r8=>CV.a [] r8 0:=
 (aa cfg 167 _).trans (by kernel_rfl)
theorem CV.a_eq (x2 x3:List D1) (x21:Int):CV.a x2 x3 x21=bif (decide (x21<4))then((CU (⟨#[]⟩:ByteArray) 512).bind fun r9=>(qm x3 (IntKind.wrap .i64 (32768+(IntKind.wrap .i64 (1024*x21)))) 11 r9).bind fun r10=>CV.a x2 r10 (IntKind.wrap .i64 (x21+1)))else some x3:=
 (ak cfg 167 _ _ _).trans (by kernel_rfl)
noncomputable def QK (a0:D3):Option tJ:=ar cfg 104 [.agg [.str a0.1,.str a0.2.1,.list Y4 a0.2.2]]
theorem K5 (a0:D3):QK a0=(CT a0).bind fun r1=>(Bt a0).bind fun r2=>(CV a0).bind fun r3=>some (r1,r2,r3,(8192,1024,8192),20480,256,20480):=
 (aa cfg 104 _).trans (by kernel_rfl)
noncomputable def Gq (a0:List ByteArray) (a1:ByteArray):Option Int:=ar cfg 324 [.v (.list .str a0),.v (.str a1)]
noncomputable def Gq.a (x0:List ByteArray) (x1:ByteArray) (x7 x8:Int):Option Int:=LA 324 Tryz.f324 [1,0,1,0] ⟨19,af [vL 0 .str x0,(1,.v (.str x1)),vI 7 x7,vI 8 x8],ai []⟩
theorem K6 (a0:List ByteArray) (a1:ByteArray):Gq a0 a1=Gq.a a0 a1 (a0.length:Int) 0:=
 (aa cfg 324 _).trans (by kernel_rfl)
theorem Gq.a_eq (x0:List ByteArray) (x1:ByteArray) (x7 x8:Int):Gq.a x0 x1 x7 x8=bif (decide (x8<x7))then(bif (ao x8 (x0.length))then(bif (bu x1 (rd (τ:= .str) x0 x8))then some x8 else Gq.a x0 x1 x7 (IntKind.wrap .i64 (x8+1)))else none)else some (-1):=
 (ak cfg 324 _ _ _).trans (by kernel_rfl)
noncomputable def QL (a0:List ByteArray) (a1:ByteArray):Option Bool:=ar cfg 286 [.v (.list .str a0),.v (.str a1)]
theorem K7 (a0:List ByteArray) (a1:ByteArray):QL a0 a1=(Gq a0 a1).bind fun r1=>some (decide (r1≥0)):=
 (aa cfg 286 _).trans (by kernel_rfl)
noncomputable def qn (a0:D9) (a1:Int):Option (List ByteArray):=ar cfg 287 [.agg [.str a0.1,.int .i64 a0.2.1,.list Y5 a0.2.2.1,.list (.pair .str .str) a0.2.2.2.1,.list Y6 a0.2.2.2.2.1,.list (.pair (.int .i64) .bool) a0.2.2.2.2.2],.v (.int .i64 a1)]
noncomputable def qn.a (x1:Int) (x2:D9) (x5:List ByteArray) (x11:List D6) (x12 x13:Int):Option (List ByteArray):=LA 287 Tryz.f287 [1,1,0,1,0] ⟨39,af [vI 1 x1,vP 2 319,(5,.v (.own 672)),vL 11 Y5 x11,vI 12 x12,vI 13 x13],ai [(319,.box [.str x2.1,.int .i64 x2.2.1,.list Y5 x2.2.2.1,.list (.pair .str .str) x2.2.2.2.1,.list Y6 x2.2.2.2.2.1,.list (.pair (.int .i64) .bool) x2.2.2.2.2.2]),(672,.rows 9 .str .no x5)]⟩
noncomputable def qn.b (x1:Int) (x5:List ByteArray) (x24:List D7) (x25 x26:Int):Option (List ByteArray):=LA 287 Tryz.f287 [1,1,1,0,1,0] ⟨39,af [vI 1 x1,(5,.v (.own 672)),vL 24 (.pair .str .str) x24,vI 25 x25,vI 26 x26],ai [(672,.rows 9 .str .no x5)]⟩
theorem K8 (a0:D9) (a1:Int):qn a0 a1=qn.a a1 a0 [] a0.2.2.1 (a0.2.2.1.length:Int) 0:=
 (aa cfg 287 _).trans (by kernel_rfl)
theorem qn.a_eq (x1:Int) (x2:D9) (x5:List ByteArray) (x11:List D6) (x12 x13:Int):qn.a x1 x2 x5 x11 x12 x13=bif (decide (x13<x12))then(bif (ao x13 (x11.length))then(bif (av ((x5.length)+([(rd (τ:=Y5) x11 x13).1].length)) 16)then qn.a x1 x2 (x5++[(rd (τ:=Y5) x11 x13).1]) x11 x12 (IntKind.wrap .i64 (x13+1))else none)else none)else qn.b x1 x5 x2.2.2.2.1 (x2.2.2.2.1.length:Int) 0:=
 (ak cfg 287 _ _ _).trans (by kernel_rfl)
theorem qn.b_eq (x1:Int) (x5:List ByteArray) (x24:List D7) (x25 x26:Int):qn.b x1 x5 x24 x25 x26=bif (decide (x26<x25))then(bif (ao x26 (x24.length))then(bif (av ((x5.length)+([(rd (τ:=(.pair .str .str)) x24 x26).1].length)) 16)then qn.b x1 (x5++[(rd (τ:=(.pair .str .str)) x24 x26).1]) x24 x25 (IntKind.wrap .i64 (x26+1))else none)else none)else(bif (decide (0≤0)&&decide (0≤x1)&&decide (x1≤(x5.length:Int)))then some ((x5.take (Int.toNat x1)).drop (Int.toNat 0))else none):=
 (ak cfg 287 _ _ _).trans (by kernel_rfl)
noncomputable def Py (a0:D9) (a1:ByteArray) (a2:Int):Option Int:=ar cfg 229 [.agg [.str a0.1,.int .i64 a0.2.1,.list Y5 a0.2.2.1,.list (.pair .str .str) a0.2.2.2.1,.list Y6 a0.2.2.2.2.1,.list (.pair (.int .i64) .bool) a0.2.2.2.2.2],.v (.str a1),.v (.int .i64 a2)]
theorem K9 (a0:D9) (a1:ByteArray) (a2:Int):Py a0 a1 a2=(n6 a1).bind fun r1=>bif (!r1)then some 3 else((qn a0 a2).bind fun r2=>(QL r2 a1).bind fun r3=>bif r3 then some 24 else some 0):=
 (aa cfg 229 _).trans (by kernel_rfl)
noncomputable def qV (a0:D9):Option (List Int):=ar cfg 289 [.agg [.str a0.1,.int .i64 a0.2.1,.list Y5 a0.2.2.1,.list (.pair .str .str) a0.2.2.2.1,.list Y6 a0.2.2.2.2.1,.list (.pair (.int .i64) .bool) a0.2.2.2.2.2]]
noncomputable def qV.a (x1:D9) (x3:List Int) (x9:List D6) (x10 x11:Int):Option (List Int):=LA 289 Tryz.f289 [1,1,0,1,0] ⟨39,af [vP 1 191,(3,.v (.own 416)),vL 9 Y5 x9,vI 10 x10,vI 11 x11],ai [(191,.box [.str x1.1,.int .i64 x1.2.1,.list Y5 x1.2.2.1,.list (.pair .str .str) x1.2.2.2.1,.list Y6 x1.2.2.2.2.1,.list (.pair (.int .i64) .bool) x1.2.2.2.2.2]),(416,.rows 3 (.int .i64) .no x3)]⟩
noncomputable def qV.b (x3:List Int) (x24:List D7) (x25 x26:Int):Option (List Int):=LA 289 Tryz.f289 [1,1,1,0,1,0] ⟨39,af [(3,.v (.own 416)),vL 24 (.pair .str .str) x24,vI 25 x25,vI 26 x26],ai [(416,.rows 3 (.int .i64) .no x3)]⟩
theorem La (a0:D9):qV a0=qV.a a0 [] a0.2.2.1 (a0.2.2.1.length:Int) 0:=
 (aa cfg 289 _).trans (by kernel_rfl)
theorem qV.a_eq (x1:D9) (x3:List Int) (x9:List D6) (x10 x11:Int):qV.a x1 x3 x9 x10 x11=bif (decide (x11<x10))then(bif (ao x11 (x9.length))then(bif (av ((x3.length)+([(IntKind.wrap .i64 ((((rd (τ:=Y5) x9 x11).2.2.2).size:Int).tdiv 4))].length)) 8)then qV.a x1 (x3++[(IntKind.wrap .i64 ((((rd (τ:=Y5) x9 x11).2.2.2).size:Int).tdiv 4))]) x9 x10 (IntKind.wrap .i64 (x11+1))else none)else none)else qV.b x3 x1.2.2.2.1 (x1.2.2.2.1.length:Int) 0:=
 (ak cfg 289 _ _ _).trans (by kernel_rfl)
theorem qV.b_eq (x3:List Int) (x24:List D7) (x25 x26:Int):qV.b x3 x24 x25 x26=bif (decide (x26<x25))then(bif (ao x26 (x24.length))then(bif (av ((x3.length)+([(IntKind.wrap .i64 ((((rd (τ:=(.pair .str .str)) x24 x26).2).size:Int).tdiv 8))].length)) 8)then qV.b (x3++[(IntKind.wrap .i64 ((((rd (τ:=(.pair .str .str)) x24 x26).2).size:Int).tdiv 8))]) x24 x25 (IntKind.wrap .i64 (x26+1))else none)else none)else some x3:=
 (ak cfg 289 _ _ _).trans (by kernel_rfl)
noncomputable def QM (a0:D9) (a1:Int):Option Int:=ar cfg 232 [.agg [.str a0.1,.int .i64 a0.2.1,.list Y5 a0.2.2.1,.list (.pair .str .str) a0.2.2.2.1,.list Y6 a0.2.2.2.2.1,.list (.pair (.int .i64) .bool) a0.2.2.2.2.2],.v (.int .i64 a1)]
theorem Lb (a0:D9) (a1:Int):QM a0 a1=bif (ao a1 (a0.2.2.2.2.1.length))then((qV a0).bind fun r1=>ax (fun kr14=>(fY ((rd (τ:=Y6) a0.2.2.2.2.1 a1).1) 0 (IntKind.wrap .i64 ((r1.length:Int)-1))).bind fun r2=>bif (!r2)then kr14 true else(bif (ao ((rd (τ:=Y6) a0.2.2.2.2.1 a1).1) (r1.length))then((fY ((rd (τ:=Y6) a0.2.2.2.2.1 a1).2.1) 0 (IntKind.wrap .i64 ((rd (τ:=(.int .i64)) r1 ((rd (τ:=Y6) a0.2.2.2.2.1 a1).1))-1))).bind fun r3=>kr14 (!r3))else none)) fun(r5:Bool)=>bif r5 then some 4 else(ax (fun kr13=>(fY ((rd (τ:=Y6) a0.2.2.2.2.1 a1).2.2.1) 1 9).bind fun r6=>bif (!r6)then kr13 true else kr13 (!((decide ((rd (τ:=Y6) a0.2.2.2.2.1 a1).2.2.1=9))==(decide ((rd (τ:=Y6) a0.2.2.2.2.1 a1).1≥(a0.2.2.1.length:Int)))))) fun(r8:Bool)=>bif r8 then some 26 else((n6 ((rd (τ:=Y6) a0.2.2.2.2.1 a1).2.2.2.1)).bind fun r9=>bif (!r9)then some 3 else((fY ((rd (τ:=Y6) a0.2.2.2.2.1 a1).2.2.2.2) (-2147483648) 2147483647).bind fun r10=>bif (!r10)then some 4 else(bif (decide (a1>0))then(bif (ao (IntKind.wrap .i64 (a1-1)) (a0.2.2.2.2.1.length))then(bif (decide ((rd (τ:=Y6) a0.2.2.2.2.1 a1).1< (rd (τ:=Y6) a0.2.2.2.2.1 (IntKind.wrap .i64 (a1-1))).1))then some 24 else(bif (decide ((rd (τ:=Y6) a0.2.2.2.2.1 a1).1=(rd (τ:=Y6) a0.2.2.2.2.1 (IntKind.wrap .i64 (a1-1))).1))then(bif (decide ((rd (τ:=Y6) a0.2.2.2.2.1 a1).2.1≤(rd (τ:=Y6) a0.2.2.2.2.1 (IntKind.wrap .i64 (a1-1))).2.1))then some 24 else some 0)else some 0))else none)else some 0)))))else none:=
 (aa cfg 232 _).trans (by kernel_rfl)
noncomputable def gE (a0:D9):Option (Int×Int):=ar cfg 168 [.agg [.str a0.1,.int .i64 a0.2.1,.list Y5 a0.2.2.1,.list (.pair .str .str) a0.2.2.2.1,.list Y6 a0.2.2.2.2.1,.list (.pair (.int .i64) .bool) a0.2.2.2.2.2]]
noncomputable def gE.a (x1:D9) (x53:List D6) (x54 x55:Int):Option (Int×Int):=LA 168 Tryz.f168 [1,1,0,1,0] ⟨165,af [vP 1 191,vL 53 Y5 x53,vI 54 x54,vI 55 x55],ai [(191,.box [.str x1.1,.int .i64 x1.2.1,.list Y5 x1.2.2.1,.list (.pair .str .str) x1.2.2.2.1,.list Y6 x1.2.2.2.2.1,.list (.pair (.int .i64) .bool) x1.2.2.2.2.2])]⟩
noncomputable def gE.b (x1:D9) (x84:List D7) (x85 x86:Int):Option (Int×Int):=LA 168 Tryz.f168 [1,1,1,0,1,0] ⟨165,af [vP 1 191,vL 84 (.pair .str .str) x84,vI 85 x85,vI 86 x86],ai [(191,.box [.str x1.1,.int .i64 x1.2.1,.list Y5 x1.2.2.1,.list (.pair .str .str) x1.2.2.2.1,.list Y6 x1.2.2.2.2.1,.list (.pair (.int .i64) .bool) x1.2.2.2.2.2])]⟩
noncomputable def gE.c (x1:D9) (x122 x123:Int):Option (Int×Int):=LA 168 Tryz.f168 [1,1,1,1,0,1,0] ⟨165,af [vP 1 191,vI 122 x122,vI 123 x123],ai [(191,.box [.str x1.1,.int .i64 x1.2.1,.list Y5 x1.2.2.1,.list (.pair .str .str) x1.2.2.2.1,.list Y6 x1.2.2.2.2.1,.list (.pair (.int .i64) .bool) x1.2.2.2.2.2])]⟩
noncomputable def gE.d (x1:D9) (x135:List (Int×Bool)) (x136 x137:Int):Option (Int×Int):=LA 168 Tryz.f168 [1,1,1,1,1,0,1,0] ⟨165,af [vP 1 191,vL 135 (.pair (.int .i64) .bool) x135,vI 136 x136,vI 137 x137],ai [(191,.box [.str x1.1,.int .i64 x1.2.1,.list Y5 x1.2.2.1,.list (.pair .str .str) x1.2.2.2.1,.list Y6 x1.2.2.2.2.1,.list (.pair (.int .i64) .bool) x1.2.2.2.2.2])]⟩
theorem Lc (a0:D9):gE a0=(n6 a0.1).bind fun r1=>bif (!r1)then some (0,3)else((fY a0.2.1 0 5).bind fun r2=>bif (!r2)then some (0,27)else(bif (decide ((a0.2.2.1.length:Int)=0))then some (0,5)else(bif (decide ((a0.2.2.1.length:Int)>4))then some (0,6)else(bif (decide ((a0.2.2.2.1.length:Int)>4))then some (0,6)else(bif (decide ((a0.2.2.2.2.1.length:Int)>32))then some (0,6)else(bif (decide ((a0.2.2.2.2.2.length:Int)>4))then some (0,6)else gE.a a0 a0.2.2.1 (a0.2.2.1.length:Int) 0)))))):=
 (aa cfg 168 _).trans (by kernel_rfl)
theorem gE.a_eq (x1:D9) (x53:List D6) (x54 x55:Int):gE.a x1 x53 x54 x55=bif (decide (x55<x54))then(bif (ao x55 (x53.length))then((Py x1 ((rd (τ:=Y5) x53 x55).1) x55).bind fun r33=>bif (!decide (r33=0))then some (x55,r33)else((OM ((rd (τ:=Y5) x53 x55).2.2.1)).bind fun r34=>bif (!r34)then some (x55,17)else((Pp ((rd (τ:=Y5) x53 x55).2.2.2)).bind fun r35=>bif (!r35)then some (x55,8)else gE.a x1 x53 x54 (IntKind.wrap .i64 (x55+1)))))else none)else gE.b x1 x1.2.2.2.1 (x1.2.2.2.1.length:Int) 0:=
 (ak cfg 168 _ _ _).trans (by kernel_rfl)
theorem gE.b_eq (x1:D9) (x84:List D7) (x85 x86:Int):gE.b x1 x84 x85 x86=bif (decide (x86<x85))then(bif (ao x86 (x84.length))then((Py x1 ((rd (τ:=(.pair .str .str)) x84 x86).1) (IntKind.wrap .i64 ((x1.2.2.1.length:Int)+x86))).bind fun r36=>bif (!decide (r36=0))then some (x86,r36)else((fY (((rd (τ:=(.pair .str .str)) x84 x86).2).size:Int) 8 64).bind fun r37=>bif (!r37)then some (x86,8)else(bif (!decide (((((rd (τ:=(.pair .str .str)) x84 x86).2).size:Int).tmod 8)=0))then some (x86,8)else gE.b x1 x84 x85 (IntKind.wrap .i64 (x86+1)))))else none)else gE.c x1 (x1.2.2.2.2.1.length:Int) 0:=
 (ak cfg 168 _ _ _).trans (by kernel_rfl)
theorem gE.c_eq (x1:D9) (x122 x123:Int):gE.c x1 x122 x123=bif (decide (x123<x122))then((QM x1 x123).bind fun r46=>bif (!decide (r46=0))then some (x123,r46)else gE.c x1 x122 (IntKind.wrap .i64 (x123+1)))else gE.d x1 x1.2.2.2.2.2 (x1.2.2.2.2.2.length:Int) 0:=
 (ak cfg 168 _ _ _).trans (by kernel_rfl)
theorem gE.d_eq (x1:D9) (x135:List (Int×Bool)) (x136 x137:Int):gE.d x1 x135 x136 x137=bif (decide (x137<x136))then(bif (ao x137 (x135.length))then((fY ((rd (τ:=(.pair (.int .i64) .bool)) x135 x137).1) 0 255).bind fun r47=>bif (!r47)then some (x137,4)else(bif (decide (x137>0))then(bif (ao (IntKind.wrap .i64 (x137-1)) (x1.2.2.2.2.2.length))then(bif (decide ((rd (τ:=(.pair (.int .i64) .bool)) x135 x137).1≤(rd (τ:=(.pair (.int .i64) .bool)) x1.2.2.2.2.2 (IntKind.wrap .i64 (x137-1))).1))then some (x137,24)else gE.d x1 x135 x136 (IntKind.wrap .i64 (x137+1)))else none)else gE.d x1 x135 x136 (IntKind.wrap .i64 (x137+1))))else none)else some (0,0):=
 (ak cfg 168 _ _ _).trans (by kernel_rfl)
noncomputable def OP (a0:D9):Option Bool:=ar cfg 105 [.agg [.str a0.1,.int .i64 a0.2.1,.list Y5 a0.2.2.1,.list (.pair .str .str) a0.2.2.2.1,.list Y6 a0.2.2.2.2.1,.list (.pair (.int .i64) .bool) a0.2.2.2.2.2]]
theorem Ld (a0:D9):OP a0=(gE a0).bind fun r1=>some (decide (r1.2=0)):=
 (aa cfg 105 _).trans (by kernel_rfl)
noncomputable def Rd (a0:Int×Bool) (a1:Int):Option Bool:=ar cfg 234 [.agg [.int .i64 a0.1,.bool a0.2],.v (.cptr (.int .i64) a1 0)]
theorem Lf (a0:Int×Bool) (a1:Int):Rd a0 a1=some (decide (a0.1=a1)):=
 (aa cfg 234 _).trans (by kernel_rfl)
noncomputable def Gr (c1_0:Int) (a0:List (Int×Bool)):Option Int:=ar cfg 233 [.v (.list (.pair (.int .i64) .bool) a0),.v (.fn 234 [.cref (.int .i64) c1_0])]
noncomputable def Gr.a (c1_0:Int) (x0:List (Int×Bool)) (x7 x8:Int):Option Int:=LA 233 Tryz.f233 [1,0,1,0] ⟨19,af [vL 0 (.pair (.int .i64) .bool) x0,(1,.v (.fn 234 [.cref (.int .i64) c1_0])),vI 7 x7,vI 8 x8],ai []⟩
theorem Lg (c1_0:Int) (a0:List (Int×Bool)):Gr c1_0 a0=Gr.a c1_0 a0 (a0.length:Int) 0:=
 (aa cfg 233 _).trans (by kernel_rfl)
theorem Gr.a_eq (c1_0:Int) (x0:List (Int×Bool)) (x7 x8:Int):Gr.a c1_0 x0 x7 x8=bif (decide (x8<x7))then(bif (ao x8 (x0.length))then((Rd (rd (τ:=(.pair (.int .i64) .bool)) x0 x8) c1_0).bind fun r1=>bif r1 then some x8 else Gr.a c1_0 x0 x7 (IntKind.wrap .i64 (x8+1)))else none)else some (-1):=
 (ak cfg 233 _ _ _).trans (by kernel_rfl)
noncomputable def Re (c1_0:Int) (a0:List (Int×Bool)):Option Bool:=ar cfg 169 [.v (.list (.pair (.int .i64) .bool) a0),.v (.fn 234 [.cref (.int .i64) c1_0])]
theorem Lh (c1_0:Int) (a0:List (Int×Bool)):Re c1_0 a0=(Gr c1_0 a0).bind fun r1=>some (decide (r1≥0)):=
 (aa cfg 169 _).trans (by kernel_rfl)
noncomputable def QN (a0:D9) (a1:Int):Option Bool:=ar cfg 171 [.agg [.str a0.1,.int .i64 a0.2.1,.list Y5 a0.2.2.1,.list (.pair .str .str) a0.2.2.2.1,.list Y6 a0.2.2.2.2.1,.list (.pair (.int .i64) .bool) a0.2.2.2.2.2],.v (.int .i64 a1)]
theorem Li (a0:D9) (a1:Int):QN a0 a1=(Re a1 a0.2.2.2.2.2).bind fun r1=>some r1:=
 (aa cfg 171 _).trans (by kernel_rfl)
noncomputable def Rf (a0:Int×Bool) (a1:D9):Option Bool:=ar cfg 170 [.agg [.int .i64 a0.1,.bool a0.2],.v (.cptr Y7 a1 0)]
theorem Lj (a0:Int×Bool) (a1:D9):Rf a0 a1=(QN a1 a0.1).bind fun r1=>some r1:=
 (aa cfg 170 _).trans (by kernel_rfl)
noncomputable def Gs (c1_0:D9) (a0:List (Int×Bool)):Option Int:=ar cfg 233 [.v (.list (.pair (.int .i64) .bool) a0),.v (.fn 170 [.cref Y7 c1_0])]
noncomputable def Gs.a (c1_0:D9) (x0:List (Int×Bool)) (x7 x8:Int):Option Int:=LA 233 Tryz.f233 [1,0,1,0] ⟨19,af [vL 0 (.pair (.int .i64) .bool) x0,(1,.v (.fn 170 [.cref Y7 c1_0])),vI 7 x7,vI 8 x8],ai []⟩
theorem Lk (c1_0:D9) (a0:List (Int×Bool)):Gs c1_0 a0=Gs.a c1_0 a0 (a0.length:Int) 0:=
 (aa cfg 233 _).trans (by kernel_rfl)
theorem Gs.a_eq (c1_0:D9) (x0:List (Int×Bool)) (x7 x8:Int):Gs.a c1_0 x0 x7 x8=bif (decide (x8<x7))then(bif (ao x8 (x0.length))then((Rf (rd (τ:=(.pair (.int .i64) .bool)) x0 x8) c1_0).bind fun r1=>bif r1 then some x8 else Gs.a c1_0 x0 x7 (IntKind.wrap .i64 (x8+1)))else none)else some (-1):=
 (ak cfg 233 _ _ _).trans (by kernel_rfl)
noncomputable def Rg (c1_0:D9) (a0:List (Int×Bool)):Option Bool:=ar cfg 169 [.v (.list (.pair (.int .i64) .bool) a0),.v (.fn 170 [.cref Y7 c1_0])]
theorem Ll (c1_0:D9) (a0:List (Int×Bool)):Rg c1_0 a0=(Gs c1_0 a0).bind fun r1=>some (decide (r1≥0)):=
 (aa cfg 169 _).trans (by kernel_rfl)
noncomputable def QO (a0 a1:D9):Option Bool:=ar cfg 106 [.agg [.str a0.1,.int .i64 a0.2.1,.list Y5 a0.2.2.1,.list (.pair .str .str) a0.2.2.2.1,.list Y6 a0.2.2.2.2.1,.list (.pair (.int .i64) .bool) a0.2.2.2.2.2],.agg [.str a1.1,.int .i64 a1.2.1,.list Y5 a1.2.2.1,.list (.pair .str .str) a1.2.2.2.1,.list Y6 a1.2.2.2.2.1,.list (.pair (.int .i64) .bool) a1.2.2.2.2.2]]
theorem Lm (a0 a1:D9):QO a0 a1=(Rg a1 a0.2.2.2.2.2).bind fun r1=>some r1:=
 (aa cfg 106 _).trans (by kernel_rfl)
noncomputable def Rh (a0:D0) (a1:ByteArray):Option Bool:=ar cfg 243 [.agg [.str a0.1,.int .i64 a0.2.1,.int .i64 a0.2.2.1,.int .i64 a0.2.2.2.1,.int .i64 a0.2.2.2.2.1,.int .i64 a0.2.2.2.2.2],.v (.cptr .str a1 0)]
theorem Ln (a0:D0) (a1:ByteArray):Rh a0 a1=some (bu a0.1 a1):=
 (aa cfg 243 _).trans (by kernel_rfl)
noncomputable def Gt (c1_0:ByteArray) (a0:List D0):Option Int:=ar cfg 242 [.v (.list Y0 a0),.v (.fn 243 [.cref .str c1_0])]
noncomputable def Gt.a (c1_0:ByteArray) (x0:List D0) (x7 x8:Int):Option Int:=LA 242 Tryz.f242 [1,0,1,0] ⟨19,af [vL 0 Y0 x0,(1,.v (.fn 243 [.cref .str c1_0])),vI 7 x7,vI 8 x8],ai []⟩
theorem Lo (c1_0:ByteArray) (a0:List D0):Gt c1_0 a0=Gt.a c1_0 a0 (a0.length:Int) 0:=
 (aa cfg 242 _).trans (by kernel_rfl)
theorem Gt.a_eq (c1_0:ByteArray) (x0:List D0) (x7 x8:Int):Gt.a c1_0 x0 x7 x8=bif (decide (x8<x7))then(bif (ao x8 (x0.length))then((Rh (rd (τ:=Y0) x0 x8) c1_0).bind fun r1=>bif r1 then some x8 else Gt.a c1_0 x0 x7 (IntKind.wrap .i64 (x8+1)))else none)else some (-1):=
 (ak cfg 242 _ _ _).trans (by kernel_rfl)
noncomputable def H8 (a0:List D0) (a1:ByteArray):Option Int:=ar cfg 174 [.v (.list Y0 a0),.v (.str a1)]
theorem Lq (a0:List D0) (a1:ByteArray):H8 a0 a1=(Gt a1 a0).bind fun r1=>some r1:=
 (aa cfg 174 _).trans (by kernel_rfl)
noncomputable def QP (a0:D0):Option Bool:=ar cfg 180 [.agg [.str a0.1,.int .i64 a0.2.1,.int .i64 a0.2.2.1,.int .i64 a0.2.2.2.1,.int .i64 a0.2.2.2.2.1,.int .i64 a0.2.2.2.2.2]]
theorem Lr (a0:D0):QP a0=(n6 a0.1).bind fun r1=>bif r1 then((Pq a0.2.2.1).bind fun r2=>bif r2 then((fY a0.2.2.2.1 1 1024).bind fun r3=>bif r3 then((fY a0.2.2.2.2.2 0 6).bind fun r4=>bif r4 then(bif (decide (a0.2.1=1))then((OM a0.2.2.2.2.1).bind fun r5=>bif r5 then some true else(bif (decide (a0.2.1=2))then some (decide (a0.2.2.2.2.1=0))else some false))else(bif (decide (a0.2.1=2))then some (decide (a0.2.2.2.2.1=0))else some false))else some false)else some false)else some false)else some false:=
 (aa cfg 180 _).trans (by kernel_rfl)
noncomputable def zk (a0:List D0):Option Bool:=ar cfg 111 [.v (.list Y0 a0)]
noncomputable def zk.a (x0 x8:List D0) (x9 x10:Int):Option Bool:=LA 111 Tryz.f111 [1,1,0,1,0] ⟨28,af [vL 0 Y0 x0,vL 8 Y0 x8,vI 9 x9,vI 10 x10],ai []⟩
theorem Ls (a0:List D0):zk a0=bif (decide ((a0.length:Int)>64))then some false else zk.a a0 a0 (a0.length:Int) 0:=
 (aa cfg 111 _).trans (by kernel_rfl)
theorem zk.a_eq (x0 x8:List D0) (x9 x10:Int):zk.a x0 x8 x9 x10=bif (decide (x10<x9))then(bif (ao x10 (x8.length))then((QP (rd (τ:=Y0) x8 x10)).bind fun r1=>bif (!r1)then some false else(bif (decide (0≤0)&&decide (0≤x10)&&decide (x10≤(x0.length:Int)))then((H8 ((x0.take (Int.toNat x10)).drop (Int.toNat 0)) ((rd (τ:=Y0) x8 x10).1)).bind fun r2=>bif (decide (r2≥0))then some false else zk.a x0 x8 x9 (IntKind.wrap .i64 (x10+1)))else none))else none)else some true:=
 (ak cfg 111 _ _ _).trans (by kernel_rfl)
noncomputable def Pz (a0:Int×Int×Int):Option Bool:=ar cfg 235 [.agg [.int .i64 a0.1,.int .i64 a0.2.1,.int .i64 a0.2.2]]
theorem Lt (a0:Int×Int×Int):Pz a0=(fY a0.1 0 1048575).bind fun r1=>bif r1 then((fY a0.2.1 0 (IntKind.wrap .i64 (1048576-a0.1))).bind fun r2=>bif r2 then((fY a0.2.2 a0.1 (IntKind.wrap .i64 (a0.1+a0.2.1))).bind fun r3=>bif r3 then(bif (decide ((a0.1.tmod 8)=0))then(bif (decide ((a0.2.1.tmod 8)=0))then some (decide ((a0.2.2.tmod 8)=0))else some false)else some false)else some false)else some false)else some false:=
 (aa cfg 235 _).trans (by kernel_rfl)
noncomputable def qo (a0:l6):Option Int:=ar cfg 236 [.v (.cptr og a0 0)]
noncomputable def qo.a (x0:l6) (x12:List D6) (x13 x14:Int):Option Int:=LA 236 Tryz.f236 [1,0,1,0] ⟨74,af [(0,.v (.cptr og x0 0)),vL 12 Y5 x12,vI 13 x13,vI 14 x14],ai []⟩
noncomputable def qo.b (x0:l6) (x59:List D7) (x60 x61:Int):Option Int:=LA 236 Tryz.f236 [1,1,0,1,0] ⟨74,af [(0,.v (.cptr og x0 0)),vL 59 (.pair .str .str) x59,vI 60 x60,vI 61 x61],ai []⟩
theorem Lu (a0:l6):qo a0=qo.a a0 a0.2.2.2.2.1 (a0.2.2.2.2.1.length:Int) 0:=
 (aa cfg 236 _).trans (by kernel_rfl)
theorem qo.a_eq (x0:l6) (x12:List D6) (x13 x14:Int):qo.a x0 x12 x13 x14=bif (decide (x14<x13))then(bif (ao x14 (x12.length))then((H8 x0.2.1 ((rd (τ:=Y5) x12 x14).1)).bind fun r1=>ax (fun kr13=>bif (rd (τ:=Y5) x12 x14).2.1 then kr13 (decide (r1<0))else kr13 false) fun(r2:Bool)=>bif r2 then some 23 else(ax (fun kr10=>bif (rd (τ:=Y5) x12 x14).2.1 then(bif (ao r1 (x0.2.1.length))then kr10 (!decide ((rd (τ:=Y0) x0.2.1 r1).2.1=1))else none)else kr10 false) fun(r4:Bool)=>bif r4 then some 26 else(bif (!(rd (τ:=Y5) x12 x14).2.1)then(bif (decide (r1≥0))then some 24 else qo.a x0 x12 x13 (IntKind.wrap .i64 (x14+1)))else qo.a x0 x12 x13 (IntKind.wrap .i64 (x14+1)))))else none)else qo.b x0 x0.2.2.2.2.2.1 (x0.2.2.2.2.2.1.length:Int) 0:=
 (ak cfg 236 _ _ _).trans (by kernel_rfl)
theorem qo.b_eq (x0:l6) (x59:List D7) (x60 x61:Int):qo.b x0 x59 x60 x61=bif (decide (x61<x60))then(bif (ao x61 (x59.length))then((H8 x0.2.1 ((rd (τ:=(.pair .str .str)) x59 x61).1)).bind fun r18=>bif (decide (r18≥0))then some 24 else qo.b x0 x59 x60 (IntKind.wrap .i64 (x61+1)))else none)else some 0:=
 (ak cfg 236 _ _ _).trans (by kernel_rfl)
noncomputable def PA (a0:Int×Int×Int) (a1:Int):Option Q4:=ar cfg 237 [.agg [.int .i64 a0.1,.int .i64 a0.2.1,.int .i64 a0.2.2],.v (.int .i64 a1)]
theorem Lv (a0:Int×Int×Int) (a1:Int):PA a0 a1=bif (decide ((IntKind.wrap .i64 ((IntKind.wrap .i64 ((IntKind.wrap .i64 (a1+7)).tdiv 8))*8))>(IntKind.wrap .i64 ((IntKind.wrap .i64 (a0.1+a0.2.1))-a0.2.2))))then some (a0,0,false)else some ((a0.1,a0.2.1,(IntKind.wrap .i64 (a0.2.2+(IntKind.wrap .i64 ((IntKind.wrap .i64 ((IntKind.wrap .i64 (a1+7)).tdiv 8))*8))))),a0.2.2,true):=
 (aa cfg 237 _).trans (by kernel_rfl)
noncomputable def ws (a0 a1:Int):Option ByteArray:=ar cfg 247 [.v (.int .i64 a0),.v (.int .i64 a1)]
noncomputable def ws.a (x0 x1:Int) (x5:List Int):Option ByteArray:=LA 247 Tryz.f247 [1,1,0,0] ⟨19,af [vI 0 x0,vI 1 x1,(5,.v (.own 672))],ai [(672,.rows 5 (.int .u8) .no x5)]⟩
theorem Lw (a0 a1:Int):ws a0 a1=ws.a a0 a1 []:=
 (aa cfg 247 _).trans (by kernel_rfl)
theorem ws.a_eq (x0 x1:Int) (x5:List Int):ws.a x0 x1 x5=bif (decide (x1>0))then(bif (av ((x5.length)+([(IntKind.wrap .u8 (x0))].length)) 1)then ws.a (lr .i64 x0 8) (IntKind.wrap .i64 (x1-1)) (x5++[(IntKind.wrap .u8 (x0))])else none)else some (aI x5):=
 (ak cfg 247 _ _ _).trans (by kernel_rfl)
noncomputable def qp (a0:l6) (a1:ByteArray):Option (Int×Bool):=ar cfg 290 [.v (.cptr og a0 0),.v (.str a1)]
noncomputable def qp.a (x0:l6) (x1:ByteArray) (x15:List D6) (x16 x17:Int):Option (Int×Bool):=LA 290 Tryz.f290 [1,0,1,0] ⟨80,af [(0,.v (.cptr og x0 0)),(1,.v (.str x1)),vL 15 Y5 x15,vI 16 x16,vI 17 x17],ai []⟩
noncomputable def qp.b (x0:l6) (x1:ByteArray) (x44:List D7) (x45 x46:Int):Option (Int×Bool):=LA 290 Tryz.f290 [1,1,0,1,0] ⟨80,af [(0,.v (.cptr og x0 0)),(1,.v (.str x1)),vL 44 (.pair .str .str) x44,vI 45 x45,vI 46 x46],ai []⟩
theorem Lx (a0:l6) (a1:ByteArray):qp a0 a1=qp.a a0 a1 a0.2.2.2.2.1 (a0.2.2.2.2.1.length:Int) 0:=
 (aa cfg 290 _).trans (by kernel_rfl)
theorem qp.a_eq (x0:l6) (x1:ByteArray) (x15:List D6) (x16 x17:Int):qp.a x0 x1 x15 x16 x17=bif (decide (x17<x16))then(bif (ao x17 (x15.length))then(bif (bu ((rd (τ:=Y5) x15 x17).1) x1)then(bif (!(rd (τ:=Y5) x15 x17).2.1)then(bif (ao x17 (x0.1.1.length))then some ((rd (τ:=(.int .i64)) x0.1.1 x17),true)else none)else qp.a x0 x1 x15 x16 (IntKind.wrap .i64 (x17+1)))else qp.a x0 x1 x15 x16 (IntKind.wrap .i64 (x17+1)))else none)else qp.b x0 x1 x0.2.2.2.2.2.1 (x0.2.2.2.2.2.1.length:Int) 0:=
 (ak cfg 290 _ _ _).trans (by kernel_rfl)
theorem qp.b_eq (x0:l6) (x1:ByteArray) (x44:List D7) (x45 x46:Int):qp.b x0 x1 x44 x45 x46=bif (decide (x46<x45))then(bif (ao x46 (x44.length))then(bif (bu ((rd (τ:=(.pair .str .str)) x44 x46).1) x1)then(bif (ao x46 (x0.1.2.2.1.length))then some ((rd (τ:=(.int .i64)) x0.1.2.2.1 x46),true)else none)else qp.b x0 x1 x44 x45 (IntKind.wrap .i64 (x46+1)))else none)else((H8 x0.2.1 x1).bind fun r5=>bif (decide (r5<0))then some (0,false)else(bif (ao r5 (x0.2.1.length))then some ((rd (τ:=Y0) x0.2.1 r5).2.2.1,true)else none)):=
 (ak cfg 290 _ _ _).trans (by kernel_rfl)
noncomputable def PB (a0:ByteArray) (a1:Int) (a2:ByteArray):Option ByteArray:=ar cfg 291 [.v (.str a0),.v (.int .i64 a1),.v (.str a2)]
theorem Ly (a0:ByteArray) (a1:Int) (a2:ByteArray):PB a0 a1 a2=bif (decide (0≤0)&&decide (0≤a1)&&decide (a1≤(a0.size:Int)))then(bif (decide ((a0.extract (Int.toNat 0) (Int.toNat a1)).size+a2.size≤9223372036854775807))then(bif (decide (0≤(IntKind.wrap .i64 (a1+(a2.size:Int))))&&decide ((IntKind.wrap .i64 (a1+(a2.size:Int)))≤(a0.size:Int))&&decide ((a0.size:Int)≤(a0.size:Int)))then(bif (decide (((a0.extract (Int.toNat 0) (Int.toNat a1))++a2).size+(a0.extract (Int.toNat (IntKind.wrap .i64 (a1+(a2.size:Int)))) (Int.toNat (a0.size:Int))).size≤9223372036854775807))then some (((a0.extract (Int.toNat 0) (Int.toNat a1))++a2)++(a0.extract (Int.toNat (IntKind.wrap .i64 (a1+(a2.size:Int)))) (Int.toNat (a0.size:Int))))else none)else none)else none)else none:=
 (aa cfg 291 _).trans (by kernel_rfl)
noncomputable def OQ (a0:Int):Option Int:=ar cfg 342 [.v (.int .i64 a0)]
theorem Lz (a0:Int):OQ a0=some (sQ .i64 (IntKind.wrap .i64 (a0+2048)) 4095):=
 (aa cfg 342 _).trans (by kernel_rfl)
noncomputable def NP (a0:Int):Option Int:=ar cfg 343 [.v (.int .i64 a0)]
theorem LB (a0:Int):NP a0=(OQ a0).bind fun r1=>some (IntKind.wrap .i64 (a0-r1)):=
 (aa cfg 343 _).trans (by kernel_rfl)
noncomputable def PC (a0:bQ):Option Bool:=ar cfg 344 [.agg [.int .i64 a0.1,.int .i64 a0.2.1,.int .i64 a0.2.2.1,.int .i64 a0.2.2.2.1,.int .i64 a0.2.2.2.2]]
theorem LC (a0:bQ):PC a0=(ON a0.1).bind fun r1=>bif (decide (r1.1=3))then some (!decide (a0.1=4))else some false:=
 (aa cfg 344 _).trans (by kernel_rfl)
noncomputable def QQ (a0:bQ) (a1 a2 a3:Int):Option (Int×Bool):=ar cfg 325 [.agg [.int .i64 a0.1,.int .i64 a0.2.1,.int .i64 a0.2.2.1,.int .i64 a0.2.2.2.1,.int .i64 a0.2.2.2.2],.v (.int .i64 a1),.v (.int .i64 a2),.v (.int .i64 a3)]
theorem LD (a0:bQ) (a1 a2 a3:Int):QQ a0 a1 a2 a3=bif (decide (a1=1))then((OQ a2).bind fun r1=>some (r1,(decide (a0.1=1))))else(bif (decide (a1=2))then((NP a2).bind fun r2=>(PC a0).bind fun r3=>some (r2,r3))else(bif (decide (a1=3))then((NP a2).bind fun r4=>(NO a0.1).bind fun r5=>some (r4,r5))else(bif (decide (a1=4))then((OQ (IntKind.wrap .i64 (a2-a3))).bind fun r6=>some (r6,(decide (a0.1=2))))else(bif (decide (a1=5))then((NP (IntKind.wrap .i64 (a2-(IntKind.wrap .i64 (a3-4))))).bind fun r7=>(PC a0).bind fun r8=>some (r7,r8))else(bif (decide (a1=6))then((NP (IntKind.wrap .i64 (a2-(IntKind.wrap .i64 (a3-4))))).bind fun r9=>(NO a0.1).bind fun r10=>some (r9,r10))else(bif (decide (a1=7))then some ((IntKind.wrap .i64 (a2-a3)),(decide (a0.1=3)))else((Px a0.1).bind fun r11=>some ((IntKind.wrap .i64 (a2-a3)),r11)))))))):=
 (aa cfg 325 _).trans (by kernel_rfl)
noncomputable def QR (a0 a1:Int):Option Bool:=ar cfg 326 [.v (.int .i64 a0),.v (.int .i64 a1)]
theorem LE (a0 a1:Int):QR a0 a1=bif (decide (a0=1))then((fY a1 (-2147483648) 2147479552).bind fun r1=>bif r1 then some (decide ((a1.tmod 4096)=0))else some false)else(bif (decide (a0=2))then((fY a1 (-1048576) 1048574).bind fun r4=>bif r4 then some (decide ((a1.tmod 2)=0))else some false)else(ax (fun kr14=>bif (decide (a0=3))then kr14 (decide (a0=3))else kr14 (decide (a0=5))) fun(r7:Bool)=>bif r7 then((fY a1 (-2048) 2047).bind fun r8=>some r8)else(bif (decide (a0=4))then((fY a1 (-4096) 4094).bind fun r9=>bif r9 then some (decide ((a1.tmod 2)=0))else some false)else(bif (decide (a0=6))then((fY a1 0 63).bind fun r12=>some r12)else(bif (decide (a0=7))then((fY a1 0 31).bind fun r13=>some r13)else some (decide (a1=0))))))):=
 (aa cfg 326 _).trans (by kernel_rfl)
noncomputable def QS (a0 a1 a2 a3:Int):Option (Int×Int):=ar cfg 292 [.v (.int .i64 a0),.v (.int .i64 a1),.v (.int .i64 a2),.v (.int .i64 a3)]
theorem LF (a0 a1 a2 a3:Int):QS a0 a1 a2 a3=(l5 a0).bind fun r1=>bif (!r1.2)then some (0,10)else((QQ r1.1 a1 a2 a3).bind fun r2=>bif (!r2.2)then some (0,26)else((ON r1.1.1).bind fun r3=>(QR r3.1 r2.1).bind fun r4=>bif (!r4)then some (0,25)else((wr (r1.1.1,r1.1.2.1,r1.1.2.2.1,r1.1.2.2.2.1,r2.1)).bind fun r5=>some (r5,0)))):=
 (aa cfg 292 _).trans (by kernel_rfl)
noncomputable def QT (a0:l6) (a1:D8):Option RE:=ar cfg 238 [.agg [.list (.int .i64) a0.1.1,.list .str a0.1.2.1,.list (.int .i64) a0.1.2.2.1,.list .str a0.1.2.2.2,.list Y0 a0.2.1,.str a0.2.2.1,.int .i64 a0.2.2.2.1,.list Y5 a0.2.2.2.2.1,.list (.pair .str .str) a0.2.2.2.2.2.1,.list Y6 a0.2.2.2.2.2.2.1,.list (.pair (.int .i64) .bool) a0.2.2.2.2.2.2.2],.agg [.int .i64 a1.1,.int .i64 a1.2.1,.int .i64 a1.2.2.1,.str a1.2.2.2.1,.int .i64 a1.2.2.2.2]]
theorem LG (a0:l6) (a1:D8):QT a0 a1=(qp a0 a1.2.2.2.1).bind fun r1=>bif (!r1.2)then some (23,a0)else(bif (decide ((IntKind.wrap .i64 (a1.1-(a0.2.2.2.2.1.length:Int)))≥0))then(bif (ao (IntKind.wrap .i64 (a1.1-(a0.2.2.2.2.1.length:Int))) (a0.1.2.2.2.length))then((ws (IntKind.wrap .i64 (r1.1+a1.2.2.2.2)) 8).bind fun r2=>(PB (rd (τ:= .str) a0.1.2.2.2 (IntKind.wrap .i64 (a1.1-(a0.2.2.2.2.1.length:Int)))) (IntKind.wrap .i64 (8*a1.2.1)) r2).bind fun r3=>bif (ao (IntKind.wrap .i64 (a1.1-(a0.2.2.2.2.1.length:Int))) (a0.1.2.2.2.length))then(letB (a0.1.2.2.2.set (Int.toNat (IntKind.wrap .i64 (a1.1-(a0.2.2.2.2.1.length:Int)))) r3) fun r4=>some (0,(a0.1.1,a0.1.2.1,a0.1.2.2.1,r4),a0.2))else none)else none)else(bif (ao a1.1 (a0.1.2.1.length))then(bif (decide (0≤(IntKind.wrap .i64 (4*a1.2.1)))&&decide ((IntKind.wrap .i64 (4*a1.2.1))≤(IntKind.wrap .i64 ((IntKind.wrap .i64 (4*a1.2.1))+4)))&&decide ((IntKind.wrap .i64 ((IntKind.wrap .i64 (4*a1.2.1))+4))≤((rd (τ:= .str) a0.1.2.1 a1.1).size:Int)))then((zj ((rd (τ:= .str) a0.1.2.1 a1.1).extract (Int.toNat (IntKind.wrap .i64 (4*a1.2.1))) (Int.toNat (IntKind.wrap .i64 ((IntKind.wrap .i64 (4*a1.2.1))+4))))).bind fun r5=>bif (ao a1.1 (a0.1.1.length))then((QS r5 a1.2.2.1 (IntKind.wrap .i64 (r1.1+a1.2.2.2.2)) (IntKind.wrap .i64 ((rd (τ:=(.int .i64)) a0.1.1 a1.1)+(IntKind.wrap .i64 (4*a1.2.1))))).bind fun r6=>bif (decide (r6.2=0))then((ws r6.1 4).bind fun r7=>(PB (rd (τ:= .str) a0.1.2.1 a1.1) (IntKind.wrap .i64 (4*a1.2.1)) r7).bind fun r8=>bif (ao a1.1 (a0.1.2.1.length))then some (r6.2,(a0.1.1,(a0.1.2.1.set (Int.toNat a1.1) r8),a0.1.2.2),a0.2)else none)else some (r6.2,a0))else none)else none)else none)):=
 (aa cfg 238 _).trans (by kernel_rfl)
noncomputable def nk (a0:l6):Option (List Int):=ar cfg 239 [.v (.cptr og a0 0)]
noncomputable def nk.a (x0:l6) (x3:List Int) (x11:List D0) (x12 x13:Int):Option (List Int):=LA 239 Tryz.f239 [1,1,0,1,0] ⟨53,af [(0,.v (.cptr og x0 0)),(3,.v (.own 416)),vL 11 Y0 x11,vI 12 x12,vI 13 x13],ai [(416,.rows 3 (.int .i64) .no x3)]⟩
noncomputable def nk.b (x0:l6) (x3:List Int) (x30:List D6) (x31 x32:Int):Option (List Int):=LA 239 Tryz.f239 [1,1,1,0,1,0] ⟨53,af [(0,.v (.cptr og x0 0)),(3,.v (.own 416)),vL 30 Y5 x30,vI 31 x31,vI 32 x32],ai [(416,.rows 3 (.int .i64) .no x3)]⟩
theorem LH (a0:l6):nk a0=nk.a a0 [] a0.2.1 (a0.2.1.length:Int) 0:=
 (aa cfg 239 _).trans (by kernel_rfl)
theorem nk.a_eq (x0:l6) (x3:List Int) (x11:List D0) (x12 x13:Int):nk.a x0 x3 x11 x12 x13=bif (decide (x13<x12))then(bif (ao x13 (x11.length))then(bif (decide ((rd (τ:=Y0) x11 x13).2.1=1))then(bif (av ((x3.length)+([(rd (τ:=Y0) x11 x13).2.2.1].length)) 8)then nk.a x0 (x3++[(rd (τ:=Y0) x11 x13).2.2.1]) x11 x12 (IntKind.wrap .i64 (x13+1))else none)else nk.a x0 x3 x11 x12 (IntKind.wrap .i64 (x13+1)))else none)else nk.b x0 x3 x0.2.2.2.2.1 (x0.2.2.2.2.1.length:Int) 0:=
 (ak cfg 239 _ _ _).trans (by kernel_rfl)
theorem nk.b_eq (x0:l6) (x3:List Int) (x30:List D6) (x31 x32:Int):nk.b x0 x3 x30 x31 x32=bif (decide (x32<x31))then(bif (ao x32 (x30.length))then(bif (!(rd (τ:=Y5) x30 x32).2.1)then(bif (ao x32 (x0.1.1.length))then(bif (av ((x3.length)+([(rd (τ:=(.int .i64)) x0.1.1 x32)].length)) 8)then nk.b x0 (x3++[(rd (τ:=(.int .i64)) x0.1.1 x32)]) x30 x31 (IntKind.wrap .i64 (x32+1))else none)else none)else nk.b x0 x3 x30 x31 (IntKind.wrap .i64 (x32+1)))else none)else some x3:=
 (ak cfg 239 _ _ _).trans (by kernel_rfl)
noncomputable def dV (a0:List D0) (a1 a2:Int×Int×Int) (a3:D9):Option Gy:=ar cfg 172 [.v (.list Y0 a0),.agg [.int .i64 a1.1,.int .i64 a1.2.1,.int .i64 a1.2.2],.agg [.int .i64 a2.1,.int .i64 a2.2.1,.int .i64 a2.2.2],.agg [.str a3.1,.int .i64 a3.2.1,.list Y5 a3.2.2.1,.list (.pair .str .str) a3.2.2.2.1,.list Y6 a3.2.2.2.2.1,.list (.pair (.int .i64) .bool) a3.2.2.2.2.2]]
noncomputable def dV.a (x5 x6:Int×Int×Int) (x7:D9) (x8:bX) (x9 x10:Int×Int×Int) (x12:l6) (x13:Int) (x62:List D6) (x63 x64:Int):Option Gy:=LA 172 Tryz.f172 [1,1,1,1,1,0,1,0] ⟨219,af [vP 5 703,vP 6 831,vP 7 959,vP 8 1087,vP 9 1215,vP 10 1343,vP 12 1599,vI 13 x13,vL 62 Y5 x62,vI 63 x63,vI 64 x64],ai [(703,.box [.int .i64 x5.1,.int .i64 x5.2.1,.int .i64 x5.2.2]),(831,.box [.int .i64 x6.1,.int .i64 x6.2.1,.int .i64 x6.2.2]),(959,.box [.str x7.1,.int .i64 x7.2.1,.list Y5 x7.2.2.1,.list (.pair .str .str) x7.2.2.2.1,.list Y6 x7.2.2.2.2.1,.list (.pair (.int .i64) .bool) x7.2.2.2.2.2]),(1056,.rows 3 (.int .i64) .no x8.1),(1057,.rows 9 .str .no x8.2.1),(1058,.rows 3 (.int .i64) .no x8.2.2.1),(1059,.rows 9 .str .no x8.2.2.2),(1087,.box [.own 1056,.own 1057,.own 1058,.own 1059]),(1215,.box [.int .i64 x9.1,.int .i64 x9.2.1,.int .i64 x9.2.2]),(1343,.box [.int .i64 x10.1,.int .i64 x10.2.1,.int .i64 x10.2.2]),(1568,.rows 3 (.int .i64) .no x12.1.1),(1569,.rows 9 .str .no x12.1.2.1),(1570,.rows 3 (.int .i64) .no x12.1.2.2.1),(1571,.rows 9 .str .no x12.1.2.2.2),(1599,.box [.own 1568,.own 1569,.own 1570,.own 1571,.list Y0 x12.2.1,.str x12.2.2.1,.int .i64 x12.2.2.2.1,.list Y5 x12.2.2.2.2.1,.list (.pair .str .str) x12.2.2.2.2.2.1,.list Y6 x12.2.2.2.2.2.2.1,.list (.pair (.int .i64) .bool) x12.2.2.2.2.2.2.2])]⟩
noncomputable def dV.b (x5 x6:Int×Int×Int) (x7:D9) (x8:bX) (x9 x10:Int×Int×Int) (x12:l6) (x13:Int) (x111:List D7) (x112 x113:Int):Option Gy:=LA 172 Tryz.f172 [1,1,1,1,1,1,0,1,0] ⟨219,af [vP 5 703,vP 6 831,vP 7 959,vP 8 1087,vP 9 1215,vP 10 1343,vP 12 1599,vI 13 x13,vL 111 (.pair .str .str) x111,vI 112 x112,vI 113 x113],ai [(703,.box [.int .i64 x5.1,.int .i64 x5.2.1,.int .i64 x5.2.2]),(831,.box [.int .i64 x6.1,.int .i64 x6.2.1,.int .i64 x6.2.2]),(959,.box [.str x7.1,.int .i64 x7.2.1,.list Y5 x7.2.2.1,.list (.pair .str .str) x7.2.2.2.1,.list Y6 x7.2.2.2.2.1,.list (.pair (.int .i64) .bool) x7.2.2.2.2.2]),(1056,.rows 3 (.int .i64) .no x8.1),(1057,.rows 9 .str .no x8.2.1),(1058,.rows 3 (.int .i64) .no x8.2.2.1),(1059,.rows 9 .str .no x8.2.2.2),(1087,.box [.own 1056,.own 1057,.own 1058,.own 1059]),(1215,.box [.int .i64 x9.1,.int .i64 x9.2.1,.int .i64 x9.2.2]),(1343,.box [.int .i64 x10.1,.int .i64 x10.2.1,.int .i64 x10.2.2]),(1568,.rows 3 (.int .i64) .no x12.1.1),(1569,.rows 9 .str .no x12.1.2.1),(1570,.rows 3 (.int .i64) .no x12.1.2.2.1),(1571,.rows 9 .str .no x12.1.2.2.2),(1599,.box [.own 1568,.own 1569,.own 1570,.own 1571,.list Y0 x12.2.1,.str x12.2.2.1,.int .i64 x12.2.2.2.1,.list Y5 x12.2.2.2.2.1,.list (.pair .str .str) x12.2.2.2.2.2.1,.list Y6 x12.2.2.2.2.2.2.1,.list (.pair (.int .i64) .bool) x12.2.2.2.2.2.2.2])]⟩
noncomputable def dV.c (x5 x6:Int×Int×Int) (x7:D9) (x8:bX) (x9 x10:Int×Int×Int) (x12:l6) (x13:Int) (x160:List D8) (x161 x162:Int):Option Gy:=LA 172 Tryz.f172 [1,1,1,1,1,1,1,0,1,0] ⟨219,af [vP 5 703,vP 6 831,vP 7 959,vP 8 1087,vP 9 1215,vP 10 1343,vP 12 1599,vI 13 x13,vL 160 Y6 x160,vI 161 x161,vI 162 x162],ai [(703,.box [.int .i64 x5.1,.int .i64 x5.2.1,.int .i64 x5.2.2]),(831,.box [.int .i64 x6.1,.int .i64 x6.2.1,.int .i64 x6.2.2]),(959,.box [.str x7.1,.int .i64 x7.2.1,.list Y5 x7.2.2.1,.list (.pair .str .str) x7.2.2.2.1,.list Y6 x7.2.2.2.2.1,.list (.pair (.int .i64) .bool) x7.2.2.2.2.2]),(1056,.rows 3 (.int .i64) .no x8.1),(1057,.rows 9 .str .no x8.2.1),(1058,.rows 3 (.int .i64) .no x8.2.2.1),(1059,.rows 9 .str .no x8.2.2.2),(1087,.box [.own 1056,.own 1057,.own 1058,.own 1059]),(1215,.box [.int .i64 x9.1,.int .i64 x9.2.1,.int .i64 x9.2.2]),(1343,.box [.int .i64 x10.1,.int .i64 x10.2.1,.int .i64 x10.2.2]),(1568,.rows 3 (.int .i64) .no x12.1.1),(1569,.rows 9 .str .no x12.1.2.1),(1570,.rows 3 (.int .i64) .no x12.1.2.2.1),(1571,.rows 9 .str .no x12.1.2.2.2),(1599,.box [.own 1568,.own 1569,.own 1570,.own 1571,.list Y0 x12.2.1,.str x12.2.2.1,.int .i64 x12.2.2.2.1,.list Y5 x12.2.2.2.2.1,.list (.pair .str .str) x12.2.2.2.2.2.1,.list Y6 x12.2.2.2.2.2.2.1,.list (.pair (.int .i64) .bool) x12.2.2.2.2.2.2.2])]⟩
noncomputable def dV.d (x5 x6:Int×Int×Int) (x8:bX) (x9 x10:Int×Int×Int) (x12:l6) (x13:Int) (x173:List D6) (x174 x175:Int):Option Gy:=LA 172 Tryz.f172 [1,1,1,1,1,1,1,1,0,1,0] ⟨219,af [vP 5 703,vP 6 831,vP 8 1087,vP 9 1215,vP 10 1343,vP 12 1599,vI 13 x13,vL 173 Y5 x173,vI 174 x174,vI 175 x175],ai [(703,.box [.int .i64 x5.1,.int .i64 x5.2.1,.int .i64 x5.2.2]),(831,.box [.int .i64 x6.1,.int .i64 x6.2.1,.int .i64 x6.2.2]),(1056,.rows 3 (.int .i64) .no x8.1),(1057,.rows 9 .str .no x8.2.1),(1058,.rows 3 (.int .i64) .no x8.2.2.1),(1059,.rows 9 .str .no x8.2.2.2),(1087,.box [.own 1056,.own 1057,.own 1058,.own 1059]),(1215,.box [.int .i64 x9.1,.int .i64 x9.2.1,.int .i64 x9.2.2]),(1343,.box [.int .i64 x10.1,.int .i64 x10.2.1,.int .i64 x10.2.2]),(1568,.rows 3 (.int .i64) .no x12.1.1),(1569,.rows 9 .str .no x12.1.2.1),(1570,.rows 3 (.int .i64) .no x12.1.2.2.1),(1571,.rows 9 .str .no x12.1.2.2.2),(1599,.box [.own 1568,.own 1569,.own 1570,.own 1571,.list Y0 x12.2.1,.str x12.2.2.1,.int .i64 x12.2.2.2.1,.list Y5 x12.2.2.2.2.1,.list (.pair .str .str) x12.2.2.2.2.2.1,.list Y6 x12.2.2.2.2.2.2.1,.list (.pair (.int .i64) .bool) x12.2.2.2.2.2.2.2])]⟩
theorem LI (a0:List D0) (a1 a2:Int×Int×Int) (a3:D9):dV a0 a1 a2 a3=bif (decide ((a0.length:Int)>4096))then some (([],[],[],[]),(0,0,0),(0,0,0),2)else(ax (fun kr12=>(zk a0).bind fun r1=>bif (!r1)then kr12 true else((Pz a1).bind fun r2=>bif (!r2)then kr12 true else((Pz a2).bind fun r3=>bif (!r3)then kr12 true else((OP a3).bind fun r4=>kr12 (!r4))))) fun(r10:Bool)=>bif r10 then some (([],[],[],[]),(0,0,0),(0,0,0),1)else((qo (([],[],[],[]),a0,a3)).bind fun r11=>dV.a a1 a2 a3 ([],[],[],[]) (0,0,0) (0,0,0) (([],[],[],[]),a0,a3) r11 a3.2.2.1 (a3.2.2.1.length:Int) 0)):=
 (aa cfg 172 _).trans (by kernel_rfl)
theorem dV.a_eq (x5 x6:Int×Int×Int) (x7:D9) (x8:bX) (x9 x10:Int×Int×Int) (x12:l6) (x13:Int) (x62:List D6) (x63 x64:Int):dV.a x5 x6 x7 x8 x9 x10 x12 x13 x62 x63 x64=bif (decide (x64<x63))then(bif (ao x64 (x62.length))then((PA x5 (((rd (τ:=Y5) x62 x64).2.2.2).size:Int)).bind fun r13=>ax (fun kr18=>bif (decide (x13=0))then kr18 (!r13.2.2)else kr18 false) fun(r15:Bool)=>ax (fun kr17=>bif r15 then kr17 7 else kr17 x13) fun(r16:Int)=>bif (av ((x12.1.1.length)+([r13.2.1].length)) 8)then(bif (av ((x12.1.2.1.length)+([(rd (τ:=Y5) x62 x64).2.2.2].length)) 16)then dV.a r13.1 x6 x7 x8 x9 x10 (((x12.1.1++[r13.2.1]),(x12.1.2.1++[(rd (τ:=Y5) x62 x64).2.2.2]),x12.1.2.2),x12.2) r16 x62 x63 (IntKind.wrap .i64 (x64+1))else none)else none)else none)else dV.b x5 x6 x7 x8 x9 x10 x12 x13 x7.2.2.2.1 (x7.2.2.2.1.length:Int) 0:=
 (ak cfg 172 _ _ _).trans (by kernel_rfl)
theorem dV.b_eq (x5 x6:Int×Int×Int) (x7:D9) (x8:bX) (x9 x10:Int×Int×Int) (x12:l6) (x13:Int) (x111:List D7) (x112 x113:Int):dV.b x5 x6 x7 x8 x9 x10 x12 x13 x111 x112 x113=bif (decide (x113<x112))then(bif (ao x113 (x111.length))then((PA x6 (((rd (τ:=(.pair .str .str)) x111 x113).2).size:Int)).bind fun r19=>ax (fun kr24=>bif (decide (x13=0))then kr24 (!r19.2.2)else kr24 false) fun(r21:Bool)=>ax (fun kr23=>bif r21 then kr23 7 else kr23 x13) fun(r22:Int)=>bif (av ((x12.1.2.2.1.length)+([r19.2.1].length)) 8)then(bif (av ((x12.1.2.2.2.length)+([(rd (τ:=(.pair .str .str)) x111 x113).2].length)) 16)then dV.b x5 r19.1 x7 x8 x9 x10 ((x12.1.1,x12.1.2.1,(x12.1.2.2.1++[r19.2.1]),(x12.1.2.2.2++[(rd (τ:=(.pair .str .str)) x111 x113).2])),x12.2) r22 x111 x112 (IntKind.wrap .i64 (x113+1))else none)else none)else none)else dV.c x5 x6 x7 x8 x9 x10 x12 x13 x7.2.2.2.2.1 (x7.2.2.2.2.1.length:Int) 0:=
 (ak cfg 172 _ _ _).trans (by kernel_rfl)
theorem dV.c_eq (x5 x6:Int×Int×Int) (x7:D9) (x8:bX) (x9 x10:Int×Int×Int) (x12:l6) (x13:Int) (x160:List D8) (x161 x162:Int):dV.c x5 x6 x7 x8 x9 x10 x12 x13 x160 x161 x162=bif (decide (x162<x161))then(bif (ao x162 (x160.length))then(bif (decide (x13=0))then((QT x12 (rd (τ:=Y6) x160 x162)).bind fun r25=>dV.c x5 x6 x7 x8 x9 x10 r25.2 r25.1 x160 x161 (IntKind.wrap .i64 (x162+1)))else dV.c x5 x6 x7 x8 x9 x10 x12 x13 x160 x161 (IntKind.wrap .i64 (x162+1)))else none)else dV.d x5 x6 x8 x9 x10 x12 x13 x7.2.2.1 (x7.2.2.1.length:Int) 0:=
 (ak cfg 172 _ _ _).trans (by kernel_rfl)
theorem dV.d_eq (x5 x6:Int×Int×Int) (x8:bX) (x9 x10:Int×Int×Int) (x12:l6) (x13:Int) (x173:List D6) (x174 x175:Int):dV.d x5 x6 x8 x9 x10 x12 x13 x173 x174 x175=bif (decide (x175<x174))then(bif (ao x175 (x173.length))then(bif (decide (x13=0))then(bif (ao x175 (x12.1.2.1.length))then(bif (ao x175 (x12.1.1.length))then((nk x12).bind fun r28=>(jv (rd (τ:= .str) x12.1.2.1 x175) (rd (τ:=(.int .i64)) x12.1.1 x175) ((rd (τ:=Y5) x173 x175).2.2.1) r28).bind fun r29=>dV.d x5 x6 x8 x9 x10 x12 r29.2 x173 x174 (IntKind.wrap .i64 (x175+1)))else none)else none)else dV.d x5 x6 x8 x9 x10 x12 x13 x173 x174 (IntKind.wrap .i64 (x175+1)))else none)else(bif (!decide (x13=0))then some (([],[],[],[]),(0,0,0),(0,0,0),x13)else some (x12.1,x5,x6,0)):=
 (ak cfg 172 _ _ _).trans (by kernel_rfl)
noncomputable def tx (a0:bX) (a1:D9):Option Bool:=ar cfg 240 [.agg [.list (.int .i64) a0.1,.list .str a0.2.1,.list (.int .i64) a0.2.2.1,.list .str a0.2.2.2],.agg [.str a1.1,.int .i64 a1.2.1,.list Y5 a1.2.2.1,.list (.pair .str .str) a1.2.2.2.1,.list Y6 a1.2.2.2.2.1,.list (.pair (.int .i64) .bool) a1.2.2.2.2.2]]
noncomputable def tx.a (x2:bX) (x3:D9) (x44:List D6) (x45 x46:Int):Option Bool:=LA 240 Tryz.f240 [1,1,0,1,0] ⟨81,af [vP 2 319,vP 3 447,vL 44 Y5 x44,vI 45 x45,vI 46 x46],ai [(319,.box [.list (.int .i64) x2.1,.list .str x2.2.1,.list (.int .i64) x2.2.2.1,.list .str x2.2.2.2]),(447,.box [.str x3.1,.int .i64 x3.2.1,.list Y5 x3.2.2.1,.list (.pair .str .str) x3.2.2.2.1,.list Y6 x3.2.2.2.2.1,.list (.pair (.int .i64) .bool) x3.2.2.2.2.2])]⟩
noncomputable def tx.b (x2:bX) (x63:List D7) (x64 x65:Int):Option Bool:=LA 240 Tryz.f240 [1,1,1,0,1,0] ⟨81,af [vP 2 319,vL 63 (.pair .str .str) x63,vI 64 x64,vI 65 x65],ai [(319,.box [.list (.int .i64) x2.1,.list .str x2.2.1,.list (.int .i64) x2.2.2.1,.list .str x2.2.2.2])]⟩
theorem LJ (a0:bX) (a1:D9):tx a0 a1=bif (!decide ((a0.1.length:Int)=(a1.2.2.1.length:Int)))then some false else(bif (!decide ((a0.2.1.length:Int)=(a1.2.2.1.length:Int)))then some false else(bif (!decide ((a0.2.2.1.length:Int)=(a1.2.2.2.1.length:Int)))then some false else(bif (!decide ((a0.2.2.2.length:Int)=(a1.2.2.2.1.length:Int)))then some false else tx.a a0 a1 a1.2.2.1 (a1.2.2.1.length:Int) 0))):=
 (aa cfg 240 _).trans (by kernel_rfl)
theorem tx.a_eq (x2:bX) (x3:D9) (x44:List D6) (x45 x46:Int):tx.a x2 x3 x44 x45 x46=bif (decide (x46<x45))then(bif (ao x46 (x44.length))then(bif (ao x46 (x2.2.1.length))then(bif (!decide (((rd (τ:= .str) x2.2.1 x46).size:Int)=(((rd (τ:=Y5) x44 x46).2.2.2).size:Int)))then some false else tx.a x2 x3 x44 x45 (IntKind.wrap .i64 (x46+1)))else none)else none)else tx.b x2 x3.2.2.2.1 (x3.2.2.2.1.length:Int) 0:=
 (ak cfg 240 _ _ _).trans (by kernel_rfl)
theorem tx.b_eq (x2:bX) (x63:List D7) (x64 x65:Int):tx.b x2 x63 x64 x65=bif (decide (x65<x64))then(bif (ao x65 (x63.length))then(bif (ao x65 (x2.2.2.2.length))then(bif (!decide (((rd (τ:= .str) x2.2.2.2 x65).size:Int)=(((rd (τ:=(.pair .str .str)) x63 x65).2).size:Int)))then some false else tx.b x2 x63 x64 (IntKind.wrap .i64 (x65+1)))else none)else none)else some true:=
 (ak cfg 240 _ _ _).trans (by kernel_rfl)
end Go.Proofs.YtegcfpicnjpihaaGreat.S
