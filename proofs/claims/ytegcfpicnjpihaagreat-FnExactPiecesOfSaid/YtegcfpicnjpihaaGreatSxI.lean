import Derived.Test.YtegcfpicnjpihaaGreatSxIb
import Derived.Test.YtegcfpicnjpihaaGreatProg
namespace Go.Proofs.YtegcfpicnjpihaaGreat.S
open Go.Ps
set_option linter.unusedVariables false
set_option maxRecDepth 100000
set_option maxHeartbeats 0
noncomputable def oe (a0:List D0) (a1:D9) (a2:bX) (a3:Int):Option (List D0):=ar cfg 241 [.v (.list Y0 a0),.agg [.str a1.1,.int .i64 a1.2.1,.list Y5 a1.2.2.1,.list (.pair .str .str) a1.2.2.2.1,.list Y6 a1.2.2.2.2.1,.list (.pair (.int .i64) .bool) a1.2.2.2.2.2],.agg [.list (.int .i64) a2.1,.list .str a2.2.1,.list (.int .i64) a2.2.2.1,.list .str a2.2.2.2],.v (.int .i64 a3)]
noncomputable def oe.a (x3:Int) (x5:D9) (x6:bX) (x9:List D0) (x17:List D6) (x18 x19:Int):Option (List D0):=LA 241 Tryz.f241 [1,1,0,1,0] ⟨70,af [vI 3 x3,vP 5 703,vP 6 831,(9,.v (.own 1184)),vL 17 Y5 x17,vI 18 x18,vI 19 x19],ai [(703,.box [.str x5.1,.int .i64 x5.2.1,.list Y5 x5.2.2.1,.list (.pair .str .str) x5.2.2.2.1,.list Y6 x5.2.2.2.2.1,.list (.pair (.int .i64) .bool) x5.2.2.2.2.2]),(831,.box [.list (.int .i64) x6.1,.list .str x6.2.1,.list (.int .i64) x6.2.2.1,.list .str x6.2.2.2]),(1184,.rows 116 Y0 .no x9)]⟩
noncomputable def oe.b (x3:Int) (x6:bX) (x9:List D0) (x46:List D7) (x47 x48:Int):Option (List D0):=LA 241 Tryz.f241 [1,1,1,0,1,0] ⟨70,af [vI 3 x3,vP 6 831,(9,.v (.own 1184)),vL 46 (.pair .str .str) x46,vI 47 x47,vI 48 x48],ai [(831,.box [.list (.int .i64) x6.1,.list .str x6.2.1,.list (.int .i64) x6.2.2.1,.list .str x6.2.2.2]),(1184,.rows 116 Y0 .no x9)]⟩
theorem Mc (a0:List D0) (a1:D9) (a2:bX) (a3:Int):oe a0 a1 a2 a3=(Z1 a0).bind fun r1=>oe.a a3 a1 a2 r1 a1.2.2.1 (a1.2.2.1.length:Int) 0:=
 (aa cfg 241 _).trans (by kernel_rfl)
theorem oe.a_eq (x3:Int) (x5:D9) (x6:bX) (x9:List D0) (x17:List D6) (x18 x19:Int):oe.a x3 x5 x6 x9 x17 x18 x19=bif (decide (x19<x18))then(bif (ao x19 (x17.length))then(bif (!(rd (τ:=Y5) x17 x19).2.1)then(bif (ao x19 (x6.1.length))then(bif (av ((x9.length)+([((rd (τ:=Y5) x17 x19).1,1,(rd (τ:=(.int .i64)) x6.1 x19),(((rd (τ:=Y5) x17 x19).2.2.2).size:Int),(rd (τ:=Y5) x17 x19).2.2.1,x3)].length)) 56)then oe.a x3 x5 x6 (x9++[((rd (τ:=Y5) x17 x19).1,1,(rd (τ:=(.int .i64)) x6.1 x19),(((rd (τ:=Y5) x17 x19).2.2.2).size:Int),(rd (τ:=Y5) x17 x19).2.2.1,x3)]) x17 x18 (IntKind.wrap .i64 (x19+1))else none)else none)else oe.a x3 x5 x6 x9 x17 x18 (IntKind.wrap .i64 (x19+1)))else none)else oe.b x3 x6 x9 x5.2.2.2.1 (x5.2.2.2.1.length:Int) 0:=
 (ak cfg 241 _ _ _).trans (by kernel_rfl)
theorem oe.b_eq (x3:Int) (x6:bX) (x9:List D0) (x46:List D7) (x47 x48:Int):oe.b x3 x6 x9 x46 x47 x48=bif (decide (x48<x47))then(bif (ao x48 (x46.length))then(bif (ao x48 (x6.2.2.1.length))then(bif (av ((x9.length)+([((rd (τ:=(.pair .str .str)) x46 x48).1,2,(rd (τ:=(.int .i64)) x6.2.2.1 x48),(((rd (τ:=(.pair .str .str)) x46 x48).2).size:Int),0,x3)].length)) 56)then oe.b x3 x6 (x9++[((rd (τ:=(.pair .str .str)) x46 x48).1,2,(rd (τ:=(.int .i64)) x6.2.2.1 x48),(((rd (τ:=(.pair .str .str)) x46 x48).2).size:Int),0,x3)]) x46 x47 (IntKind.wrap .i64 (x48+1))else none)else none)else none)else some x9:=
 (ak cfg 241 _ _ _).trans (by kernel_rfl)
noncomputable def Rl (a0:List D0) (a1:D9) (a2:bX) (a3:Int):Option (List D0×Int):=ar cfg 173 [.v (.list Y0 a0),.agg [.str a1.1,.int .i64 a1.2.1,.list Y5 a1.2.2.1,.list (.pair .str .str) a1.2.2.2.1,.list Y6 a1.2.2.2.2.1,.list (.pair (.int .i64) .bool) a1.2.2.2.2.2],.agg [.list (.int .i64) a2.1,.list .str a2.2.1,.list (.int .i64) a2.2.2.1,.list .str a2.2.2.2],.v (.int .i64 a3)]
theorem Md (a0:List D0) (a1:D9) (a2:bX) (a3:Int):Rl a0 a1 a2 a3=bif (decide ((a0.length:Int)>4096))then some ([],2)else(ax (fun kr13=>(zk a0).bind fun r1=>bif (!r1)then kr13 true else((OP a1).bind fun r2=>bif (!r2)then kr13 true else((tx a2 a1).bind fun r3=>bif (!r3)then kr13 true else((fY a3 1 6).bind fun r4=>kr13 (!r4))))) fun(r10:Bool)=>bif r10 then some ([],1)else((oe a0 a1 a2 a3).bind fun r11=>(zk r11).bind fun r12=>bif (!r12)then some ([],24)else some (r11,0))):=
 (aa cfg 173 _).trans (by kernel_rfl)
noncomputable def Rm (a0:D1) (a1:Int):Option Bool:=ar cfg 328 [.agg [.int .i64 a0.1,.int .i64 a0.2.1,.str a0.2.2],.v (.cptr (.int .i64) a1 0)]
theorem Me (a0:D1) (a1:Int):Rm a0 a1=(fY a1 a0.1 (IntKind.wrap .i64 ((IntKind.wrap .i64 (a0.1+128))-1))).bind fun r1=>some r1:=
 (aa cfg 328 _).trans (by kernel_rfl)
noncomputable def Gu (c1_0:Int) (a0:List D1):Option Int:=ar cfg 327 [.v (.list Y3 a0),.v (.fn 328 [.cref (.int .i64) c1_0])]
noncomputable def Gu.a (c1_0:Int) (x0:List D1) (x7 x8:Int):Option Int:=LA 327 Tryz.f327 [1,0,1,0] ⟨19,af [vL 0 Y3 x0,(1,.v (.fn 328 [.cref (.int .i64) c1_0])),vI 7 x7,vI 8 x8],ai []⟩
theorem Mf (c1_0:Int) (a0:List D1):Gu c1_0 a0=Gu.a c1_0 a0 (a0.length:Int) 0:=
 (aa cfg 327 _).trans (by kernel_rfl)
theorem Gu.a_eq (c1_0:Int) (x0:List D1) (x7 x8:Int):Gu.a c1_0 x0 x7 x8=bif (decide (x8<x7))then(bif (ao x8 (x0.length))then((Rm (rd (τ:=Y3) x0 x8) c1_0).bind fun r1=>bif r1 then some x8 else Gu.a c1_0 x0 x7 (IntKind.wrap .i64 (x8+1)))else none)else some (-1):=
 (ak cfg 327 _ _ _).trans (by kernel_rfl)
noncomputable def QV (a0:List D1) (a1:Int):Option Int:=ar cfg 295 [.agg [.list Y3 a0],.v (.int .i64 a1)]
theorem Mg (a0:List D1) (a1:Int):QV a0 a1=(Gu a1 a0).bind fun r1=>some r1:=
 (aa cfg 295 _).trans (by kernel_rfl)
noncomputable def zA (a0:List D1) (a1 a2:Int):Option ByteArray:=ar cfg 246 [.agg [.list Y3 a0],.v (.int .i64 a1),.v (.int .i64 a2)]
noncomputable def zA.a (x1 x2:Int) (x3:List D1) (x7:List Int) (x8:Int):Option ByteArray:=LA 246 Tryz.f246 [1,1,0,1,0] ⟨37,af [vI 1 x1,vI 2 x2,vP 3 447,(7,.v (.own 928)),vI 8 x8],ai [(447,.box [.list Y3 x3]),(928,.rows 5 (.int .u8) .no x7)]⟩
theorem Mh (a0:List D1) (a1 a2:Int):zA a0 a1 a2=zA.a a1 a2 a0 [] a1:=
 (aa cfg 246 _).trans (by kernel_rfl)
theorem zA.a_eq (x1 x2:Int) (x3:List D1) (x7:List Int) (x8:Int):zA.a x1 x2 x3 x7 x8=bif (decide (x8< (IntKind.wrap .i64 (x1+x2))))then((QV x3 x8).bind fun r1=>bif (ao r1 (x3.length))then(bif (ao (IntKind.wrap .i64 (x8-(rd (τ:=Y3) x3 r1).1)) ((rd (τ:=Y3) x3 r1).2.2).size)then(bif (av ((x7.length)+([(bt ((rd (τ:=Y3) x3 r1).2.2) (IntKind.wrap .i64 (x8-(rd (τ:=Y3) x3 r1).1)))].length)) 1)then zA.a x1 x2 x3 (x7++[(bt ((rd (τ:=Y3) x3 r1).2.2) (IntKind.wrap .i64 (x8-(rd (τ:=Y3) x3 r1).1)))]) (IntKind.wrap .i64 (x8+1))else none)else none)else none)else some (aI x7):=
 (ak cfg 246 _ _ _).trans (by kernel_rfl)
noncomputable def qt (a0:List D1) (a1:List D0) (a2:D9) (a3:bX):Option NS:=ar cfg 175 [.agg [.list Y3 a0],.v (.list Y0 a1),.agg [.str a2.1,.int .i64 a2.2.1,.list Y5 a2.2.2.1,.list (.pair .str .str) a2.2.2.2.1,.list Y6 a2.2.2.2.2.1,.list (.pair (.int .i64) .bool) a2.2.2.2.2.2],.agg [.list (.int .i64) a3.1,.list .str a3.2.1,.list (.int .i64) a3.2.2.1,.list .str a3.2.2.2]]
noncomputable def qt.a (x1:List D0) (x4:List D1) (x6:D9) (x7:bX) (x8:List D1) (x10:List (Int×Int)) (x17 x18:Int):Option NS:=LA 175 Tryz.f175 [1,1,0,1,0] ⟨78,af [vL 1 Y0 x1,vP 4 575,vP 6 831,vP 7 959,vP 8 1087,(10,.v (.own 1312)),vI 17 x17,vI 18 x18],ai [(575,.box [.list Y3 x4]),(831,.box [.str x6.1,.int .i64 x6.2.1,.list Y5 x6.2.2.1,.list (.pair .str .str) x6.2.2.2.1,.list Y6 x6.2.2.2.2.1,.list (.pair (.int .i64) .bool) x6.2.2.2.2.2]),(959,.box [.list (.int .i64) x7.1,.list .str x7.2.1,.list (.int .i64) x7.2.2.1,.list .str x7.2.2.2]),(1056,.rows 185 Y3 .no x8),(1087,.box [.own 1056]),(1312,.rows 202 Y9 .no x10)]⟩
noncomputable def qt.b (x1:List D0) (x4:List D1) (x7:bX) (x8:List D1) (x10:List (Int×Int)) (x35:List D6) (x36 x37:Int):Option NS:=LA 175 Tryz.f175 [1,1,1,0,1,0] ⟨78,af [vL 1 Y0 x1,vP 4 575,vP 7 959,vP 8 1087,(10,.v (.own 1312)),vL 35 Y5 x35,vI 36 x36,vI 37 x37],ai [(575,.box [.list Y3 x4]),(959,.box [.list (.int .i64) x7.1,.list .str x7.2.1,.list (.int .i64) x7.2.2.1,.list .str x7.2.2.2]),(1056,.rows 185 Y3 .no x8),(1087,.box [.own 1056]),(1312,.rows 202 Y9 .no x10)]⟩
theorem Mi (a0:List D1) (a1:List D0) (a2:D9) (a3:bX):qt a0 a1 a2 a3=qt.a a1 a0 a2 a3 [] [] (a2.2.2.1.length:Int) 0:=
 (aa cfg 175 _).trans (by kernel_rfl)
theorem qt.a_eq (x1:List D0) (x4:List D1) (x6:D9) (x7:bX) (x8:List D1) (x10:List (Int×Int)) (x17 x18:Int):qt.a x1 x4 x6 x7 x8 x10 x17 x18=bif (decide (x18<x17))then(bif (ao x18 (x7.1.length))then(bif (ao x18 (x7.2.1.length))then((nE x4 (rd (τ:=(.int .i64)) x7.1 x18) (rd (τ:= .str) x7.2.1 x18)).bind fun r1=>qt.a x1 r1 x6 x7 x8 x10 x17 (IntKind.wrap .i64 (x18+1)))else none)else none)else qt.b x1 x4 x7 x8 x10 x6.2.2.1 (x6.2.2.1.length:Int) 0:=
 (ak cfg 175 _ _ _).trans (by kernel_rfl)
theorem qt.b_eq (x1:List D0) (x4:List D1) (x7:bX) (x8:List D1) (x10:List (Int×Int)) (x35:List D6) (x36 x37:Int):qt.b x1 x4 x7 x8 x10 x35 x36 x37=bif (decide (x37<x36))then(bif (ao x37 (x35.length))then(bif (!(rd (τ:=Y5) x35 x37).2.1)then qt.b x1 x4 x7 x8 x10 x35 x36 (IntKind.wrap .i64 (x37+1))else((H8 x1 ((rd (τ:=Y5) x35 x37).1)).bind fun r2=>bif (ao r2 (x1.length))then((zA x4 ((rd (τ:=Y0) x1 r2).2.2.1) 4).bind fun r3=>(zj r3).bind fun r4=>bif (av ((x10.length)+([((rd (τ:=Y0) x1 r2).2.2.1,r4)].length)) 16)then(bif (ao x37 (x7.1.length))then((wr (3,0,0,0,(IntKind.wrap .i64 ((rd (τ:=(.int .i64)) x7.1 x37)-(rd (τ:=Y0) x1 r2).2.2.1)))).bind fun r5=>(ws r5 4).bind fun r6=>(nE x4 ((rd (τ:=Y0) x1 r2).2.2.1) r6).bind fun r7=>qt.b x1 r7 x7 x8 (x10++[((rd (τ:=Y0) x1 r2).2.2.1,r4)]) x35 x36 (IntKind.wrap .i64 (x37+1)))else none)else none)else none))else none)else some (x4,x10):=
 (ak cfg 175 _ _ _).trans (by kernel_rfl)
noncomputable def zB (a0:tJ) (a1:D9) (a2:Int):Option Rv:=ar cfg 107 [.agg [.list Y0 a0.1,.list aL a0.2.1,.list Y3 a0.2.2.1,.int .i64 a0.2.2.2.1.1,.int .i64 a0.2.2.2.1.2.1,.int .i64 a0.2.2.2.1.2.2,.int .i64 a0.2.2.2.2.1,.int .i64 a0.2.2.2.2.2.1,.int .i64 a0.2.2.2.2.2.2],.agg [.str a1.1,.int .i64 a1.2.1,.list Y5 a1.2.2.1,.list (.pair .str .str) a1.2.2.2.1,.list Y6 a1.2.2.2.2.1,.list (.pair (.int .i64) .bool) a1.2.2.2.2.2],.v (.int .i64 a2)]
noncomputable def zB.a (x0:tJ) (x2:Int) (x4:D9) (x6 x9:bX) (x69:List D6) (x70 x71:Int):Option Rv:=LA 107 Tryz.f107 [1,1,1,1,1,1,0,1,0] ⟨119,af [(13,.v (.own 32)),vP 0 127,vI 2 x2,vP 4 575,vP 6 831,vP 9 1215,vL 69 Y5 x69,vI 70 x70,vI 71 x71],ai [(32,.rows 116 Y0 .no x0.1),(33,.rows 91 aL .no x0.2.1),(127,.box [.own 32,.own 33,.list Y3 x0.2.2.1,.int .i64 x0.2.2.2.1.1,.int .i64 x0.2.2.2.1.2.1,.int .i64 x0.2.2.2.1.2.2,.int .i64 x0.2.2.2.2.1,.int .i64 x0.2.2.2.2.2.1,.int .i64 x0.2.2.2.2.2.2]),(575,.box [.str x4.1,.int .i64 x4.2.1,.list Y5 x4.2.2.1,.list (.pair .str .str) x4.2.2.2.1,.list Y6 x4.2.2.2.2.1,.list (.pair (.int .i64) .bool) x4.2.2.2.2.2]),(800,.rows 3 (.int .i64) .no x6.1),(801,.rows 9 .str .no x6.2.1),(802,.rows 3 (.int .i64) .no x6.2.2.1),(803,.rows 9 .str .no x6.2.2.2),(831,.box [.own 800,.own 801,.own 802,.own 803]),(1184,.rows 3 (.int .i64) .no x9.1),(1185,.rows 9 .str .no x9.2.1),(1186,.rows 3 (.int .i64) .no x9.2.2.1),(1187,.rows 9 .str .no x9.2.2.2),(1215,.box [.own 1184,.own 1185,.own 1186,.own 1187])]⟩
theorem F9 (a0:tJ) (a1:D9) (a2:Int):zB a0 a1 a2=(dV a0.1 a0.2.2.2.1 a0.2.2.2.2 a1).bind fun r1=>bif (!decide (r1.2.2.2=0))then some (([],[],[],[]),[],r1.2.2.2,a0)else((Rl a0.1 a1 r1.1 a2).bind fun r2=>bif (!decide (r2.2=0))then some (([],[],[],[]),[],r2.2,a0)else zB.a (r2.1,a0.2.1,a0.2.2.1,r1.2.1,r1.2.2.1) a2 a1 ([],[],[],[]) r1.1 a1.2.2.1 (a1.2.2.1.length:Int) 0):=
 (aa cfg 107 _).trans (by kernel_rfl)
theorem zB.a_eq (x0:tJ) (x2:Int) (x4:D9) (x6 x9:bX) (x69:List D6) (x70 x71:Int):zB.a x0 x2 x4 x6 x9 x69 x70 x71=bif (decide (x71<x70))then(bif (ao x71 (x69.length))then((H8 x0.1 ((rd (τ:=Y5) x69 x71).1)).bind fun r4=>bif (ao x71 (x9.1.length))then(bif (av ((x0.2.1.length)+([(r4,x2,(rd (τ:=(.int .i64)) x9.1 x71),(((rd (τ:=Y5) x69 x71).2.2.2).size:Int),(rd (τ:=Y5) x69 x71).2.2.1)].length)) 40)then zB.a (x0.1,(x0.2.1++[(r4,x2,(rd (τ:=(.int .i64)) x9.1 x71),(((rd (τ:=Y5) x69 x71).2.2.2).size:Int),(rd (τ:=Y5) x69 x71).2.2.1)]),x0.2.2) x2 x4 x6 x9 x69 x70 (IntKind.wrap .i64 (x71+1))else none)else none)else none)else((qt x0.2.2.1 x0.1 x4 x9).bind fun r3=>some (x9,r3.2,0,x0.1,x0.2.1,r3.1,x0.2.2.2)):=
 (ak cfg 107 _ _ _).trans (by kernel_rfl)
noncomputable def CX (a0 a1:List Int):Option Bool:=ar cfg 176 [.v (.list (.int .i64) a0),.v (.list (.int .i64) a1)]
noncomputable def CX.a (x0 x1:List Int) (x12 x13:Int):Option Bool:=LA 176 Tryz.f176 [1,1,0,1,0] ⟨26,af [vL 0 (.int .i64) x0,vL 1 (.int .i64) x1,vI 12 x12,vI 13 x13],ai []⟩
theorem Mj (a0 a1:List Int):CX a0 a1=bif (!decide ((a0.length:Int)=(a1.length:Int)))then some false else CX.a a0 a1 (a0.length:Int) 0:=
 (aa cfg 176 _).trans (by kernel_rfl)
theorem CX.a_eq (x0 x1:List Int) (x12 x13:Int):CX.a x0 x1 x12 x13=bif (decide (x13<x12))then(bif (ao x13 (x0.length))then(bif (ao x13 (x1.length))then(bif (!decide ((rd (τ:=(.int .i64)) x0 x13)=(rd (τ:=(.int .i64)) x1 x13)))then some false else CX.a x0 x1 x12 (IntKind.wrap .i64 (x13+1)))else none)else none)else some true:=
 (ak cfg 176 _ _ _).trans (by kernel_rfl)
noncomputable def CY (a0 a1:List ByteArray):Option Bool:=ar cfg 177 [.v (.list .str a0),.v (.list .str a1)]
noncomputable def CY.a (x0 x1:List ByteArray) (x12 x13:Int):Option Bool:=LA 177 Tryz.f177 [1,1,0,1,0] ⟨26,af [vL 0 .str x0,vL 1 .str x1,vI 12 x12,vI 13 x13],ai []⟩
theorem Mk (a0 a1:List ByteArray):CY a0 a1=bif (!decide ((a0.length:Int)=(a1.length:Int)))then some false else CY.a a0 a1 (a0.length:Int) 0:=
 (aa cfg 177 _).trans (by kernel_rfl)
theorem CY.a_eq (x0 x1:List ByteArray) (x12 x13:Int):CY.a x0 x1 x12 x13=bif (decide (x13<x12))then(bif (ao x13 (x0.length))then(bif (ao x13 (x1.length))then(bif (!bu (rd (τ:= .str) x0 x13) (rd (τ:= .str) x1 x13))then some false else CY.a x0 x1 x12 (IntKind.wrap .i64 (x13+1)))else none)else none)else some true:=
 (ak cfg 177 _ _ _).trans (by kernel_rfl)
noncomputable def PF (a0 a1:bX):Option Bool:=ar cfg 108 [.agg [.list (.int .i64) a0.1,.list .str a0.2.1,.list (.int .i64) a0.2.2.1,.list .str a0.2.2.2],.agg [.list (.int .i64) a1.1,.list .str a1.2.1,.list (.int .i64) a1.2.2.1,.list .str a1.2.2.2]]
theorem Ml (a0 a1:bX):PF a0 a1=(CX a0.1 a1.1).bind fun r1=>bif r1 then((CY a0.2.1 a1.2.1).bind fun r2=>bif r2 then((CX a0.2.2.1 a1.2.2.1).bind fun r3=>bif r3 then((CY a0.2.2.2 a1.2.2.2).bind fun r4=>some r4)else some false)else some false)else some false:=
 (aa cfg 108 _).trans (by kernel_rfl)
noncomputable def CZ (a0 a1:List (Int×Int)):Option Bool:=ar cfg 109 [.v (.list Y9 a0),.v (.list Y9 a1)]
noncomputable def CZ.a (x0 x1:List (Int×Int)) (x12 x13:Int):Option Bool:=LA 109 Tryz.f109 [1,1,0,1,0] ⟨26,af [vL 0 Y9 x0,vL 1 Y9 x1,vI 12 x12,vI 13 x13],ai []⟩
theorem Mm (a0 a1:List (Int×Int)):CZ a0 a1=bif (!decide ((a0.length:Int)=(a1.length:Int)))then some false else CZ.a a0 a1 (a0.length:Int) 0:=
 (aa cfg 109 _).trans (by kernel_rfl)
theorem CZ.a_eq (x0 x1:List (Int×Int)) (x12 x13:Int):CZ.a x0 x1 x12 x13=bif (decide (x13<x12))then(bif (ao x13 (x0.length))then(bif (ao x13 (x1.length))then(bif (!(jQ Y9 (rd (τ:=Y9) x0 x13) (rd (τ:=Y9) x1 x13)))then some false else CZ.a x0 x1 x12 (IntKind.wrap .i64 (x13+1)))else none)else none)else some true:=
 (ak cfg 109 _ _ _).trans (by kernel_rfl)
noncomputable def sw (a0:D3) (a1:List ef) (a2:Bool):Option (tJ×Bool):=ar cfg 53 [.agg [.str a0.1,.str a0.2.1,.list Y4 a0.2.2],.v (.list bJ a1),.v (.bool a2)]
noncomputable def sw.a (x1:List ef) (x2:Bool) (x6 x8:tJ) (x27:List ef) (x28 x29:Int):Option (tJ×Bool):=LA 53 Tryz.f53 [1,1,1,0,1,0] ⟨100,af [vL 1 bJ x1,(2,.v (.bool x2)),vP 6 831,vP 8 1087,vL 27 bJ x27,vI 28 x28,vI 29 x29],ai [(800,.rows 116 Y0 .no x6.1),(801,.rows 91 aL .no x6.2.1),(802,.rows 185 Y3 .no x6.2.2.1),(831,.box [.own 800,.own 801,.own 802,.int .i64 x6.2.2.2.1.1,.int .i64 x6.2.2.2.1.2.1,.int .i64 x6.2.2.2.1.2.2,.int .i64 x6.2.2.2.2.1,.int .i64 x6.2.2.2.2.2.1,.int .i64 x6.2.2.2.2.2.2]),(1056,.rows 91 aL .no x8.2.1),(1087,.box [.list Y0 x8.1,.own 1056,.list Y3 x8.2.2.1,.int .i64 x8.2.2.2.1.1,.int .i64 x8.2.2.2.1.2.1,.int .i64 x8.2.2.2.1.2.2,.int .i64 x8.2.2.2.2.1,.int .i64 x8.2.2.2.2.2.1,.int .i64 x8.2.2.2.2.2.2])]⟩
noncomputable def sw.b (x1:List ef) (x2:Bool) (x6 x8:tJ) (x9:Int) (x10:ef) (x27:List ef) (x28 x29:Int) (x48:List ef) (x49 x50:Int):Option (tJ×Bool):=LA 53 Tryz.f53 [1,1,1,0,1,0,0,1,1,0,0,1,1,0,1,0] ⟨100,af [vL 1 bJ x1,(2,.v (.bool x2)),vP 6 831,vP 8 1087,vI 9 x9,vP 10 1343,vL 27 bJ x27,vI 28 x28,vI 29 x29,vL 48 bJ x48,vI 49 x49,vI 50 x50],ai [(800,.rows 116 Y0 .no x6.1),(801,.rows 91 aL .no x6.2.1),(802,.rows 185 Y3 .no x6.2.2.1),(831,.box [.own 800,.own 801,.own 802,.int .i64 x6.2.2.2.1.1,.int .i64 x6.2.2.2.1.2.1,.int .i64 x6.2.2.2.1.2.2,.int .i64 x6.2.2.2.2.1,.int .i64 x6.2.2.2.2.2.1,.int .i64 x6.2.2.2.2.2.2]),(1056,.rows 91 aL .no x8.2.1),(1087,.box [.list Y0 x8.1,.own 1056,.list Y3 x8.2.2.1,.int .i64 x8.2.2.2.1.1,.int .i64 x8.2.2.2.1.2.1,.int .i64 x8.2.2.2.1.2.2,.int .i64 x8.2.2.2.2.1,.int .i64 x8.2.2.2.2.2.1,.int .i64 x8.2.2.2.2.2.2]),(1343,.box [.str x10.1.1,.int .i64 x10.1.2.1,.list Y5 x10.1.2.2.1,.list (.pair .str .str) x10.1.2.2.2.1,.list Y6 x10.1.2.2.2.2.1,.list (.pair (.int .i64) .bool) x10.1.2.2.2.2.2,.list (.int .i64) x10.2.1.1,.list .str x10.2.1.2.1,.list (.int .i64) x10.2.1.2.2.1,.list .str x10.2.1.2.2.2,.list Y9 x10.2.2])]⟩
theorem Ga (a0:D3) (a1:List ef) (a2:Bool):sw a0 a1 a2=ax (fun kr5=>(OO a0).bind fun r1=>bif (!r1)then kr5 true else kr5 (decide ((a1.length:Int)>6))) fun(r3:Bool)=>bif r3 then some (([],[],[],(0,0,0),0,0,0),false)else((QK a0).bind fun r4=>sw.a a1 a2 ([],[],[],(0,0,0),0,0,0) r4 a1 (a1.length:Int) 0):=
 (aa cfg 53 _).trans (by kernel_rfl)
theorem sw.a_eq (x1:List ef) (x2:Bool) (x6 x8:tJ) (x27:List ef) (x28 x29:Int):sw.a x1 x2 x6 x8 x27 x28 x29=bif (decide (x29<x28))then(bif (ao x29 (x27.length))then(ax (fun kr9=>(OP ((rd (τ:=bJ) x27 x29).1)).bind fun r6=>bif (!r6)then kr9 true else kr9 (!decide ((rd (τ:=bJ) x27 x29).1.2.1=x29))) fun(r8:Bool)=>bif r8 then some (([],[],[],(0,0,0),0,0,0),false)else(bif (decide (0≤0)&&decide (0≤x29)&&decide (x29≤(x1.length:Int)))then sw.b x1 x2 x6 x8 x29 (rd (τ:=bJ) x27 x29) x27 x28 x29 ((x1.take (Int.toNat x29)).drop (Int.toNat 0)) (((x1.take (Int.toNat x29)).drop (Int.toNat 0)).length:Int) 0 else none))else none)else some (x8,true):=
 (ak cfg 53 _ _ _).trans (by kernel_rfl)
theorem sw.b_eq (x1:List ef) (x2:Bool) (x6 x8:tJ) (x9:Int) (x10:ef) (x27:List ef) (x28 x29:Int) (x48:List ef) (x49 x50:Int):sw.b x1 x2 x6 x8 x9 x10 x27 x28 x29 x48 x49 x50=bif (decide (x50<x49))then(bif (ao x50 (x48.length))then(bif (bu ((rd (τ:=bJ) x48 x50).1.1) x10.1.1)then some (([],[],[],(0,0,0),0,0,0),false)else((QO ((rd (τ:=bJ) x48 x50).1) x10.1).bind fun r25=>bif r25 then some (([],[],[],(0,0,0),0,0,0),false)else sw.b x1 x2 x6 x8 x9 x10 x27 x28 x29 x48 x49 (IntKind.wrap .i64 (x50+1))))else none)else((zB x8 x10.1 (IntKind.wrap .i64 (x9+1))).bind fun r10=>bif (!x2)then(ax (fun kr17=>bif (!decide (r10.2.2.1=0))then kr17 true else((PF r10.1 x10.2.1).bind fun r11=>bif (!r11)then kr17 true else((CZ [] x10.2.2).bind fun r12=>kr17 (!r12)))) fun(r16:Bool)=>bif r16 then some (([],[],[],(0,0,0),0,0,0),false)else sw.a x1 x2 x6 r10.2.2.2 x27 x28 (IntKind.wrap .i64 (x29+1)))else(ax (fun kr24=>bif (!decide (r10.2.2.1=0))then kr24 true else((PF r10.1 x10.2.1).bind fun r18=>bif (!r18)then kr24 true else((CZ r10.2.1 x10.2.2).bind fun r19=>kr24 (!r19)))) fun(r23:Bool)=>bif r23 then some (([],[],[],(0,0,0),0,0,0),false)else sw.a x1 x2 x6 r10.2.2.2 x27 x28 (IntKind.wrap .i64 (x29+1)))):=
 (ak cfg 53 _ _ _).trans (by kernel_rfl)
noncomputable def PG (a0:Int):Option Bool:=ar cfg 178 [.v (.int .i64 a0)]
theorem Gb (a0:Int):PG a0=(fY a0 0 1048575).bind fun r1=>bif r1 then some (decide ((a0.tmod 128)=0))else some false:=
 (aa cfg 178 _).trans (by kernel_rfl)
noncomputable def PH (a0:Int):Option Bool:=ar cfg 179 [.v (.int .i64 a0)]
theorem Gd (a0:Int):PH a0=(fY a0 0 15).bind fun r1=>some r1:=
 (aa cfg 179 _).trans (by kernel_rfl)
noncomputable def Ch (a0:List D1):Option Bool:=ar cfg 110 [.agg [.list Y3 a0]]
noncomputable def Ch.a (x1 x10:List D1) (x11 x12:Int):Option Bool:=LA 110 Tryz.f110 [1,1,0,1,0] ⟨50,af [vP 1 191,vL 10 Y3 x10,vI 11 x11,vI 12 x12],ai [(191,.box [.list Y3 x1])]⟩
theorem Mn (a0:List D1):Ch a0=bif (decide ((a0.length:Int)>64))then some false else Ch.a a0 a0 (a0.length:Int) 0:=
 (aa cfg 110 _).trans (by kernel_rfl)
theorem Ch.a_eq (x1 x10:List D1) (x11 x12:Int):Ch.a x1 x10 x11 x12=bif (decide (x12<x11))then(bif (ao x12 (x10.length))then((PG ((rd (τ:=Y3) x10 x12).1)).bind fun r1=>bif (!r1)then some false else((PH ((rd (τ:=Y3) x10 x12).2.1)).bind fun r2=>bif (!r2)then some false else(bif (!decide ((((rd (τ:=Y3) x10 x12).2.2).size:Int)=128))then some false else(bif (decide (x12>0))then(bif (ao (IntKind.wrap .i64 (x12-1)) (x1.length))then(bif (decide ((rd (τ:=Y3) x1 (IntKind.wrap .i64 (x12-1))).1≥(rd (τ:=Y3) x10 x12).1))then some false else Ch.a x1 x10 x11 (IntKind.wrap .i64 (x12+1)))else none)else Ch.a x1 x10 x11 (IntKind.wrap .i64 (x12+1))))))else none)else some true:=
 (ak cfg 110 _ _ _).trans (by kernel_rfl)
noncomputable def Ge (a0:List Int):Option Int:=ar cfg 250 [.v (.list (.int .i64) a0)]
noncomputable def Ge.a (x3:Int) (x6:List Int) (x7 x8:Int):Option Int:=LA 250 Tryz.f250 [1,1,0,1,0] ⟨18,af [vI 3 x3,vL 6 (.int .i64) x6,vI 7 x7,vI 8 x8],ai []⟩
theorem Mo (a0:List Int):Ge a0=Ge.a 0 a0 (a0.length:Int) 0:=
 (aa cfg 250 _).trans (by kernel_rfl)
theorem Ge.a_eq (x3:Int) (x6:List Int) (x7 x8:Int):Ge.a x3 x6 x7 x8=bif (decide (x8<x7))then(bif (ao x8 (x6.length))then(bif (!decide ((rd (τ:=(.int .i64)) x6 x8)=x3))then some (rd (τ:=(.int .i64)) x6 x8)else Ge.a x3 x6 x7 (IntKind.wrap .i64 (x8+1)))else none)else some x3:=
 (ak cfg 250 _ _ _).trans (by kernel_rfl)
noncomputable def QW (a0:Int):Option Bool:=ar cfg 300 [.v (.int .i64 a0)]
theorem Gf (a0:Int):QW a0=some (!decide (a0=a0)):=
 (aa cfg 300 _).trans (by kernel_rfl)
noncomputable def PI (a0 a1:Int):Option Int:=ar cfg 251 [.v (.int .i64 a0),.v (.int .i64 a1)]
theorem Mp (a0 a1:Int):PI a0 a1=(QW a0).bind fun r1=>(QW a1).bind fun r2=>bif r1 then(bif r2 then some 0 else some (-1))else(bif r2 then some 1 else(bif (decide (a0<a1))then some (-1)else(bif (decide (a0>a1))then some 1 else some 0))):=
 (aa cfg 251 _).trans (by kernel_rfl)
noncomputable def QX (a0 a1:Int×Int×Int):Option Int:=ar cfg 182 [.agg [.int .i64 a0.1,.int .i64 a0.2.1,.int .i64 a0.2.2],.agg [.int .i64 a1.1,.int .i64 a1.2.1,.int .i64 a1.2.2]]
theorem Mq (a0 a1:Int×Int×Int):QX a0 a1=(PI a0.1 a1.1).bind fun r1=>(PI a0.2.1 a1.2.1).bind fun r2=>(Ge [r1,r2]).bind fun r3=>some r3:=
 (aa cfg 182 _).trans (by kernel_rfl)
noncomputable def C0 (a0:List (Int×Int×Int)):Option Bool:=ar cfg 112 [.v (.list aW a0)]
noncomputable def C0.a (x0 x8:List (Int×Int×Int)) (x9 x10:Int):Option Bool:=LA 112 Tryz.f112 [1,1,0,1,0] ⟨34,af [vL 0 aW x0,vL 8 aW x8,vI 9 x9,vI 10 x10],ai []⟩
theorem Mr (a0:List (Int×Int×Int)):C0 a0=bif (decide ((a0.length:Int)>16))then some false else C0.a a0 a0 (a0.length:Int) 0:=
 (aa cfg 112 _).trans (by kernel_rfl)
theorem C0.a_eq (x0 x8:List (Int×Int×Int)) (x9 x10:Int):C0.a x0 x8 x9 x10=bif (decide (x10<x9))then(bif (ao x10 (x8.length))then((fY ((rd (τ:=aW) x8 x10).2.1) 0 255).bind fun r1=>bif (!r1)then some false else(bif (decide (x10>0))then(bif (ao (IntKind.wrap .i64 (x10-1)) (x0.length))then((QX (rd (τ:=aW) x0 (IntKind.wrap .i64 (x10-1))) (rd (τ:=aW) x8 x10)).bind fun r2=>bif (decide (r2≥0))then some false else C0.a x0 x8 x9 (IntKind.wrap .i64 (x10+1)))else none)else C0.a x0 x8 x9 (IntKind.wrap .i64 (x10+1))))else none)else some true:=
 (ak cfg 112 _ _ _).trans (by kernel_rfl)
noncomputable def QY (a0:List Int×Int):Option Bool:=ar cfg 253 [.agg [.seg (.int .i64) 32 a0.1,.int .i64 a0.2]]
theorem Ms (a0:List Int×Int):QY a0=bif (ao 0 32)then some (decide ((rd (τ:=(.int .i64)) a0.1 0)=0))else none:=
 (aa cfg 253 _).trans (by kernel_rfl)
noncomputable def QZ (a0:D4):Option Bool:=ar cfg 185 [.agg [.int .i64 a0.1,.seg (.int .i64) 32 a0.2.1.1,.int .i64 a0.2.1.2,.list (.int .i64) a0.2.2.1,.int .i64 a0.2.2.2]]
theorem Mt (a0:D4):QZ a0=ax (fun kr11=>bif (decide (a0.1=3))then((fY a0.2.2.2 1 31).bind fun r1=>kr11 r1)else kr11 (decide (a0.2.2.2=0))) fun(r2:Bool)=>(fY a0.1 1 3).bind fun r3=>bif r3 then((QY a0.2.1).bind fun r4=>bif r4 then(bif (decide ((a0.2.2.1.length:Int)≤32))then some r2 else some false)else some false)else some false:=
 (aa cfg 185 _).trans (by kernel_rfl)
noncomputable def Rn (a0:D4):Option Bool:=ar cfg 184 [.agg [.int .i64 a0.1,.seg (.int .i64) 32 a0.2.1.1,.int .i64 a0.2.1.2,.list (.int .i64) a0.2.2.1,.int .i64 a0.2.2.2]]
theorem Mu (a0:D4):Rn a0=(QZ a0).bind fun r1=>some (!r1):=
 (aa cfg 184 _).trans (by kernel_rfl)
noncomputable def Gw (a0:List D4):Option Int:=ar cfg 252 [.v (.list Y2 a0),.v (.fn 184 [])]
noncomputable def Gw.a (x0:List D4) (x7 x8:Int):Option Int:=LA 252 Tryz.f252 [1,0,1,0] ⟨19,af [vL 0 Y2 x0,(1,.v (.fn 184 [])),vI 7 x7,vI 8 x8],ai []⟩
theorem Mv (a0:List D4):Gw a0=Gw.a a0 (a0.length:Int) 0:=
 (aa cfg 252 _).trans (by kernel_rfl)
theorem Gw.a_eq (x0:List D4) (x7 x8:Int):Gw.a x0 x7 x8=bif (decide (x8<x7))then(bif (ao x8 (x0.length))then((Rn (rd (τ:=Y2) x0 x8)).bind fun r1=>bif r1 then some x8 else Gw.a x0 x7 (IntKind.wrap .i64 (x8+1)))else none)else some (-1):=
 (ak cfg 252 _ _ _).trans (by kernel_rfl)
noncomputable def Ro (a0:List D4):Option Bool:=ar cfg 183 [.v (.list Y2 a0),.v (.fn 184 [])]
theorem Mw (a0:List D4):Ro a0=(Gw a0).bind fun r1=>some (decide (r1≥0)):=
 (aa cfg 183 _).trans (by kernel_rfl)
noncomputable def Q0 (a0:List D4):Option Bool:=ar cfg 113 [.v (.list Y2 a0)]
theorem Mx (a0:List D4):Q0 a0=(fY (a0.length:Int) 1 4).bind fun r1=>bif r1 then((Ro a0).bind fun r2=>some (!r2))else some false:=
 (aa cfg 113 _).trans (by kernel_rfl)
noncomputable def Q1 (a0:D5):Option Bool:=ar cfg 54 [.agg [.list Y3 a0.1,.list Y2 a0.2.1,.list Y0 a0.2.2.1,.list aW a0.2.2.2]]
theorem My (a0:D5):Q1 a0=(Ch a0.1).bind fun r1=>bif r1 then((zk a0.2.2.1).bind fun r2=>bif r2 then((C0 a0.2.2.2).bind fun r3=>bif r3 then((Q0 a0.2.1).bind fun r4=>some r4)else some false)else some false)else some false:=
 (aa cfg 54 _).trans (by kernel_rfl)
noncomputable def Gg (a0 a1:List D0):Option Bool:=ar cfg 55 [.v (.list Y0 a0),.v (.list Y0 a1)]
noncomputable def Gg.a (x0 x1:List D0) (x12 x13:Int):Option Bool:=LA 55 Tryz.f55 [1,1,0,1,0] ⟨26,af [vL 0 Y0 x0,vL 1 Y0 x1,vI 12 x12,vI 13 x13],ai []⟩
theorem Mz (a0 a1:List D0):Gg a0 a1=bif (!decide ((a0.length:Int)=(a1.length:Int)))then some false else Gg.a a0 a1 (a0.length:Int) 0:=
 (aa cfg 55 _).trans (by kernel_rfl)
theorem Gg.a_eq (x0 x1:List D0) (x12 x13:Int):Gg.a x0 x1 x12 x13=bif (decide (x13<x12))then(bif (ao x13 (x0.length))then(bif (ao x13 (x1.length))then(bif (!(jQ Y0 (rd (τ:=Y0) x0 x13) (rd (τ:=Y0) x1 x13)))then some false else Gg.a x0 x1 x12 (IntKind.wrap .i64 (x13+1)))else none)else none)else some true:=
 (ak cfg 55 _ _ _).trans (by kernel_rfl)
noncomputable def Rp (a0 a1:D1):Option Bool:=ar cfg 115 [.agg [.int .i64 a0.1,.int .i64 a0.2.1,.str a0.2.2],.agg [.int .i64 a1.1,.int .i64 a1.2.1,.str a1.2.2]]
theorem MA (a0 a1:D1):Rp a0 a1=bif (decide (a0.1=a1.1))then(bif (decide (a0.2.1=a1.2.1))then(bif (!decide (a0.2.1=4))then some true else some (bu a0.2.2 a1.2.2))else some false)else some false:=
 (aa cfg 115 _).trans (by kernel_rfl)
noncomputable def Gx (a0 a1:List D1):Option Bool:=ar cfg 114 [.v (.list Y3 a0),.v (.list Y3 a1),.v (.fn 115 [])]
noncomputable def Gx.a (x1 x15:List D1) (x16 x17:Int):Option Bool:=LA 114 Tryz.f114 [1,1,0,1,0] ⟨32,af [vL 1 Y3 x1,(2,.v (.fn 115 [])),vL 15 Y3 x15,vI 16 x16,vI 17 x17],ai []⟩
theorem MB (a0 a1:List D1):Gx a0 a1=bif (!decide ((a0.length:Int)=(a1.length:Int)))then some false else Gx.a a1 a0 (a0.length:Int) 0:=
 (aa cfg 114 _).trans (by kernel_rfl)
theorem Gx.a_eq (x1 x15:List D1) (x16 x17:Int):Gx.a x1 x15 x16 x17=bif (decide (x17<x16))then(bif (ao x17 (x15.length))then(bif (ao x17 (x1.length))then((Rp (rd (τ:=Y3) x15 x17) (rd (τ:=Y3) x1 x17)).bind fun r1=>bif (!r1)then some false else Gx.a x1 x15 x16 (IntKind.wrap .i64 (x17+1)))else none)else none)else some true:=
 (ak cfg 114 _ _ _).trans (by kernel_rfl)
noncomputable def Q2 (a0 a1:List D1):Option Bool:=ar cfg 56 [.agg [.list Y3 a0],.agg [.list Y3 a1]]
theorem MC (a0 a1:List D1):Q2 a0 a1=(Gx a0 a1).bind fun r1=>some r1:=
 (aa cfg 56 _).trans (by kernel_rfl)
noncomputable def OV (a0:nK):Option (tJ×Bool):=ar cfg 27 [.agg [.str a0.1.1,.str a0.1.2.1,.list Y4 a0.1.2.2,.list Y3 a0.2.1.1,.list Y2 a0.2.1.2.1,.list Y0 a0.2.1.2.2.1,.list aW a0.2.1.2.2.2,.list bJ a0.2.2]]
theorem MD (a0:nK):OV a0=(sw a0.1 a0.2.2 true).bind fun r1=>bif (!r1.2)then some (([],[],[],(0,0,0),0,0,0),false)else((Q1 a0.2.1).bind fun r2=>bif (!r2)then some (([],[],[],(0,0,0),0,0,0),false)else((Gg a0.2.1.2.2.1 r1.1.1).bind fun r3=>bif (!r3)then some (([],[],[],(0,0,0),0,0,0),false)else((Q2 a0.2.1.1 r1.1.2.2.1).bind fun r4=>bif (!r4)then some (([],[],[],(0,0,0),0,0,0),false)else some (r1.1,true)))):=
 (aa cfg 27 _).trans (by kernel_rfl)
noncomputable def C3 (a0:tJ) (a1:Int):Option Int:=ar cfg 57 [.agg [.list Y0 a0.1,.list aL a0.2.1,.list Y3 a0.2.2.1,.int .i64 a0.2.2.2.1.1,.int .i64 a0.2.2.2.1.2.1,.int .i64 a0.2.2.2.1.2.2,.int .i64 a0.2.2.2.2.1,.int .i64 a0.2.2.2.2.2.1,.int .i64 a0.2.2.2.2.2.2],.v (.int .i64 a1)]
noncomputable def C3.a (x1 x5:Int) (x15:List bQ) (x16 x17:Int):Option Int:=LA 57 Tryz.f57 [1,1,0,1,0] ⟨29,af [vI 1 x1,vI 5 x5,vL 15 aL x15,vI 16 x16,vI 17 x17],ai []⟩
theorem ME (a0:tJ) (a1:Int):C3 a0 a1=bif (ao a1 (a0.1.length))then C3.a a1 ((rd (τ:=Y0) a0.1 a1).2.2.2.2.2) a0.2.1 (a0.2.1.length:Int) 0 else none:=
 (aa cfg 57 _).trans (by kernel_rfl)
theorem C3.a_eq (x1 x5:Int) (x15:List bQ) (x16 x17:Int):C3.a x1 x5 x15 x16 x17=bif (decide (x17<x16))then(bif (ao x17 (x15.length))then(bif (decide ((rd (τ:=aL) x15 x17).1=x1))then C3.a x1 ((rd (τ:=aL) x15 x17).2.1) x15 x16 (IntKind.wrap .i64 (x17+1))else C3.a x1 x5 x15 x16 (IntKind.wrap .i64 (x17+1)))else none)else some x5:=
 (ak cfg 57 _ _ _).trans (by kernel_rfl)
noncomputable def Gi (a0:tJ):Option (List Int):=ar cfg 28 [.agg [.list Y0 a0.1,.list aL a0.2.1,.list Y3 a0.2.2.1,.int .i64 a0.2.2.2.1.1,.int .i64 a0.2.2.2.1.2.1,.int .i64 a0.2.2.2.1.2.2,.int .i64 a0.2.2.2.2.1,.int .i64 a0.2.2.2.2.2.1,.int .i64 a0.2.2.2.2.2.2]]
noncomputable def Gi.a (x1:tJ) (x3:List Int) (x7 x8:Int):Option (List Int):=LA 28 Tryz.f28 [1,1,0,1,0] ⟨19,af [vP 1 191,(3,.v (.own 416)),vI 7 x7,vI 8 x8],ai [(191,.box [.list Y0 x1.1,.list aL x1.2.1,.list Y3 x1.2.2.1,.int .i64 x1.2.2.2.1.1,.int .i64 x1.2.2.2.1.2.1,.int .i64 x1.2.2.2.1.2.2,.int .i64 x1.2.2.2.2.1,.int .i64 x1.2.2.2.2.2.1,.int .i64 x1.2.2.2.2.2.2]),(416,.rows 3 (.int .i64) .no x3)]⟩
theorem MF (a0:tJ):Gi a0=Gi.a a0 [] (a0.1.length:Int) 0:=
 (aa cfg 28 _).trans (by kernel_rfl)
theorem Gi.a_eq (x1:tJ) (x3:List Int) (x7 x8:Int):Gi.a x1 x3 x7 x8=bif (decide (x8<x7))then((C3 x1 x8).bind fun r1=>bif (av ((x3.length)+([r1].length)) 8)then Gi.a x1 (x3++[r1]) x7 (IntKind.wrap .i64 (x8+1))else none)else some x3:=
 (ak cfg 28 _ _ _).trans (by kernel_rfl)
noncomputable def PJ (a0:nK):Option (List Int×Int):=ar cfg 8 [.agg [.str a0.1.1,.str a0.1.2.1,.list Y4 a0.1.2.2,.list Y3 a0.2.1.1,.list Y2 a0.2.1.2.1,.list Y0 a0.2.1.2.2.1,.list aW a0.2.1.2.2.2,.list bJ a0.2.2]]
theorem MG (a0:nK):PJ a0=(OV a0).bind fun r1=>bif (!r1.2)then some ([],1)else((Gi r1.1).bind fun r2=>some (r2,0)):=
 (aa cfg 8 _).trans (by kernel_rfl)
noncomputable def q7 (a0 a1:List Int):Option Bool:=ar cfg 9 [.v (.list (.int .i64) a0),.v (.list (.int .i64) a1)]
noncomputable def q7.a (x0 x1:List Int) (x5:Int):Option Bool:=LA 9 Tryz.f9 [1,1,0,1,0] ⟨26,af [vL 0 (.int .i64) x0,vL 1 (.int .i64) x1,vI 5 x5],ai []⟩
theorem Gj (a0 a1:List Int):q7 a0 a1=bif (!decide ((a0.length:Int)=(a1.length:Int)))then some false else q7.a a0 a1 0:=
 (aa cfg 9 _).trans (by kernel_rfl)
theorem q7.a_eq (x0 x1:List Int) (x5:Int):q7.a x0 x1 x5=bif (decide (x5< (x0.length:Int)))then(bif (ao x5 (x0.length))then(bif (ao x5 (x1.length))then(bif (!decide ((rd (τ:=(.int .i64)) x0 x5)=(rd (τ:=(.int .i64)) x1 x5)))then some false else q7.a x0 x1 (IntKind.wrap .i64 (x5+1)))else none)else none)else some true:=
 (ak cfg 9 _ _ _).trans (by kernel_rfl)
noncomputable def PL (a0 a1:D2):Option Bool:=ar cfg 116 [.agg [.str a0.1,.int .i64 a0.2.1,.int .i64 a0.2.2.1,.int .i64 a0.2.2.2.1,.int .i64 a0.2.2.2.2],.agg [.str a1.1,.int .i64 a1.2.1,.int .i64 a1.2.2.1,.int .i64 a1.2.2.2.1,.int .i64 a1.2.2.2.2]]
theorem MH (a0 a1:D2):PL a0 a1=bif (!bu a0.1 a1.1)then some false else(bif (!decide (a0.2.1=a1.2.1))then some false else(bif (!decide (a0.2.2.1=a1.2.2.1))then some false else(bif (!decide (a0.2.2.2.1=a1.2.2.2.1))then some false else(bif (!decide (a0.2.2.2.2=a1.2.2.2.2))then some false else some true)))):=
 (aa cfg 116 _).trans (by kernel_rfl)
noncomputable def C4 (a0 a1:List D2):Option Bool:=ar cfg 58 [.v (.list Y4 a0),.v (.list Y4 a1)]
noncomputable def C4.a (x0 x1:List D2) (x5:Int):Option Bool:=LA 58 Tryz.f58 [1,1,0,1,0] ⟨27,af [vL 0 Y4 x0,vL 1 Y4 x1,vI 5 x5],ai []⟩
theorem MI (a0 a1:List D2):C4 a0 a1=bif (!decide ((a0.length:Int)=(a1.length:Int)))then some false else C4.a a0 a1 0:=
 (aa cfg 58 _).trans (by kernel_rfl)
theorem C4.a_eq (x0 x1:List D2) (x5:Int):C4.a x0 x1 x5=bif (decide (x5< (x0.length:Int)))then(bif (ao x5 (x0.length))then(bif (ao x5 (x1.length))then((PL (rd (τ:=Y4) x0 x5) (rd (τ:=Y4) x1 x5)).bind fun r1=>bif (!r1)then some false else C4.a x0 x1 (IntKind.wrap .i64 (x5+1)))else none)else none)else some true:=
 (ak cfg 58 _ _ _).trans (by kernel_rfl)
noncomputable def PM (a0 a1:D3):Option Bool:=ar cfg 29 [.agg [.str a0.1,.str a0.2.1,.list Y4 a0.2.2],.agg [.str a1.1,.str a1.2.1,.list Y4 a1.2.2]]
theorem MJ (a0 a1:D3):PM a0 a1=bif (!bu a0.1 a1.1)then some false else(bif (!bu a0.2.1 a1.2.1)then some false else((C4 a0.2.2 a1.2.2).bind fun r1=>bif (!r1)then some false else some true)):=
 (aa cfg 29 _).trans (by kernel_rfl)
noncomputable def PN (a0 a1:D1):Option Bool:=ar cfg 186 [.agg [.int .i64 a0.1,.int .i64 a0.2.1,.str a0.2.2],.agg [.int .i64 a1.1,.int .i64 a1.2.1,.str a1.2.2]]
theorem ML (a0 a1:D1):PN a0 a1=bif (!decide (a0.1=a1.1))then some false else(bif (!decide (a0.2.1=a1.2.1))then some false else(bif (!bu a0.2.2 a1.2.2)then some false else some true)):=
 (aa cfg 186 _).trans (by kernel_rfl)
noncomputable def C5 (a0 a1:List D1):Option Bool:=ar cfg 117 [.v (.list Y3 a0),.v (.list Y3 a1)]
noncomputable def C5.a (x0 x1:List D1) (x5:Int):Option Bool:=LA 117 Tryz.f117 [1,1,0,1,0] ⟨27,af [vL 0 Y3 x0,vL 1 Y3 x1,vI 5 x5],ai []⟩
theorem MM (a0 a1:List D1):C5 a0 a1=bif (!decide ((a0.length:Int)=(a1.length:Int)))then some false else C5.a a0 a1 0:=
 (aa cfg 117 _).trans (by kernel_rfl)
theorem C5.a_eq (x0 x1:List D1) (x5:Int):C5.a x0 x1 x5=bif (decide (x5< (x0.length:Int)))then(bif (ao x5 (x0.length))then(bif (ao x5 (x1.length))then((PN (rd (τ:=Y3) x0 x5) (rd (τ:=Y3) x1 x5)).bind fun r1=>bif (!r1)then some false else C5.a x0 x1 (IntKind.wrap .i64 (x5+1)))else none)else none)else some true:=
 (ak cfg 117 _ _ _).trans (by kernel_rfl)
noncomputable def PO (a0 a1:List D1):Option Bool:=ar cfg 59 [.agg [.list Y3 a0],.agg [.list Y3 a1]]
theorem MN (a0 a1:List D1):PO a0 a1=(C5 a0 a1).bind fun r1=>bif (!r1)then some false else some true:=
 (aa cfg 59 _).trans (by kernel_rfl)
noncomputable def C6 (a0 a1:List Int):Option Bool:=ar cfg 254 [.agg [.seg (.int .i64) 32 a0],.agg [.seg (.int .i64) 32 a1]]
noncomputable def C6.a (x2 x3:List Int) (x5:Int):Option Bool:=LA 254 Tryz.f254 [1,0,1,0] ⟨17,af [vP 2 319,vP 3 447,vI 5 x5],ai [(319,.box [.seg (.int .i64) 32 x2]),(447,.box [.seg (.int .i64) 32 x3])]⟩
theorem MO (a0 a1:List Int):C6 a0 a1=C6.a a0 a1 0:=
 (aa cfg 254 _).trans (by kernel_rfl)
theorem C6.a_eq (x2 x3:List Int) (x5:Int):C6.a x2 x3 x5=bif (decide (x5<32))then(bif (ao x5 32)then(bif (ao x5 32)then(bif (!decide ((rd (τ:=(.int .i64)) x2 x5)=(rd (τ:=(.int .i64)) x3 x5)))then some false else C6.a x2 x3 (IntKind.wrap .i64 (x5+1)))else none)else none)else some true:=
 (ak cfg 254 _ _ _).trans (by kernel_rfl)
noncomputable def PP (a0 a1:List Int×Int):Option Bool:=ar cfg 187 [.agg [.seg (.int .i64) 32 a0.1,.int .i64 a0.2],.agg [.seg (.int .i64) 32 a1.1,.int .i64 a1.2]]
theorem MP (a0 a1:List Int×Int):PP a0 a1=(C6 a0.1 a1.1).bind fun r1=>bif (!r1)then some false else(bif (!decide (a0.2=a1.2))then some false else some true):=
 (aa cfg 187 _).trans (by kernel_rfl)
noncomputable def PQ (a0 a1:D4):Option Bool:=ar cfg 118 [.agg [.int .i64 a0.1,.seg (.int .i64) 32 a0.2.1.1,.int .i64 a0.2.1.2,.list (.int .i64) a0.2.2.1,.int .i64 a0.2.2.2],.agg [.int .i64 a1.1,.seg (.int .i64) 32 a1.2.1.1,.int .i64 a1.2.1.2,.list (.int .i64) a1.2.2.1,.int .i64 a1.2.2.2]]
theorem MQ (a0 a1:D4):PQ a0 a1=bif (!decide (a0.1=a1.1))then some false else((PP a0.2.1 a1.2.1).bind fun r1=>bif (!r1)then some false else((q7 a0.2.2.1 a1.2.2.1).bind fun r2=>bif (!r2)then some false else(bif (!decide (a0.2.2.2=a1.2.2.2))then some false else some true))):=
 (aa cfg 118 _).trans (by kernel_rfl)
noncomputable def C7 (a0 a1:List D4):Option Bool:=ar cfg 60 [.v (.list Y2 a0),.v (.list Y2 a1)]
noncomputable def C7.a (x0 x1:List D4) (x5:Int):Option Bool:=LA 60 Tryz.f60 [1,1,0,1,0] ⟨27,af [vL 0 Y2 x0,vL 1 Y2 x1,vI 5 x5],ai []⟩
theorem MR (a0 a1:List D4):C7 a0 a1=bif (!decide ((a0.length:Int)=(a1.length:Int)))then some false else C7.a a0 a1 0:=
 (aa cfg 60 _).trans (by kernel_rfl)
theorem C7.a_eq (x0 x1:List D4) (x5:Int):C7.a x0 x1 x5=bif (decide (x5< (x0.length:Int)))then(bif (ao x5 (x0.length))then(bif (ao x5 (x1.length))then((PQ (rd (τ:=Y2) x0 x5) (rd (τ:=Y2) x1 x5)).bind fun r1=>bif (!r1)then some false else C7.a x0 x1 (IntKind.wrap .i64 (x5+1)))else none)else none)else some true:=
 (ak cfg 60 _ _ _).trans (by kernel_rfl)
noncomputable def PR (a0 a1:D0):Option Bool:=ar cfg 119 [.agg [.str a0.1,.int .i64 a0.2.1,.int .i64 a0.2.2.1,.int .i64 a0.2.2.2.1,.int .i64 a0.2.2.2.2.1,.int .i64 a0.2.2.2.2.2],.agg [.str a1.1,.int .i64 a1.2.1,.int .i64 a1.2.2.1,.int .i64 a1.2.2.2.1,.int .i64 a1.2.2.2.2.1,.int .i64 a1.2.2.2.2.2]]
theorem MS (a0 a1:D0):PR a0 a1=bif (!bu a0.1 a1.1)then some false else(bif (!decide (a0.2.1=a1.2.1))then some false else(bif (!decide (a0.2.2.1=a1.2.2.1))then some false else(bif (!decide (a0.2.2.2.1=a1.2.2.2.1))then some false else(bif (!decide (a0.2.2.2.2.1=a1.2.2.2.2.1))then some false else(bif (!decide (a0.2.2.2.2.2=a1.2.2.2.2.2))then some false else some true))))):=
 (aa cfg 119 _).trans (by kernel_rfl)
noncomputable def C8 (a0 a1:List D0):Option Bool:=ar cfg 61 [.v (.list Y0 a0),.v (.list Y0 a1)]
noncomputable def C8.a (x0 x1:List D0) (x5:Int):Option Bool:=LA 61 Tryz.f61 [1,1,0,1,0] ⟨27,af [vL 0 Y0 x0,vL 1 Y0 x1,vI 5 x5],ai []⟩
theorem MT (a0 a1:List D0):C8 a0 a1=bif (!decide ((a0.length:Int)=(a1.length:Int)))then some false else C8.a a0 a1 0:=
 (aa cfg 61 _).trans (by kernel_rfl)
theorem C8.a_eq (x0 x1:List D0) (x5:Int):C8.a x0 x1 x5=bif (decide (x5< (x0.length:Int)))then(bif (ao x5 (x0.length))then(bif (ao x5 (x1.length))then((PR (rd (τ:=Y0) x0 x5) (rd (τ:=Y0) x1 x5)).bind fun r1=>bif (!r1)then some false else C8.a x0 x1 (IntKind.wrap .i64 (x5+1)))else none)else none)else some true:=
 (ak cfg 61 _ _ _).trans (by kernel_rfl)
noncomputable def PS (a0 a1:Int×Int×Int):Option Bool:=ar cfg 120 [.agg [.int .i64 a0.1,.int .i64 a0.2.1,.int .i64 a0.2.2],.agg [.int .i64 a1.1,.int .i64 a1.2.1,.int .i64 a1.2.2]]
theorem MU (a0 a1:Int×Int×Int):PS a0 a1=bif (!decide (a0.1=a1.1))then some false else(bif (!decide (a0.2.1=a1.2.1))then some false else(bif (!decide (a0.2.2=a1.2.2))then some false else some true)):=
 (aa cfg 120 _).trans (by kernel_rfl)
noncomputable def C9 (a0 a1:List (Int×Int×Int)):Option Bool:=ar cfg 62 [.v (.list aW a0),.v (.list aW a1)]
noncomputable def C9.a (x0 x1:List (Int×Int×Int)) (x5:Int):Option Bool:=LA 62 Tryz.f62 [1,1,0,1,0] ⟨27,af [vL 0 aW x0,vL 1 aW x1,vI 5 x5],ai []⟩
theorem MV (a0 a1:List (Int×Int×Int)):C9 a0 a1=bif (!decide ((a0.length:Int)=(a1.length:Int)))then some false else C9.a a0 a1 0:=
 (aa cfg 62 _).trans (by kernel_rfl)
theorem C9.a_eq (x0 x1:List (Int×Int×Int)) (x5:Int):C9.a x0 x1 x5=bif (decide (x5< (x0.length:Int)))then(bif (ao x5 (x0.length))then(bif (ao x5 (x1.length))then((PS (rd (τ:=aW) x0 x5) (rd (τ:=aW) x1 x5)).bind fun r1=>bif (!r1)then some false else C9.a x0 x1 (IntKind.wrap .i64 (x5+1)))else none)else none)else some true:=
 (ak cfg 62 _ _ _).trans (by kernel_rfl)
noncomputable def PT (a0 a1:D5):Option Bool:=ar cfg 30 [.agg [.list Y3 a0.1,.list Y2 a0.2.1,.list Y0 a0.2.2.1,.list aW a0.2.2.2],.agg [.list Y3 a1.1,.list Y2 a1.2.1,.list Y0 a1.2.2.1,.list aW a1.2.2.2]]
theorem MW (a0 a1:D5):PT a0 a1=(PO a0.1 a1.1).bind fun r1=>bif (!r1)then some false else((C7 a0.2.1 a1.2.1).bind fun r2=>bif (!r2)then some false else((C8 a0.2.2.1 a1.2.2.1).bind fun r3=>bif (!r3)then some false else((C9 a0.2.2.2 a1.2.2.2).bind fun r4=>bif (!r4)then some false else some true))):=
 (aa cfg 30 _).trans (by kernel_rfl)
noncomputable def PU (a0 a1:D6):Option Bool:=ar cfg 255 [.agg [.str a0.1,.bool a0.2.1,.int .i64 a0.2.2.1,.str a0.2.2.2],.agg [.str a1.1,.bool a1.2.1,.int .i64 a1.2.2.1,.str a1.2.2.2]]
theorem MX (a0 a1:D6):PU a0 a1=bif (!bu a0.1 a1.1)then some false else(bif (!(a0.2.1==a1.2.1))then some false else(bif (!decide (a0.2.2.1=a1.2.2.1))then some false else(bif (!bu a0.2.2.2 a1.2.2.2)then some false else some true))):=
 (aa cfg 255 _).trans (by kernel_rfl)
noncomputable def Da (a0 a1:List D6):Option Bool:=ar cfg 188 [.v (.list Y5 a0),.v (.list Y5 a1)]
noncomputable def Da.a (x0 x1:List D6) (x5:Int):Option Bool:=LA 188 Tryz.f188 [1,1,0,1,0] ⟨27,af [vL 0 Y5 x0,vL 1 Y5 x1,vI 5 x5],ai []⟩
theorem MY (a0 a1:List D6):Da a0 a1=bif (!decide ((a0.length:Int)=(a1.length:Int)))then some false else Da.a a0 a1 0:=
 (aa cfg 188 _).trans (by kernel_rfl)
theorem Da.a_eq (x0 x1:List D6) (x5:Int):Da.a x0 x1 x5=bif (decide (x5< (x0.length:Int)))then(bif (ao x5 (x0.length))then(bif (ao x5 (x1.length))then((PU (rd (τ:=Y5) x0 x5) (rd (τ:=Y5) x1 x5)).bind fun r1=>bif (!r1)then some false else Da.a x0 x1 (IntKind.wrap .i64 (x5+1)))else none)else none)else some true:=
 (ak cfg 188 _ _ _).trans (by kernel_rfl)
noncomputable def PW (a0 a1:D7):Option Bool:=ar cfg 256 [.agg [.str a0.1,.str a0.2],.agg [.str a1.1,.str a1.2]]
theorem MZ (a0 a1:D7):PW a0 a1=bif (!bu a0.1 a1.1)then some false else(bif (!bu a0.2 a1.2)then some false else some true):=
 (aa cfg 256 _).trans (by kernel_rfl)
noncomputable def Db (a0 a1:List D7):Option Bool:=ar cfg 189 [.v (.list (.pair .str .str) a0),.v (.list (.pair .str .str) a1)]
noncomputable def Db.a (x0 x1:List D7) (x5:Int):Option Bool:=LA 189 Tryz.f189 [1,1,0,1,0] ⟨27,af [vL 0 (.pair .str .str) x0,vL 1 (.pair .str .str) x1,vI 5 x5],ai []⟩
theorem M0 (a0 a1:List D7):Db a0 a1=bif (!decide ((a0.length:Int)=(a1.length:Int)))then some false else Db.a a0 a1 0:=
 (aa cfg 189 _).trans (by kernel_rfl)
theorem Db.a_eq (x0 x1:List D7) (x5:Int):Db.a x0 x1 x5=bif (decide (x5< (x0.length:Int)))then(bif (ao x5 (x0.length))then(bif (ao x5 (x1.length))then((PW (rd (τ:=(.pair .str .str)) x0 x5) (rd (τ:=(.pair .str .str)) x1 x5)).bind fun r1=>bif (!r1)then some false else Db.a x0 x1 (IntKind.wrap .i64 (x5+1)))else none)else none)else some true:=
 (ak cfg 189 _ _ _).trans (by kernel_rfl)
noncomputable def PX (a0 a1:D8):Option Bool:=ar cfg 257 [.agg [.int .i64 a0.1,.int .i64 a0.2.1,.int .i64 a0.2.2.1,.str a0.2.2.2.1,.int .i64 a0.2.2.2.2],.agg [.int .i64 a1.1,.int .i64 a1.2.1,.int .i64 a1.2.2.1,.str a1.2.2.2.1,.int .i64 a1.2.2.2.2]]
theorem M1 (a0 a1:D8):PX a0 a1=bif (!decide (a0.1=a1.1))then some false else(bif (!decide (a0.2.1=a1.2.1))then some false else(bif (!decide (a0.2.2.1=a1.2.2.1))then some false else(bif (!bu a0.2.2.2.1 a1.2.2.2.1)then some false else(bif (!decide (a0.2.2.2.2=a1.2.2.2.2))then some false else some true)))):=
 (aa cfg 257 _).trans (by kernel_rfl)
noncomputable def Dc (a0 a1:List D8):Option Bool:=ar cfg 190 [.v (.list Y6 a0),.v (.list Y6 a1)]
noncomputable def Dc.a (x0 x1:List D8) (x5:Int):Option Bool:=LA 190 Tryz.f190 [1,1,0,1,0] ⟨27,af [vL 0 Y6 x0,vL 1 Y6 x1,vI 5 x5],ai []⟩
theorem M2 (a0 a1:List D8):Dc a0 a1=bif (!decide ((a0.length:Int)=(a1.length:Int)))then some false else Dc.a a0 a1 0:=
 (aa cfg 190 _).trans (by kernel_rfl)
theorem Dc.a_eq (x0 x1:List D8) (x5:Int):Dc.a x0 x1 x5=bif (decide (x5< (x0.length:Int)))then(bif (ao x5 (x0.length))then(bif (ao x5 (x1.length))then((PX (rd (τ:=Y6) x0 x5) (rd (τ:=Y6) x1 x5)).bind fun r1=>bif (!r1)then some false else Dc.a x0 x1 (IntKind.wrap .i64 (x5+1)))else none)else none)else some true:=
 (ak cfg 190 _ _ _).trans (by kernel_rfl)
noncomputable def PY (a0 a1:Int×Bool):Option Bool:=ar cfg 258 [.agg [.int .i64 a0.1,.bool a0.2],.agg [.int .i64 a1.1,.bool a1.2]]
theorem M3 (a0 a1:Int×Bool):PY a0 a1=bif (!decide (a0.1=a1.1))then some false else(bif (!(a0.2==a1.2))then some false else some true):=
 (aa cfg 258 _).trans (by kernel_rfl)
noncomputable def Dd (a0 a1:List (Int×Bool)):Option Bool:=ar cfg 191 [.v (.list (.pair (.int .i64) .bool) a0),.v (.list (.pair (.int .i64) .bool) a1)]
noncomputable def Dd.a (x0 x1:List (Int×Bool)) (x5:Int):Option Bool:=LA 191 Tryz.f191 [1,1,0,1,0] ⟨27,af [vL 0 (.pair (.int .i64) .bool) x0,vL 1 (.pair (.int .i64) .bool) x1,vI 5 x5],ai []⟩
theorem M4 (a0 a1:List (Int×Bool)):Dd a0 a1=bif (!decide ((a0.length:Int)=(a1.length:Int)))then some false else Dd.a a0 a1 0:=
 (aa cfg 191 _).trans (by kernel_rfl)
theorem Dd.a_eq (x0 x1:List (Int×Bool)) (x5:Int):Dd.a x0 x1 x5=bif (decide (x5< (x0.length:Int)))then(bif (ao x5 (x0.length))then(bif (ao x5 (x1.length))then((PY (rd (τ:=(.pair (.int .i64) .bool)) x0 x5) (rd (τ:=(.pair (.int .i64) .bool)) x1 x5)).bind fun r1=>bif (!r1)then some false else Dd.a x0 x1 (IntKind.wrap .i64 (x5+1)))else none)else none)else some true:=
 (ak cfg 191 _ _ _).trans (by kernel_rfl)
noncomputable def PZ (a0 a1:D9):Option Bool:=ar cfg 121 [.agg [.str a0.1,.int .i64 a0.2.1,.list Y5 a0.2.2.1,.list (.pair .str .str) a0.2.2.2.1,.list Y6 a0.2.2.2.2.1,.list (.pair (.int .i64) .bool) a0.2.2.2.2.2],.agg [.str a1.1,.int .i64 a1.2.1,.list Y5 a1.2.2.1,.list (.pair .str .str) a1.2.2.2.1,.list Y6 a1.2.2.2.2.1,.list (.pair (.int .i64) .bool) a1.2.2.2.2.2]]
theorem M5 (a0 a1:D9):PZ a0 a1=bif (!bu a0.1 a1.1)then some false else(bif (!decide (a0.2.1=a1.2.1))then some false else((Da a0.2.2.1 a1.2.2.1).bind fun r1=>bif (!r1)then some false else((Db a0.2.2.2.1 a1.2.2.2.1).bind fun r2=>bif (!r2)then some false else((Dc a0.2.2.2.2.1 a1.2.2.2.2.1).bind fun r3=>bif (!r3)then some false else((Dd a0.2.2.2.2.2 a1.2.2.2.2.2).bind fun r4=>bif (!r4)then some false else some true))))):=
 (aa cfg 121 _).trans (by kernel_rfl)
noncomputable def Ci (a0 a1:List ByteArray):Option Bool:=ar cfg 192 [.v (.list .str a0),.v (.list .str a1)]
noncomputable def Ci.a (x0 x1:List ByteArray) (x5:Int):Option Bool:=LA 192 Tryz.f192 [1,1,0,1,0] ⟨26,af [vL 0 .str x0,vL 1 .str x1,vI 5 x5],ai []⟩
theorem M6 (a0 a1:List ByteArray):Ci a0 a1=bif (!decide ((a0.length:Int)=(a1.length:Int)))then some false else Ci.a a0 a1 0:=
 (aa cfg 192 _).trans (by kernel_rfl)
theorem Ci.a_eq (x0 x1:List ByteArray) (x5:Int):Ci.a x0 x1 x5=bif (decide (x5< (x0.length:Int)))then(bif (ao x5 (x0.length))then(bif (ao x5 (x1.length))then(bif (!bu (rd (τ:= .str) x0 x5) (rd (τ:= .str) x1 x5))then some false else Ci.a x0 x1 (IntKind.wrap .i64 (x5+1)))else none)else none)else some true:=
 (ak cfg 192 _ _ _).trans (by kernel_rfl)
noncomputable def P0 (a0 a1:bX):Option Bool:=ar cfg 122 [.agg [.list (.int .i64) a0.1,.list .str a0.2.1,.list (.int .i64) a0.2.2.1,.list .str a0.2.2.2],.agg [.list (.int .i64) a1.1,.list .str a1.2.1,.list (.int .i64) a1.2.2.1,.list .str a1.2.2.2]]
theorem M7 (a0 a1:bX):P0 a0 a1=(q7 a0.1 a1.1).bind fun r1=>bif (!r1)then some false else((Ci a0.2.1 a1.2.1).bind fun r2=>bif (!r2)then some false else((q7 a0.2.2.1 a1.2.2.1).bind fun r3=>bif (!r3)then some false else((Ci a0.2.2.2 a1.2.2.2).bind fun r4=>bif (!r4)then some false else some true))):=
 (aa cfg 122 _).trans (by kernel_rfl)
noncomputable def P2 (a0 a1:Int×Int):Option Bool:=ar cfg 193 [.agg [.int .i64 a0.1,.int .i64 a0.2],.agg [.int .i64 a1.1,.int .i64 a1.2]]
theorem M8 (a0 a1:Int×Int):P2 a0 a1=bif (!decide (a0.1=a1.1))then some false else(bif (!decide (a0.2=a1.2))then some false else some true):=
 (aa cfg 193 _).trans (by kernel_rfl)
noncomputable def De (a0 a1:List (Int×Int)):Option Bool:=ar cfg 123 [.v (.list Y9 a0),.v (.list Y9 a1)]
noncomputable def De.a (x0 x1:List (Int×Int)) (x5:Int):Option Bool:=LA 123 Tryz.f123 [1,1,0,1,0] ⟨27,af [vL 0 Y9 x0,vL 1 Y9 x1,vI 5 x5],ai []⟩
theorem M9 (a0 a1:List (Int×Int)):De a0 a1=bif (!decide ((a0.length:Int)=(a1.length:Int)))then some false else De.a a0 a1 0:=
 (aa cfg 123 _).trans (by kernel_rfl)
theorem De.a_eq (x0 x1:List (Int×Int)) (x5:Int):De.a x0 x1 x5=bif (decide (x5< (x0.length:Int)))then(bif (ao x5 (x0.length))then(bif (ao x5 (x1.length))then((P2 (rd (τ:=Y9) x0 x5) (rd (τ:=Y9) x1 x5)).bind fun r1=>bif (!r1)then some false else De.a x0 x1 (IntKind.wrap .i64 (x5+1)))else none)else none)else some true:=
 (ak cfg 123 _ _ _).trans (by kernel_rfl)
noncomputable def P3 (a0 a1:ef):Option Bool:=ar cfg 63 [.agg [.str a0.1.1,.int .i64 a0.1.2.1,.list Y5 a0.1.2.2.1,.list (.pair .str .str) a0.1.2.2.2.1,.list Y6 a0.1.2.2.2.2.1,.list (.pair (.int .i64) .bool) a0.1.2.2.2.2.2,.list (.int .i64) a0.2.1.1,.list .str a0.2.1.2.1,.list (.int .i64) a0.2.1.2.2.1,.list .str a0.2.1.2.2.2,.list Y9 a0.2.2],.agg [.str a1.1.1,.int .i64 a1.1.2.1,.list Y5 a1.1.2.2.1,.list (.pair .str .str) a1.1.2.2.2.1,.list Y6 a1.1.2.2.2.2.1,.list (.pair (.int .i64) .bool) a1.1.2.2.2.2.2,.list (.int .i64) a1.2.1.1,.list .str a1.2.1.2.1,.list (.int .i64) a1.2.1.2.2.1,.list .str a1.2.1.2.2.2,.list Y9 a1.2.2]]
theorem Na (a0 a1:ef):P3 a0 a1=(PZ a0.1 a1.1).bind fun r1=>bif (!r1)then some false else((P0 a0.2.1 a1.2.1).bind fun r2=>bif (!r2)then some false else((De a0.2.2 a1.2.2).bind fun r3=>bif (!r3)then some false else some true)):=
 (aa cfg 63 _).trans (by kernel_rfl)
noncomputable def Df (a0 a1:List ef):Option Bool:=ar cfg 31 [.v (.list bJ a0),.v (.list bJ a1)]
noncomputable def Df.a (x0 x1:List ef) (x5:Int):Option Bool:=LA 31 Tryz.f31 [1,1,0,1,0] ⟨27,af [vL 0 bJ x0,vL 1 bJ x1,vI 5 x5],ai []⟩
theorem Nb (a0 a1:List ef):Df a0 a1=bif (!decide ((a0.length:Int)=(a1.length:Int)))then some false else Df.a a0 a1 0:=
 (aa cfg 31 _).trans (by kernel_rfl)
theorem Df.a_eq (x0 x1:List ef) (x5:Int):Df.a x0 x1 x5=bif (decide (x5< (x0.length:Int)))then(bif (ao x5 (x0.length))then(bif (ao x5 (x1.length))then((P3 (rd (τ:=bJ) x0 x5) (rd (τ:=bJ) x1 x5)).bind fun r1=>bif (!r1)then some false else Df.a x0 x1 (IntKind.wrap .i64 (x5+1)))else none)else none)else some true:=
 (ak cfg 31 _ _ _).trans (by kernel_rfl)
noncomputable def OW (a0 a1:nK):Option Bool:=ar cfg 10 [.agg [.str a0.1.1,.str a0.1.2.1,.list Y4 a0.1.2.2,.list Y3 a0.2.1.1,.list Y2 a0.2.1.2.1,.list Y0 a0.2.1.2.2.1,.list aW a0.2.1.2.2.2,.list bJ a0.2.2],.agg [.str a1.1.1,.str a1.1.2.1,.list Y4 a1.1.2.2,.list Y3 a1.2.1.1,.list Y2 a1.2.1.2.1,.list Y0 a1.2.1.2.2.1,.list aW a1.2.1.2.2.2,.list bJ a1.2.2]]
theorem Nc (a0 a1:nK):OW a0 a1=(PM a0.1 a1.1).bind fun r1=>bif (!r1)then some false else((PT a0.2.1 a1.2.1).bind fun r2=>bif (!r2)then some false else((Df a0.2.2 a1.2.2).bind fun r3=>bif (!r3)then some false else some true)):=
 (aa cfg 10 _).trans (by kernel_rfl)
noncomputable def qu (a0:Int):Option ByteArray:=ar cfg 69 [.v (.int .i64 a0)]
noncomputable def qu.a (x0:Int) (x3:ByteArray):Option ByteArray:=LA 69 Tryz.f69 [1,1,1,0,0] ⟨20,af [vI 0 x0,(3,.v (.str x3))],ai []⟩
theorem Nd (a0:Int):qu a0=bif (decide (a0≤0))then some (⟨#[109,48]⟩:ByteArray)else qu.a a0 (⟨#[]⟩:ByteArray):=
 (aa cfg 69 _).trans (by kernel_rfl)
theorem qu.a_eq (x0:Int) (x3:ByteArray):qu.a x0 x3=bif (decide (x0>0))then(bif (decide ((aI [(IntKind.wrap .u8 ((IntKind.wrap .i64 (48+(x0.tmod 10)))))]).size+x3.size≤9223372036854775807))then qu.a (IntKind.wrap .i64 (x0.tdiv 10)) ((aI [(IntKind.wrap .u8 ((IntKind.wrap .i64 (48+(x0.tmod 10)))))])++x3)else none)else(bif (decide ((⟨#[109]⟩:ByteArray).size+x3.size≤9223372036854775807))then some ((⟨#[109]⟩:ByteArray)++x3)else none):=
 (ak cfg 69 _ _ _).trans (by kernel_rfl)
noncomputable def Dg (a0:List D2) (a1:Int):Option (Int×List D2):=ar cfg 64 [.v (.list Y4 a0),.v (.int .i64 a1)]
noncomputable def Dg.a (x0:List D2) (x1 x5:Int):Option (Int×List D2):=LA 64 Tryz.f64 [1,0,1,0] ⟨49,af [(0,.v (.own 64)),vI 1 x1,vI 5 x5],ai [(64,.rows 186 Y4 .no x0)]⟩
theorem Nf (a0:List D2) (a1:Int):Dg a0 a1=Dg.a a0 a1 0:=
 (aa cfg 64 _).trans (by kernel_rfl)
theorem Dg.a_eq (x0:List D2) (x1 x5:Int):Dg.a x0 x1 x5=bif (decide (x5< (x0.length:Int)))then((qu x1).bind fun r1=>bif (ao x5 (x0.length))then(bif (ao x5 ((x0.set (Int.toNat x5) (r1,(rd (τ:=Y4) x0 x5).2)).length))then(letB ((x0.set (Int.toNat x5) (r1,(rd (τ:=Y4) x0 x5).2)).set (Int.toNat x5) ((rd (τ:=Y4) (x0.set (Int.toNat x5) (r1,(rd (τ:=Y4) x0 x5).2)) x5).1,(IntKind.wrap .i64 (x1+1)),(rd (τ:=Y4) (x0.set (Int.toNat x5) (r1,(rd (τ:=Y4) x0 x5).2)) x5).2.2)) fun r2=>bif (ao x5 (r2.length))then(letB (r2.set (Int.toNat x5) ((rd (τ:=Y4) r2 x5).1,(rd (τ:=Y4) r2 x5).2.1,(IntKind.wrap .i64 ((IntKind.wrap .i64 (x1+1))+1)),(rd (τ:=Y4) r2 x5).2.2.2)) fun r3=>bif (ao x5 (r3.length))then(letB (r3.set (Int.toNat x5) ((rd (τ:=Y4) r3 x5).1,(rd (τ:=Y4) r3 x5).2.1,(rd (τ:=Y4) r3 x5).2.2.1,(IntKind.wrap .i64 ((IntKind.wrap .i64 ((IntKind.wrap .i64 (x1+1))+1))+1)),(rd (τ:=Y4) r3 x5).2.2.2.2)) fun r4=>bif (ao x5 (r4.length))then(letB (r4.set (Int.toNat x5) ((rd (τ:=Y4) r4 x5).1,(rd (τ:=Y4) r4 x5).2.1,(rd (τ:=Y4) r4 x5).2.2.1,(rd (τ:=Y4) r4 x5).2.2.2.1,(IntKind.wrap .i64 ((IntKind.wrap .i64 ((IntKind.wrap .i64 ((IntKind.wrap .i64 (x1+1))+1))+1))+1)))) fun r5=>Dg.a r5 (IntKind.wrap .i64 ((IntKind.wrap .i64 ((IntKind.wrap .i64 ((IntKind.wrap .i64 ((IntKind.wrap .i64 (x1+1))+1))+1))+1))+1)) (IntKind.wrap .i64 (x5+1)))else none)else none)else none)else none)else none)else some (x1,x0):=
 (ak cfg 64 _ _ _).trans (by kernel_rfl)
noncomputable def P4 (a0:D3) (a1:Int):Option RF:=ar cfg 32 [.agg [.str a0.1,.str a0.2.1,.list Y4 a0.2.2],.v (.int .i64 a1)]
theorem Ng (a0:D3) (a1:Int):P4 a0 a1=(Dg a0.2.2 a1).bind fun r1=>some (r1.1,(),(),r1.2):=
 (aa cfg 32 _).trans (by kernel_rfl)
noncomputable def Dh (a0:List D1) (a1:Int):Option (Int×List D1):=ar cfg 124 [.v (.list Y3 a0),.v (.int .i64 a1)]
noncomputable def Dh.a (x0:List D1) (x1 x5:Int):Option (Int×List D1):=LA 124 Tryz.f124 [1,0,1,0] ⟨35,af [(0,.v (.own 64)),vI 1 x1,vI 5 x5],ai [(64,.rows 185 Y3 .no x0)]⟩
theorem Nh (a0:List D1) (a1:Int):Dh a0 a1=Dh.a a0 a1 0:=
 (aa cfg 124 _).trans (by kernel_rfl)
theorem Dh.a_eq (x0:List D1) (x1 x5:Int):Dh.a x0 x1 x5=bif (decide (x5< (x0.length:Int)))then(bif (ao x5 (x0.length))then(bif (ao x5 ((x0.set (Int.toNat x5) (x1,(rd (τ:=Y3) x0 x5).2)).length))then(letB ((x0.set (Int.toNat x5) (x1,(rd (τ:=Y3) x0 x5).2)).set (Int.toNat x5) ((rd (τ:=Y3) (x0.set (Int.toNat x5) (x1,(rd (τ:=Y3) x0 x5).2)) x5).1,(IntKind.wrap .i64 (x1+1)),(rd (τ:=Y3) (x0.set (Int.toNat x5) (x1,(rd (τ:=Y3) x0 x5).2)) x5).2.2)) fun r1=>(qu (IntKind.wrap .i64 ((IntKind.wrap .i64 (x1+1))+1))).bind fun r2=>bif (ao x5 (r1.length))then Dh.a (r1.set (Int.toNat x5) ((rd (τ:=Y3) r1 x5).1,(rd (τ:=Y3) r1 x5).2.1,r2)) (IntKind.wrap .i64 ((IntKind.wrap .i64 ((IntKind.wrap .i64 (x1+1))+1))+1)) (IntKind.wrap .i64 (x5+1))else none)else none)else none)else some (x1,x0):=
 (ak cfg 124 _ _ _).trans (by kernel_rfl)
noncomputable def P5 (a0:List D1) (a1:Int):Option (Int×List D1):=ar cfg 65 [.agg [.list Y3 a0],.v (.int .i64 a1)]
theorem Ni (a0:List D1) (a1:Int):P5 a0 a1=(Dh a0 a1).bind fun r1=>some r1:=
 (aa cfg 65 _).trans (by kernel_rfl)
noncomputable def tH (a0:List Int) (a1:Int):Option (Int×List Int):=ar cfg 12 [.v (.list (.int .i64) a0),.v (.int .i64 a1)]
noncomputable def tH.a (x0:List Int) (x1 x5:Int):Option (Int×List Int):=LA 12 Tryz.f12 [1,0,1,0] ⟨19,af [(0,.v (.own 64)),vI 1 x1,vI 5 x5],ai [(64,.rows 3 (.int .i64) .no x0)]⟩
theorem Gk (a0:List Int) (a1:Int):tH a0 a1=tH.a a0 a1 0:=
 (aa cfg 12 _).trans (by kernel_rfl)
theorem tH.a_eq (x0:List Int) (x1 x5:Int):tH.a x0 x1 x5=bif (decide (x5< (x0.length:Int)))then(bif (ao x5 (x0.length))then tH.a (x0.set (Int.toNat x5) x1) (IntKind.wrap .i64 (x1+1)) (IntKind.wrap .i64 (x5+1))else none)else some (x1,x0):=
 (ak cfg 12 _ _ _).trans (by kernel_rfl)
noncomputable def q8 (a0:List D4) (a1:Int):Option (Int×List D4):=ar cfg 66 [.v (.list Y2 a0),.v (.int .i64 a1)]
noncomputable def q8.a (x0:List D4) (x1 x5:Int):Option (Int×List D4):=LA 66 Tryz.f66 [1,0,1,0] ⟨57,af [(0,.v (.own 64)),vI 1 x1,vI 5 x5],ai [(64,.rows 174 Y2 (.pair .no (.pair .no (.pair (.own 3 .no) .no))) x0)]⟩
noncomputable def q8.b (x0:List D4) (x1 x5 x6:Int):Option (Int×List D4):=LA 66 Tryz.f66 [1,0,1,0,0,1,0,0,1,1,0,1,0] ⟨57,af [(0,.v (.own 64)),vI 1 x1,vI 5 x5,vI 6 x6],ai [(64,.rows 174 Y2 (.pair .no (.pair .no (.pair (.own 3 .no) .no))) x0)]⟩
theorem Nj (a0:List D4) (a1:Int):q8 a0 a1=q8.a a0 a1 0:=
 (aa cfg 66 _).trans (by kernel_rfl)
theorem q8.a_eq (x0:List D4) (x1 x5:Int):q8.a x0 x1 x5=bif (decide (x5< (x0.length:Int)))then(bif (ao x5 (x0.length))then q8.b (x0.set (Int.toNat x5) (x1,(rd (τ:=Y2) x0 x5).2)) (IntKind.wrap .i64 (x1+1)) x5 0 else none)else some (x1,x0):=
 (ak cfg 66 _ _ _).trans (by kernel_rfl)
theorem q8.b_eq (x0:List D4) (x1 x5 x6:Int):q8.b x0 x1 x5 x6=bif (decide (x6<32))then(bif (ao x5 (x0.length))then(bif (ao x6 32)then(letB (x0.set (Int.toNat x5) ((rd (τ:=Y2) x0 x5).1,((((rd (τ:=Y2) x0 x5).2.1.1).set (Int.toNat x6) x1),(rd (τ:=Y2) x0 x5).2.1.2),(rd (τ:=Y2) x0 x5).2.2)) fun r3=>q8.b r3 (IntKind.wrap .i64 (x1+1)) x5 (IntKind.wrap .i64 (x6+1)))else none)else none)else(bif (ao x5 (x0.length))then(letB (x0.set (Int.toNat x5) ((rd (τ:=Y2) x0 x5).1,((rd (τ:=Y2) x0 x5).2.1.1,x1),(rd (τ:=Y2) x0 x5).2.2)) fun r1=>bif (ao x5 (r1.length))then((tH ((rd (τ:=Y2) r1 x5).2.2.1) (IntKind.wrap .i64 (x1+1))).bind fun r2=>bif (ao x5 (r1.length))then(bif (decide (x5=x5))then q8.a (r1.set (Int.toNat x5) ((rd (τ:=Y2) r1 x5).1,(rd (τ:=Y2) r1 x5).2.1,r2.2,r2.1)) (IntKind.wrap .i64 (r2.1+1)) (IntKind.wrap .i64 (x5+1))else none)else none)else none)else none):=
 (ak cfg 66 _ _ _).trans (by kernel_rfl)
noncomputable def Di (a0:List D0) (a1:Int):Option (Int×List D0):=ar cfg 67 [.v (.list Y0 a0),.v (.int .i64 a1)]
noncomputable def Di.a (x0:List D0) (x1 x5:Int):Option (Int×List D0):=LA 67 Tryz.f67 [1,0,1,0] ⟨56,af [(0,.v (.own 64)),vI 1 x1,vI 5 x5],ai [(64,.rows 116 Y0 .no x0)]⟩
theorem Nk (a0:List D0) (a1:Int):Di a0 a1=Di.a a0 a1 0:=
 (aa cfg 67 _).trans (by kernel_rfl)
theorem Di.a_eq (x0:List D0) (x1 x5:Int):Di.a x0 x1 x5=bif (decide (x5< (x0.length:Int)))then((qu x1).bind fun r1=>bif (ao x5 (x0.length))then(bif (ao x5 ((x0.set (Int.toNat x5) (r1,(rd (τ:=Y0) x0 x5).2)).length))then(letB ((x0.set (Int.toNat x5) (r1,(rd (τ:=Y0) x0 x5).2)).set (Int.toNat x5) ((rd (τ:=Y0) (x0.set (Int.toNat x5) (r1,(rd (τ:=Y0) x0 x5).2)) x5).1,(IntKind.wrap .i64 (x1+1)),(rd (τ:=Y0) (x0.set (Int.toNat x5) (r1,(rd (τ:=Y0) x0 x5).2)) x5).2.2)) fun r2=>bif (ao x5 (r2.length))then(letB (r2.set (Int.toNat x5) ((rd (τ:=Y0) r2 x5).1,(rd (τ:=Y0) r2 x5).2.1,(IntKind.wrap .i64 ((IntKind.wrap .i64 (x1+1))+1)),(rd (τ:=Y0) r2 x5).2.2.2)) fun r3=>bif (ao x5 (r3.length))then(letB (r3.set (Int.toNat x5) ((rd (τ:=Y0) r3 x5).1,(rd (τ:=Y0) r3 x5).2.1,(rd (τ:=Y0) r3 x5).2.2.1,(IntKind.wrap .i64 ((IntKind.wrap .i64 ((IntKind.wrap .i64 (x1+1))+1))+1)),(rd (τ:=Y0) r3 x5).2.2.2.2)) fun r4=>bif (ao x5 (r4.length))then(letB (r4.set (Int.toNat x5) ((rd (τ:=Y0) r4 x5).1,(rd (τ:=Y0) r4 x5).2.1,(rd (τ:=Y0) r4 x5).2.2.1,(rd (τ:=Y0) r4 x5).2.2.2.1,(IntKind.wrap .i64 ((IntKind.wrap .i64 ((IntKind.wrap .i64 ((IntKind.wrap .i64 (x1+1))+1))+1))+1)),(rd (τ:=Y0) r4 x5).2.2.2.2.2)) fun r5=>bif (ao x5 (r5.length))then(letB (r5.set (Int.toNat x5) ((rd (τ:=Y0) r5 x5).1,(rd (τ:=Y0) r5 x5).2.1,(rd (τ:=Y0) r5 x5).2.2.1,(rd (τ:=Y0) r5 x5).2.2.2.1,(rd (τ:=Y0) r5 x5).2.2.2.2.1,(IntKind.wrap .i64 ((IntKind.wrap .i64 ((IntKind.wrap .i64 ((IntKind.wrap .i64 ((IntKind.wrap .i64 (x1+1))+1))+1))+1))+1)))) fun r6=>Di.a r6 (IntKind.wrap .i64 ((IntKind.wrap .i64 ((IntKind.wrap .i64 ((IntKind.wrap .i64 ((IntKind.wrap .i64 ((IntKind.wrap .i64 (x1+1))+1))+1))+1))+1))+1)) (IntKind.wrap .i64 (x5+1)))else none)else none)else none)else none)else none)else none)else some (x1,x0):=
 (ak cfg 67 _ _ _).trans (by kernel_rfl)
noncomputable def Dj (a0:List (Int×Int×Int)) (a1:Int):Option Rw:=ar cfg 68 [.v (.list aW a0),.v (.int .i64 a1)]
noncomputable def Dj.a (x0:List (Int×Int×Int)) (x1 x5:Int):Option Rw:=LA 68 Tryz.f68 [1,0,1,0] ⟨34,af [(0,.v (.own 64)),vI 1 x1,vI 5 x5],ai [(64,.rows 192 aW .no x0)]⟩
theorem Nl (a0:List (Int×Int×Int)) (a1:Int):Dj a0 a1=Dj.a a0 a1 0:=
 (aa cfg 68 _).trans (by kernel_rfl)
theorem Dj.a_eq (x0:List (Int×Int×Int)) (x1 x5:Int):Dj.a x0 x1 x5=bif (decide (x5< (x0.length:Int)))then(bif (ao x5 (x0.length))then(bif (ao x5 ((x0.set (Int.toNat x5) (x1,(rd (τ:=aW) x0 x5).2)).length))then(letB ((x0.set (Int.toNat x5) (x1,(rd (τ:=aW) x0 x5).2)).set (Int.toNat x5) ((rd (τ:=aW) (x0.set (Int.toNat x5) (x1,(rd (τ:=aW) x0 x5).2)) x5).1,(IntKind.wrap .i64 (x1+1)),(rd (τ:=aW) (x0.set (Int.toNat x5) (x1,(rd (τ:=aW) x0 x5).2)) x5).2.2)) fun r1=>bif (ao x5 (r1.length))then(letB (r1.set (Int.toNat x5) ((rd (τ:=aW) r1 x5).1,(rd (τ:=aW) r1 x5).2.1,(IntKind.wrap .i64 ((IntKind.wrap .i64 (x1+1))+1)))) fun r2=>Dj.a r2 (IntKind.wrap .i64 ((IntKind.wrap .i64 ((IntKind.wrap .i64 (x1+1))+1))+1)) (IntKind.wrap .i64 (x5+1)))else none)else none)else none)else some (x1,x0):=
 (ak cfg 68 _ _ _).trans (by kernel_rfl)
noncomputable def P6 (a0:D5) (a1:Int):Option RG:=ar cfg 33 [.agg [.list Y3 a0.1,.list Y2 a0.2.1,.list Y0 a0.2.2.1,.list aW a0.2.2.2],.v (.int .i64 a1)]
theorem Nm (a0:D5) (a1:Int):P6 a0 a1=(P5 a0.1 a1).bind fun r1=>(q8 a0.2.1 r1.1).bind fun r2=>(Di a0.2.2.1 r2.1).bind fun r3=>(Dj a0.2.2.2 r3.1).bind fun r4=>some (r4.1,r1.2,r2.2,r3.2,r4.2):=
 (aa cfg 33 _).trans (by kernel_rfl)
noncomputable def Dk (a0:List D6) (a1:Int):Option (Int×List D6):=ar cfg 70 [.v (.list Y5 a0),.v (.int .i64 a1)]
noncomputable def Dk.a (x0:List D6) (x1 x5:Int):Option (Int×List D6):=LA 70 Tryz.f70 [1,0,1,0] ⟨45,af [(0,.v (.own 64)),vI 1 x1,vI 5 x5],ai [(64,.rows 215 Y5 .no x0)]⟩
theorem Nn (a0:List D6) (a1:Int):Dk a0 a1=Dk.a a0 a1 0:=
 (aa cfg 70 _).trans (by kernel_rfl)
theorem Dk.a_eq (x0:List D6) (x1 x5:Int):Dk.a x0 x1 x5=bif (decide (x5< (x0.length:Int)))then((qu x1).bind fun r1=>bif (ao x5 (x0.length))then(bif (ao x5 ((x0.set (Int.toNat x5) (r1,(rd (τ:=Y5) x0 x5).2)).length))then(letB ((x0.set (Int.toNat x5) (r1,(rd (τ:=Y5) x0 x5).2)).set (Int.toNat x5) ((rd (τ:=Y5) (x0.set (Int.toNat x5) (r1,(rd (τ:=Y5) x0 x5).2)) x5).1,(decide (((IntKind.wrap .i64 (x1+1)).tmod 3)=0)),(rd (τ:=Y5) (x0.set (Int.toNat x5) (r1,(rd (τ:=Y5) x0 x5).2)) x5).2.2)) fun r2=>bif (ao x5 (r2.length))then(letB (r2.set (Int.toNat x5) ((rd (τ:=Y5) r2 x5).1,(rd (τ:=Y5) r2 x5).2.1,(IntKind.wrap .i64 ((IntKind.wrap .i64 (x1+1))+1)),(rd (τ:=Y5) r2 x5).2.2.2)) fun r3=>(qu (IntKind.wrap .i64 ((IntKind.wrap .i64 ((IntKind.wrap .i64 (x1+1))+1))+1))).bind fun r4=>bif (ao x5 (r3.length))then(letB (r3.set (Int.toNat x5) ((rd (τ:=Y5) r3 x5).1,(rd (τ:=Y5) r3 x5).2.1,(rd (τ:=Y5) r3 x5).2.2.1,r4)) fun r5=>Dk.a r5 (IntKind.wrap .i64 ((IntKind.wrap .i64 ((IntKind.wrap .i64 ((IntKind.wrap .i64 (x1+1))+1))+1))+1)) (IntKind.wrap .i64 (x5+1)))else none)else none)else none)else none)else some (x1,x0):=
 (ak cfg 70 _ _ _).trans (by kernel_rfl)
noncomputable def Dl (a0:List D7) (a1:Int):Option (Int×List D7):=ar cfg 71 [.v (.list (.pair .str .str) a0),.v (.int .i64 a1)]
noncomputable def Dl.a (x0:List D7) (x1 x5:Int):Option (Int×List D7):=LA 71 Tryz.f71 [1,0,1,0] ⟨29,af [(0,.v (.own 64)),vI 1 x1,vI 5 x5],ai [(64,.rows 217 (.pair .str .str) .no x0)]⟩
theorem No (a0:List D7) (a1:Int):Dl a0 a1=Dl.a a0 a1 0:=
 (aa cfg 71 _).trans (by kernel_rfl)
theorem Dl.a_eq (x0:List D7) (x1 x5:Int):Dl.a x0 x1 x5=bif (decide (x5< (x0.length:Int)))then((qu x1).bind fun r1=>bif (ao x5 (x0.length))then((qu (IntKind.wrap .i64 (x1+1))).bind fun r2=>bif (ao x5 ((x0.set (Int.toNat x5) (r1,(rd (τ:=(.pair .str .str)) x0 x5).2)).length))then(letB ((x0.set (Int.toNat x5) (r1,(rd (τ:=(.pair .str .str)) x0 x5).2)).set (Int.toNat x5) ((rd (τ:=(.pair .str .str)) (x0.set (Int.toNat x5) (r1,(rd (τ:=(.pair .str .str)) x0 x5).2)) x5).1,r2)) fun r3=>Dl.a r3 (IntKind.wrap .i64 ((IntKind.wrap .i64 (x1+1))+1)) (IntKind.wrap .i64 (x5+1)))else none)else none)else some (x1,x0):=
 (ak cfg 71 _ _ _).trans (by kernel_rfl)
noncomputable def Dm (a0:List D8) (a1:Int):Option (Int×List D8):=ar cfg 72 [.v (.list Y6 a0),.v (.int .i64 a1)]
noncomputable def Dm.a (x0:List D8) (x1 x5:Int):Option (Int×List D8):=LA 72 Tryz.f72 [1,0,1,0] ⟨49,af [(0,.v (.own 64)),vI 1 x1,vI 5 x5],ai [(64,.rows 219 Y6 .no x0)]⟩
theorem Np (a0:List D8) (a1:Int):Dm a0 a1=Dm.a a0 a1 0:=
 (aa cfg 72 _).trans (by kernel_rfl)
theorem Dm.a_eq (x0:List D8) (x1 x5:Int):Dm.a x0 x1 x5=bif (decide (x5< (x0.length:Int)))then(bif (ao x5 (x0.length))then(bif (ao x5 ((x0.set (Int.toNat x5) (x1,(rd (τ:=Y6) x0 x5).2)).length))then(letB ((x0.set (Int.toNat x5) (x1,(rd (τ:=Y6) x0 x5).2)).set (Int.toNat x5) ((rd (τ:=Y6) (x0.set (Int.toNat x5) (x1,(rd (τ:=Y6) x0 x5).2)) x5).1,(IntKind.wrap .i64 (x1+1)),(rd (τ:=Y6) (x0.set (Int.toNat x5) (x1,(rd (τ:=Y6) x0 x5).2)) x5).2.2)) fun r1=>bif (ao x5 (r1.length))then(letB (r1.set (Int.toNat x5) ((rd (τ:=Y6) r1 x5).1,(rd (τ:=Y6) r1 x5).2.1,(IntKind.wrap .i64 ((IntKind.wrap .i64 (x1+1))+1)),(rd (τ:=Y6) r1 x5).2.2.2)) fun r2=>(qu (IntKind.wrap .i64 ((IntKind.wrap .i64 ((IntKind.wrap .i64 (x1+1))+1))+1))).bind fun r3=>bif (ao x5 (r2.length))then(letB (r2.set (Int.toNat x5) ((rd (τ:=Y6) r2 x5).1,(rd (τ:=Y6) r2 x5).2.1,(rd (τ:=Y6) r2 x5).2.2.1,r3,(rd (τ:=Y6) r2 x5).2.2.2.2)) fun r4=>bif (ao x5 (r4.length))then(letB (r4.set (Int.toNat x5) ((rd (τ:=Y6) r4 x5).1,(rd (τ:=Y6) r4 x5).2.1,(rd (τ:=Y6) r4 x5).2.2.1,(rd (τ:=Y6) r4 x5).2.2.2.1,(IntKind.wrap .i64 ((IntKind.wrap .i64 ((IntKind.wrap .i64 ((IntKind.wrap .i64 (x1+1))+1))+1))+1)))) fun r5=>Dm.a r5 (IntKind.wrap .i64 ((IntKind.wrap .i64 ((IntKind.wrap .i64 ((IntKind.wrap .i64 ((IntKind.wrap .i64 (x1+1))+1))+1))+1))+1)) (IntKind.wrap .i64 (x5+1)))else none)else none)else none)else none)else none)else some (x1,x0):=
 (ak cfg 72 _ _ _).trans (by kernel_rfl)
noncomputable def Dn (a0:List (Int×Bool)) (a1:Int):Option Rx:=ar cfg 73 [.v (.list (.pair (.int .i64) .bool) a0),.v (.int .i64 a1)]
noncomputable def Dn.a (x0:List (Int×Bool)) (x1 x5:Int):Option Rx:=LA 73 Tryz.f73 [1,0,1,0] ⟨29,af [(0,.v (.own 64)),vI 1 x1,vI 5 x5],ai [(64,.rows 221 (.pair (.int .i64) .bool) .no x0)]⟩
theorem Nq (a0:List (Int×Bool)) (a1:Int):Dn a0 a1=Dn.a a0 a1 0:=
 (aa cfg 73 _).trans (by kernel_rfl)
theorem Dn.a_eq (x0:List (Int×Bool)) (x1 x5:Int):Dn.a x0 x1 x5=bif (decide (x5< (x0.length:Int)))then(bif (ao x5 (x0.length))then(bif (ao x5 ((x0.set (Int.toNat x5) (x1,(rd (τ:=(.pair (.int .i64) .bool)) x0 x5).2)).length))then(letB ((x0.set (Int.toNat x5) (x1,(rd (τ:=(.pair (.int .i64) .bool)) x0 x5).2)).set (Int.toNat x5) ((rd (τ:=(.pair (.int .i64) .bool)) (x0.set (Int.toNat x5) (x1,(rd (τ:=(.pair (.int .i64) .bool)) x0 x5).2)) x5).1,(decide (((IntKind.wrap .i64 (x1+1)).tmod 3)=0)))) fun r1=>Dn.a r1 (IntKind.wrap .i64 ((IntKind.wrap .i64 (x1+1))+1)) (IntKind.wrap .i64 (x5+1)))else none)else none)else some (x1,x0):=
 (ak cfg 73 _ _ _).trans (by kernel_rfl)
noncomputable def Cj (a0:List ByteArray) (a1:Int):Option Ry:=ar cfg 74 [.v (.list .str a0),.v (.int .i64 a1)]
noncomputable def Cj.a (x0:List ByteArray) (x1 x5:Int):Option Ry:=LA 74 Tryz.f74 [1,0,1,0] ⟨20,af [(0,.v (.own 64)),vI 1 x1,vI 5 x5],ai [(64,.rows 9 .str .no x0)]⟩
theorem Nr (a0:List ByteArray) (a1:Int):Cj a0 a1=Cj.a a0 a1 0:=
 (aa cfg 74 _).trans (by kernel_rfl)
theorem Cj.a_eq (x0:List ByteArray) (x1 x5:Int):Cj.a x0 x1 x5=bif (decide (x5< (x0.length:Int)))then((qu x1).bind fun r1=>bif (ao x5 (x0.length))then Cj.a (x0.set (Int.toNat x5) r1) (IntKind.wrap .i64 (x1+1)) (IntKind.wrap .i64 (x5+1))else none)else some (x1,x0):=
 (ak cfg 74 _ _ _).trans (by kernel_rfl)
noncomputable def Do (a0:List (Int×Int)) (a1:Int):Option Rz:=ar cfg 75 [.v (.list Y9 a0),.v (.int .i64 a1)]
noncomputable def Do.a (x0:List (Int×Int)) (x1 x5:Int):Option Rz:=LA 75 Tryz.f75 [1,0,1,0] ⟨27,af [(0,.v (.own 64)),vI 1 x1,vI 5 x5],ai [(64,.rows 202 Y9 .no x0)]⟩
theorem Ns (a0:List (Int×Int)) (a1:Int):Do a0 a1=Do.a a0 a1 0:=
 (aa cfg 75 _).trans (by kernel_rfl)
theorem Do.a_eq (x0:List (Int×Int)) (x1 x5:Int):Do.a x0 x1 x5=bif (decide (x5< (x0.length:Int)))then(bif (ao x5 (x0.length))then(bif (ao x5 ((x0.set (Int.toNat x5) (x1,(rd (τ:=Y9) x0 x5).2)).length))then(letB ((x0.set (Int.toNat x5) (x1,(rd (τ:=Y9) x0 x5).2)).set (Int.toNat x5) ((rd (τ:=Y9) (x0.set (Int.toNat x5) (x1,(rd (τ:=Y9) x0 x5).2)) x5).1,(IntKind.wrap .i64 (x1+1)))) fun r1=>Do.a r1 (IntKind.wrap .i64 ((IntKind.wrap .i64 (x1+1))+1)) (IntKind.wrap .i64 (x5+1)))else none)else none)else some (x1,x0):=
 (ak cfg 75 _ _ _).trans (by kernel_rfl)
noncomputable def Dp (a0:List ef) (a1:Int):Option (Int×List ef):=ar cfg 34 [.v (.list bJ a0),.v (.int .i64 a1)]
noncomputable def Dp.a (x0:List ef) (x1 x5:Int):Option (Int×List ef):=LA 34 Tryz.f34 [1,0,1,0] ⟨101,af [(0,.v (.own 64)),vI 1 x1,vI 5 x5],ai [(64,.rows 131 bJ (.pair (.pair .no (.pair .no (.pair (.own 215 .no) (.pair (.own 217 .no) (.pair (.own 219 .no) (.own 221 .no)))))) (.pair (.pair (.own 3 .no) (.pair (.own 9 .no) (.pair (.own 3 .no) (.own 9 .no)))) (.own 202 .no))) x0)]⟩
theorem Nt (a0:List ef) (a1:Int):Dp a0 a1=Dp.a a0 a1 0:=
 (aa cfg 34 _).trans (by kernel_rfl)
theorem Dp.a_eq (x0:List ef) (x1 x5:Int):Dp.a x0 x1 x5=bif (decide (x5< (x0.length:Int)))then((qu x1).bind fun r1=>bif (ao x5 (x0.length))then(letB (x0.set (Int.toNat x5) ((r1,(rd (τ:=bJ) x0 x5).1.2),(rd (τ:=bJ) x0 x5).2)) fun r2=>bif (ao x5 (r2.length))then(letB (r2.set (Int.toNat x5) (((rd (τ:=bJ) r2 x5).1.1,(IntKind.wrap .i64 (x1+1)),(rd (τ:=bJ) r2 x5).1.2.2),(rd (τ:=bJ) r2 x5).2)) fun r3=>bif (ao x5 (r3.length))then((Dk ((rd (τ:=bJ) r3 x5).1.2.2.1) (IntKind.wrap .i64 ((IntKind.wrap .i64 (x1+1))+1))).bind fun r4=>bif (ao x5 (r3.length))then(bif (decide (x5=x5))then((Dl ((rd (τ:=bJ) r3 x5).1.2.2.2.1) r4.1).bind fun r5=>bif (ao x5 (r3.length))then(bif (decide (x5=x5))then((Dm ((rd (τ:=bJ) r3 x5).1.2.2.2.2.1) r5.1).bind fun r6=>bif (ao x5 (r3.length))then(bif (decide (x5=x5))then((Dn ((rd (τ:=bJ) r3 x5).1.2.2.2.2.2) r6.1).bind fun r7=>bif (ao x5 (r3.length))then(bif (decide (x5=x5))then((tH ((rd (τ:=bJ) r3 x5).2.1.1) r7.1).bind fun r8=>bif (ao x5 (r3.length))then(bif (decide (x5=x5))then((Cj ((rd (τ:=bJ) r3 x5).2.1.2.1) r8.1).bind fun r9=>bif (ao x5 (r3.length))then(bif (decide (x5=x5))then((tH ((rd (τ:=bJ) r3 x5).2.1.2.2.1) r9.1).bind fun r10=>bif (ao x5 (r3.length))then(bif (decide (x5=x5))then((Cj ((rd (τ:=bJ) r3 x5).2.1.2.2.2) r10.1).bind fun r11=>bif (ao x5 (r3.length))then(bif (decide (x5=x5))then((Do ((rd (τ:=bJ) r3 x5).2.2) r11.1).bind fun r12=>Dp.a (r3.set (Int.toNat x5) (((rd (τ:=bJ) r3 x5).1.1,(rd (τ:=bJ) r3 x5).1.2.1,r4.2,r5.2,r6.2,r7.2),(r8.2,r9.2,r10.2,r11.2),r12.2)) r12.1 (IntKind.wrap .i64 (x5+1)))else none)else none)else none)else none)else none)else none)else none)else none)else none)else none)else none)else none)else none)else none)else none)else none)else none)else none)else none)else some (x1,x0):=
 (ak cfg 34 _ _ _).trans (by kernel_rfl)
noncomputable def OX (a0:nK) (a1:Int):Option RI:=ar cfg 11 [.agg [.str a0.1.1,.str a0.1.2.1,.list Y4 a0.1.2.2,.list Y3 a0.2.1.1,.list Y2 a0.2.1.2.1,.list Y0 a0.2.1.2.2.1,.list aW a0.2.1.2.2.2,.list bJ a0.2.2],.v (.int .i64 a1)]
theorem Nu (a0:nK) (a1:Int):OX a0 a1=(P4 a0.1 a1).bind fun r1=>(P6 a0.2.1 r1.1).bind fun r2=>(Dp a0.2.2 r2.1).bind fun r3=>some (r3.1,((),(),r1.2.2.2),r2.2,r3.2):=
 (aa cfg 11 _).trans (by kernel_rfl)
noncomputable def Dq (a0:List Int) (a1:Int):Option Int:=ar cfg 13 [.v (.list (.int .i64) a0),.v (.int .i64 a1)]
noncomputable def Dq.a (x0:List Int) (x1 x5:Int):Option Int:=LA 13 Tryz.f13 [1,0,1,0] ⟨21,af [vL 0 (.int .i64) x0,vI 1 x1,vI 5 x5],ai []⟩
theorem Nv (a0:List Int) (a1:Int):Dq a0 a1=Dq.a a0 a1 0:=
 (aa cfg 13 _).trans (by kernel_rfl)
theorem Dq.a_eq (x0:List Int) (x1 x5:Int):Dq.a x0 x1 x5=bif (decide (x5< (x0.length:Int)))then(bif (ao x5 (x0.length))then(bif (!decide ((rd (τ:=(.int .i64)) x0 x5)=x1))then some (-1)else Dq.a x0 (IntKind.wrap .i64 (x1+1)) (IntKind.wrap .i64 (x5+1)))else none)else some x1:=
 (ak cfg 13 _ _ _).trans (by kernel_rfl)
noncomputable def Rq (a0:nK):Option Bool:=ar cfg 3 [.agg [.str a0.1.1,.str a0.1.2.1,.list Y4 a0.1.2.2,.list Y3 a0.2.1.1,.list Y2 a0.2.1.2.1,.list Y0 a0.2.1.2.2.1,.list aW a0.2.1.2.2.2,.list bJ a0.2.2]]
theorem Nw (a0:nK):Rq a0=(Zu a0 1048576).bind fun r1=>bif (decide (r1<0))then some true else((Fc a0).bind fun r2=>(CF r2).bind fun r3=>(Fc a0).bind fun r4=>(PJ r4).bind fun r5=>ax (fun kr27=>(q7 r5.1 r3.1).bind fun r6=>bif (!r6)then kr27 true else kr27 (!decide (r5.2=r3.2))) fun(r8:Bool)=>bif r8 then some false else((Fc a0).bind fun r9=>(OW r4 r9).bind fun r10=>bif (!r10)then some false else((OX r4 1).bind fun r11=>ax (fun kr26=>bif (decide (r11.1<0))then kr26 true else((q7 r5.1 r3.1).bind fun r12=>bif (!r12)then kr26 true else kr26 (!decide (r5.2=r3.2)))) fun(r16:Bool)=>bif r16 then some false else((tH r5.1 1).bind fun r17=>(Dq r17.2 1).bind fun r18=>bif (decide (r18<0))then some false else(bif (!decide (r18=r17.1))then some false else((Fc a0).bind fun r19=>(PJ r19).bind fun r20=>ax (fun kr25=>(q7 r20.1 r3.1).bind fun r21=>bif (!r21)then kr25 true else kr25 (!decide (r20.2=r3.2))) fun(r23:Bool)=>bif r23 then some false else((Dq r17.2 1).bind fun r24=>bif (decide (r24<0))then some false else(bif (!decide (r24=r17.1))then some false else some true)))))))):=
 (aa cfg 3 _).trans (by kernel_rfl)
noncomputable def Q3 (a0:nK):Option (List bQ×Int):=ar cfg 14 [.agg [.str a0.1.1,.str a0.1.2.1,.list Y4 a0.1.2.2,.list Y3 a0.2.1.1,.list Y2 a0.2.1.2.1,.list Y0 a0.2.1.2.2.1,.list aW a0.2.1.2.2.2,.list bJ a0.2.2]]
theorem Nx (a0:nK):Q3 a0=(OJ a0).bind fun r1=>bif (!r1.2)then some ([],1)else some (r1.1.2.2.2.1,0):=
 (aa cfg 14 _).trans (by kernel_rfl)
noncomputable def P7 (a0:nK):Option (List bQ×Int):=ar cfg 15 [.agg [.str a0.1.1,.str a0.1.2.1,.list Y4 a0.1.2.2,.list Y3 a0.2.1.1,.list Y2 a0.2.1.2.1,.list Y0 a0.2.1.2.2.1,.list aW a0.2.1.2.2.2,.list bJ a0.2.2]]
theorem Ny (a0:nK):P7 a0=(OV a0).bind fun r1=>bif (!r1.2)then some ([],1)else some (r1.1.2.1,0):=
 (aa cfg 15 _).trans (by kernel_rfl)
noncomputable def Rr (a0 a1:bQ):Option Bool:=ar cfg 35 [.agg [.int .i64 a0.1,.int .i64 a0.2.1,.int .i64 a0.2.2.1,.int .i64 a0.2.2.2.1,.int .i64 a0.2.2.2.2],.agg [.int .i64 a1.1,.int .i64 a1.2.1,.int .i64 a1.2.2.1,.int .i64 a1.2.2.2.1,.int .i64 a1.2.2.2.2]]
theorem Nz (a0 a1:bQ):Rr a0 a1=bif (!decide (a0.1=a1.1))then some false else(bif (!decide (a0.2.1=a1.2.1))then some false else(bif (!decide (a0.2.2.1=a1.2.2.1))then some false else(bif (!decide (a0.2.2.2.1=a1.2.2.2.1))then some false else(bif (!decide (a0.2.2.2.2=a1.2.2.2.2))then some false else some true)))):=
 (aa cfg 35 _).trans (by kernel_rfl)
noncomputable def Ck (a0 a1:List bQ):Option Bool:=ar cfg 16 [.v (.list aL a0),.v (.list aL a1)]
noncomputable def Ck.a (x0 x1:List bQ) (x5:Int):Option Bool:=LA 16 Tryz.f16 [1,1,0,1,0] ⟨27,af [vL 0 aL x0,vL 1 aL x1,vI 5 x5],ai []⟩
theorem NA (a0 a1:List bQ):Ck a0 a1=bif (!decide ((a0.length:Int)=(a1.length:Int)))then some false else Ck.a a0 a1 0:=
 (aa cfg 16 _).trans (by kernel_rfl)
theorem Ck.a_eq (x0 x1:List bQ) (x5:Int):Ck.a x0 x1 x5=bif (decide (x5< (x0.length:Int)))then(bif (ao x5 (x0.length))then(bif (ao x5 (x1.length))then((Rr (rd (τ:=aL) x0 x5) (rd (τ:=aL) x1 x5)).bind fun r1=>bif (!r1)then some false else Ck.a x0 x1 (IntKind.wrap .i64 (x5+1)))else none)else none)else some true:=
 (ak cfg 16 _ _ _).trans (by kernel_rfl)
noncomputable def Gl (a0:List bQ) (a1:Int):Option (Int×List bQ):=ar cfg 17 [.v (.list aL a0),.v (.int .i64 a1)]
noncomputable def Gl.a (x0:List bQ) (x1 x5:Int):Option (Int×List bQ):=LA 17 Tryz.f17 [1,0,1,0] ⟨48,af [(0,.v (.own 64)),vI 1 x1,vI 5 x5],ai [(64,.rows 91 aL .no x0)]⟩
theorem NB (a0:List bQ) (a1:Int):Gl a0 a1=Gl.a a0 a1 0:=
 (aa cfg 17 _).trans (by kernel_rfl)
theorem Gl.a_eq (x0:List bQ) (x1 x5:Int):Gl.a x0 x1 x5=bif (decide (x5< (x0.length:Int)))then(bif (ao x5 (x0.length))then(bif (ao x5 ((x0.set (Int.toNat x5) (x1,(rd (τ:=aL) x0 x5).2)).length))then(letB ((x0.set (Int.toNat x5) (x1,(rd (τ:=aL) x0 x5).2)).set (Int.toNat x5) ((rd (τ:=aL) (x0.set (Int.toNat x5) (x1,(rd (τ:=aL) x0 x5).2)) x5).1,(IntKind.wrap .i64 (x1+1)),(rd (τ:=aL) (x0.set (Int.toNat x5) (x1,(rd (τ:=aL) x0 x5).2)) x5).2.2)) fun r1=>bif (ao x5 (r1.length))then(letB (r1.set (Int.toNat x5) ((rd (τ:=aL) r1 x5).1,(rd (τ:=aL) r1 x5).2.1,(IntKind.wrap .i64 ((IntKind.wrap .i64 (x1+1))+1)),(rd (τ:=aL) r1 x5).2.2.2)) fun r2=>bif (ao x5 (r2.length))then(letB (r2.set (Int.toNat x5) ((rd (τ:=aL) r2 x5).1,(rd (τ:=aL) r2 x5).2.1,(rd (τ:=aL) r2 x5).2.2.1,(IntKind.wrap .i64 ((IntKind.wrap .i64 ((IntKind.wrap .i64 (x1+1))+1))+1)),(rd (τ:=aL) r2 x5).2.2.2.2)) fun r3=>bif (ao x5 (r3.length))then(letB (r3.set (Int.toNat x5) ((rd (τ:=aL) r3 x5).1,(rd (τ:=aL) r3 x5).2.1,(rd (τ:=aL) r3 x5).2.2.1,(rd (τ:=aL) r3 x5).2.2.2.1,(IntKind.wrap .i64 ((IntKind.wrap .i64 ((IntKind.wrap .i64 ((IntKind.wrap .i64 (x1+1))+1))+1))+1)))) fun r4=>Gl.a r4 (IntKind.wrap .i64 ((IntKind.wrap .i64 ((IntKind.wrap .i64 ((IntKind.wrap .i64 ((IntKind.wrap .i64 (x1+1))+1))+1))+1))+1)) (IntKind.wrap .i64 (x5+1)))else none)else none)else none)else none)else none)else some (x1,x0):=
 (ak cfg 17 _ _ _).trans (by kernel_rfl)
noncomputable def Dr (a0:List bQ) (a1:Int):Option Int:=ar cfg 18 [.v (.list aL a0),.v (.int .i64 a1)]
noncomputable def Dr.a (x0:List bQ) (x1 x5:Int):Option Int:=LA 18 Tryz.f18 [1,0,1,0] ⟨58,af [vL 0 aL x0,vI 1 x1,vI 5 x5],ai []⟩
theorem NC (a0:List bQ) (a1:Int):Dr a0 a1=Dr.a a0 a1 0:=
 (aa cfg 18 _).trans (by kernel_rfl)
theorem Dr.a_eq (x0:List bQ) (x1 x5:Int):Dr.a x0 x1 x5=bif (decide (x5< (x0.length:Int)))then(bif (ao x5 (x0.length))then(bif (!decide ((rd (τ:=aL) x0 x5).1=x1))then some (-1)else(bif (ao x5 (x0.length))then(bif (!decide ((rd (τ:=aL) x0 x5).2.1=(IntKind.wrap .i64 (x1+1))))then some (-1)else(bif (ao x5 (x0.length))then(bif (!decide ((rd (τ:=aL) x0 x5).2.2.1=(IntKind.wrap .i64 ((IntKind.wrap .i64 (x1+1))+1))))then some (-1)else(bif (ao x5 (x0.length))then(bif (!decide ((rd (τ:=aL) x0 x5).2.2.2.1=(IntKind.wrap .i64 ((IntKind.wrap .i64 ((IntKind.wrap .i64 (x1+1))+1))+1))))then some (-1)else(bif (ao x5 (x0.length))then(bif (!decide ((rd (τ:=aL) x0 x5).2.2.2.2=(IntKind.wrap .i64 ((IntKind.wrap .i64 ((IntKind.wrap .i64 ((IntKind.wrap .i64 (x1+1))+1))+1))+1))))then some (-1)else Dr.a x0 (IntKind.wrap .i64 ((IntKind.wrap .i64 ((IntKind.wrap .i64 ((IntKind.wrap .i64 ((IntKind.wrap .i64 (x1+1))+1))+1))+1))+1)) (IntKind.wrap .i64 (x5+1)))else none))else none))else none))else none))else none)else some x1:=
 (ak cfg 18 _ _ _).trans (by kernel_rfl)
noncomputable def Rs (a0:nK):Option Bool:=ar cfg 4 [.agg [.str a0.1.1,.str a0.1.2.1,.list Y4 a0.1.2.2,.list Y3 a0.2.1.1,.list Y2 a0.2.1.2.1,.list Y0 a0.2.1.2.2.1,.list aW a0.2.1.2.2.2,.list bJ a0.2.2]]
theorem ND (a0:nK):Rs a0=(Zu a0 1048576).bind fun r1=>bif (decide (r1<0))then some true else((Fc a0).bind fun r2=>(Q3 r2).bind fun r3=>(Fc a0).bind fun r4=>(P7 r4).bind fun r5=>ax (fun kr27=>(Ck r5.1 r3.1).bind fun r6=>bif (!r6)then kr27 true else kr27 (!decide (r5.2=r3.2))) fun(r8:Bool)=>bif r8 then some false else((Fc a0).bind fun r9=>(OW r4 r9).bind fun r10=>bif (!r10)then some false else((OX r4 1).bind fun r11=>ax (fun kr26=>bif (decide (r11.1<0))then kr26 true else((Ck r5.1 r3.1).bind fun r12=>bif (!r12)then kr26 true else kr26 (!decide (r5.2=r3.2)))) fun(r16:Bool)=>bif r16 then some false else((Gl r5.1 1).bind fun r17=>(Dr r17.2 1).bind fun r18=>bif (decide (r18<0))then some false else(bif (!decide (r18=r17.1))then some false else((Fc a0).bind fun r19=>(P7 r19).bind fun r20=>ax (fun kr25=>(Ck r20.1 r3.1).bind fun r21=>bif (!r21)then kr25 true else kr25 (!decide (r20.2=r3.2))) fun(r23:Bool)=>bif r23 then some false else((Dr r17.2 1).bind fun r24=>bif (decide (r24<0))then some false else(bif (!decide (r24=r17.1))then some false else some true)))))))):=
 (aa cfg 4 _).trans (by kernel_rfl)
end Go.Proofs.YtegcfpicnjpihaaGreat.S
