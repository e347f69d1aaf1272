import Derived.Test.YtnjljkceeijaaaaGreatSxIb
import Derived.Test.YtnjljkceeijaaaaGreatProg
namespace Go.Proofs.YtnjljkceeijaaaaGreat.S
open Go.Ps
set_option linter.unusedVariables false
set_option maxRecDepth 100000
set_option maxHeartbeats 0
noncomputable def Z0 (a0 a1:Int):Option Bool:=aw cfg 326 [.v (.int .i64 a0),.v (.int .i64 a1)]
theorem Pz (a0 a1:Int):Z0 a0 a1=bif (decide (a0=1))then((gA a1 (-2147483648) 2147479552).bind fun r1=>bif r1 then some (decide ((a1.tmod 4096)=0))else some false)else(bif (decide (a0=2))then((gA a1 (-1048576) 1048574).bind fun r4=>bif r4 then some (decide ((a1.tmod 2)=0))else some false)else(aA (fun kr14=>bif (decide (a0=3))then kr14 (decide (a0=3))else kr14 (decide (a0=5))) fun(r7:Bool)=>bif r7 then((gA a1 (-2048) 2047).bind fun r8=>some r8)else(bif (decide (a0=4))then((gA a1 (-4096) 4094).bind fun r9=>bif r9 then some (decide ((a1.tmod 2)=0))else some false)else(bif (decide (a0=6))then((gA a1 0 63).bind fun r12=>some r12)else(bif (decide (a0=7))then((gA a1 0 31).bind fun r13=>some r13)else some (decide (a1=0))))))):=
 (aa cfg 326 _).trans (by kernel_rfl)
noncomputable def Z1 (a0 a1 a2 a3:Int):Option (Int×Int):=aw cfg 292 [.v (.int .i64 a0),.v (.int .i64 a1),.v (.int .i64 a2),.v (.int .i64 a3)]
theorem PA (a0 a1 a2 a3:Int):Z1 a0 a1 a2 a3=(mH a0).bind fun r1=>bif (!r1.2)then some (0,10)else((Sx r1.1 a1 a2 a3).bind fun r2=>bif (!r2.2)then some (0,26)else((Qq r1.1.1).bind fun r3=>(Z0 r3.1 r2.1).bind fun r4=>bif (!r4)then some (0,25)else((xB (r1.1.1,r1.1.2.1,r1.1.2.2.1,r1.1.2.2.2.1,r2.1)).bind fun r5=>some (r5,0)))):=
 (aa cfg 292 _).trans (by kernel_rfl)
noncomputable def Z2 (a0:mI) (a1:D8):Option S2:=aw cfg 243 [.agg [.list (.int .i64) a0.1.1,.list .str a0.1.2.1,.list (.int .i64) a0.1.2.2.1,.list .str a0.1.2.2.2,.list aL a0.2.1,.str a0.2.2.1,.int .i64 a0.2.2.2.1,.list Y1 a0.2.2.2.2.1,.list (.pair .str .str) a0.2.2.2.2.2.1,.list Y2 a0.2.2.2.2.2.2.1,.list (.pair (.int .i64) .bool) a0.2.2.2.2.2.2.2],.agg [.int .i64 a1.1,.int .i64 a1.2.1,.int .i64 a1.2.2.1,.str a1.2.2.2.1,.int .i64 a1.2.2.2.2]]
theorem PB (a0:mI) (a1:D8):Z2 a0 a1=(rg a0 a1.2.2.2.1).bind fun r1=>bif (!r1.2)then some (23,a0)else(bif (decide ((IntKind.wrap .i64 (a1.1-(a0.2.2.2.2.1.length:Int)))≥0))then(bif (aq (IntKind.wrap .i64 (a1.1-(a0.2.2.2.2.1.length:Int))) (a0.1.2.2.2.length))then((xC (IntKind.wrap .i64 (r1.1+a1.2.2.2.2)) 8).bind fun r2=>(Rw (rd (τ:= .str) a0.1.2.2.2 (IntKind.wrap .i64 (a1.1-(a0.2.2.2.2.1.length:Int)))) (IntKind.wrap .i64 (8*a1.2.1)) r2).bind fun r3=>bif (aq (IntKind.wrap .i64 (a1.1-(a0.2.2.2.2.1.length:Int))) (a0.1.2.2.2.length))then(letB (a0.1.2.2.2.set (Int.toNat (IntKind.wrap .i64 (a1.1-(a0.2.2.2.2.1.length:Int)))) r3) fun r4=>some (0,(a0.1.1,a0.1.2.1,a0.1.2.2.1,r4),a0.2))else none)else none)else(bif (aq a1.1 (a0.1.2.1.length))then(bif (decide (0≤(IntKind.wrap .i64 (4*a1.2.1)))&&decide ((IntKind.wrap .i64 (4*a1.2.1))≤(IntKind.wrap .i64 ((IntKind.wrap .i64 (4*a1.2.1))+4)))&&decide ((IntKind.wrap .i64 ((IntKind.wrap .i64 (4*a1.2.1))+4))≤((rd (τ:= .str) a0.1.2.1 a1.1).size:Int)))then((AN ((rd (τ:= .str) a0.1.2.1 a1.1).extract (Int.toNat (IntKind.wrap .i64 (4*a1.2.1))) (Int.toNat (IntKind.wrap .i64 ((IntKind.wrap .i64 (4*a1.2.1))+4))))).bind fun r5=>bif (aq a1.1 (a0.1.1.length))then((Z1 r5 a1.2.2.1 (IntKind.wrap .i64 (r1.1+a1.2.2.2.2)) (IntKind.wrap .i64 ((rd (τ:=(.int .i64)) a0.1.1 a1.1)+(IntKind.wrap .i64 (4*a1.2.1))))).bind fun r6=>bif (decide (r6.2=0))then((xC r6.1 4).bind fun r7=>(Rw (rd (τ:= .str) a0.1.2.1 a1.1) (IntKind.wrap .i64 (4*a1.2.1)) r7).bind fun r8=>bif (aq a1.1 (a0.1.2.1.length))then some (r6.2,(a0.1.1,(a0.1.2.1.set (Int.toNat a1.1) r8),a0.1.2.2),a0.2)else none)else some (r6.2,a0))else none)else none)else none)):=
 (aa cfg 243 _).trans (by kernel_rfl)
noncomputable def Z3 (a0:mI):Option (List Int):=aw cfg 244 [.v (.cptr oZ a0 0)]
noncomputable def Z3.a (x0:mI) (x3:List Int) (x11:List D0) (x12 x13:Int):Option (List Int):=LA 244 Tryz.f244 [1,1,0,1,0] ⟨53,af [(0,.v (.cptr oZ x0 0)),(3,.v (.own 416)),vL 11 aL x11,vI 12 x12,vI 13 x13],ai [(416,.rows 3 (.int .i64) .no x3)]⟩
noncomputable def Z3.b (x0:mI) (x3:List Int) (x30:List D6) (x31 x32:Int):Option (List Int):=LA 244 Tryz.f244 [1,1,1,0,1,0] ⟨53,af [(0,.v (.cptr oZ x0 0)),(3,.v (.own 416)),vL 30 Y1 x30,vI 31 x31,vI 32 x32],ai [(416,.rows 3 (.int .i64) .no x3)]⟩
theorem PC (a0:mI):Z3 a0=Z3.a a0 [] a0.2.1 (a0.2.1.length:Int) 0:=
 (aa cfg 244 _).trans (by kernel_rfl)
theorem Z3.a_eq (x0:mI) (x3:List Int) (x11:List D0) (x12 x13:Int):Z3.a x0 x3 x11 x12 x13=bif (decide (x13<x12))then(bif (aq x13 (x11.length))then(bif (decide ((rd (τ:=aL) x11 x13).2.1=1))then(bif (ay ((x3.length)+([(rd (τ:=aL) x11 x13).2.2.1].length)) 8)then Z3.a x0 (x3++[(rd (τ:=aL) x11 x13).2.2.1]) x11 x12 (IntKind.wrap .i64 (x13+1))else none)else Z3.a x0 x3 x11 x12 (IntKind.wrap .i64 (x13+1)))else none)else Z3.b x0 x3 x0.2.2.2.2.1 (x0.2.2.2.2.1.length:Int) 0:=
 (ak cfg 244 _ _ _).trans (by kernel_rfl)
theorem Z3.b_eq (x0:mI) (x3:List Int) (x30:List D6) (x31 x32:Int):Z3.b x0 x3 x30 x31 x32=bif (decide (x32<x31))then(bif (aq x32 (x30.length))then(bif (!(rd (τ:=Y1) x30 x32).2.1)then(bif (aq x32 (x0.1.1.length))then(bif (ay ((x3.length)+([(rd (τ:=(.int .i64)) x0.1.1 x32)].length)) 8)then Z3.b x0 (x3++[(rd (τ:=(.int .i64)) x0.1.1 x32)]) x30 x31 (IntKind.wrap .i64 (x32+1))else none)else none)else Z3.b x0 x3 x30 x31 (IntKind.wrap .i64 (x32+1)))else none)else some x3:=
 (ak cfg 244 _ _ _).trans (by kernel_rfl)
noncomputable def Z4 (a0:List D0) (a1 a2:Int×Int×Int) (a3:D9):Option HH:=aw cfg 191 [.v (.list aL a0),.agg [.int .i64 a1.1,.int .i64 a1.2.1,.int .i64 a1.2.2],.agg [.int .i64 a2.1,.int .i64 a2.2.1,.int .i64 a2.2.2],.agg [.str a3.1,.int .i64 a3.2.1,.list Y1 a3.2.2.1,.list (.pair .str .str) a3.2.2.2.1,.list Y2 a3.2.2.2.2.1,.list (.pair (.int .i64) .bool) a3.2.2.2.2.2]]
noncomputable def Z4.a (x5 x6:Int×Int×Int) (x7:D9) (x8:b9) (x9 x10:Int×Int×Int) (x12:mI) (x13:Int) (x62:List D6) (x63 x64:Int):Option HH:=LA 191 Tryz.f191 [1,1,1,1,1,0,1,0] ⟨219,af [vP 5 703,vP 6 831,vP 7 959,vP 8 1087,vP 9 1215,vP 10 1343,vP 12 1599,vI 13 x13,vL 62 Y1 x62,vI 63 x63,vI 64 x64],ai [(703,.box [.int .i64 x5.1,.int .i64 x5.2.1,.int .i64 x5.2.2]),(831,.box [.int .i64 x6.1,.int .i64 x6.2.1,.int .i64 x6.2.2]),(959,.box [.str x7.1,.int .i64 x7.2.1,.list Y1 x7.2.2.1,.list (.pair .str .str) x7.2.2.2.1,.list Y2 x7.2.2.2.2.1,.list (.pair (.int .i64) .bool) x7.2.2.2.2.2]),(1056,.rows 3 (.int .i64) .no x8.1),(1057,.rows 9 .str .no x8.2.1),(1058,.rows 3 (.int .i64) .no x8.2.2.1),(1059,.rows 9 .str .no x8.2.2.2),(1087,.box [.own 1056,.own 1057,.own 1058,.own 1059]),(1215,.box [.int .i64 x9.1,.int .i64 x9.2.1,.int .i64 x9.2.2]),(1343,.box [.int .i64 x10.1,.int .i64 x10.2.1,.int .i64 x10.2.2]),(1568,.rows 3 (.int .i64) .no x12.1.1),(1569,.rows 9 .str .no x12.1.2.1),(1570,.rows 3 (.int .i64) .no x12.1.2.2.1),(1571,.rows 9 .str .no x12.1.2.2.2),(1599,.box [.own 1568,.own 1569,.own 1570,.own 1571,.list aL x12.2.1,.str x12.2.2.1,.int .i64 x12.2.2.2.1,.list Y1 x12.2.2.2.2.1,.list (.pair .str .str) x12.2.2.2.2.2.1,.list Y2 x12.2.2.2.2.2.2.1,.list (.pair (.int .i64) .bool) x12.2.2.2.2.2.2.2])]⟩
noncomputable def Z4.b (x5 x6:Int×Int×Int) (x7:D9) (x8:b9) (x9 x10:Int×Int×Int) (x12:mI) (x13:Int) (x111:List D7) (x112 x113:Int):Option HH:=LA 191 Tryz.f191 [1,1,1,1,1,1,0,1,0] ⟨219,af [vP 5 703,vP 6 831,vP 7 959,vP 8 1087,vP 9 1215,vP 10 1343,vP 12 1599,vI 13 x13,vL 111 (.pair .str .str) x111,vI 112 x112,vI 113 x113],ai [(703,.box [.int .i64 x5.1,.int .i64 x5.2.1,.int .i64 x5.2.2]),(831,.box [.int .i64 x6.1,.int .i64 x6.2.1,.int .i64 x6.2.2]),(959,.box [.str x7.1,.int .i64 x7.2.1,.list Y1 x7.2.2.1,.list (.pair .str .str) x7.2.2.2.1,.list Y2 x7.2.2.2.2.1,.list (.pair (.int .i64) .bool) x7.2.2.2.2.2]),(1056,.rows 3 (.int .i64) .no x8.1),(1057,.rows 9 .str .no x8.2.1),(1058,.rows 3 (.int .i64) .no x8.2.2.1),(1059,.rows 9 .str .no x8.2.2.2),(1087,.box [.own 1056,.own 1057,.own 1058,.own 1059]),(1215,.box [.int .i64 x9.1,.int .i64 x9.2.1,.int .i64 x9.2.2]),(1343,.box [.int .i64 x10.1,.int .i64 x10.2.1,.int .i64 x10.2.2]),(1568,.rows 3 (.int .i64) .no x12.1.1),(1569,.rows 9 .str .no x12.1.2.1),(1570,.rows 3 (.int .i64) .no x12.1.2.2.1),(1571,.rows 9 .str .no x12.1.2.2.2),(1599,.box [.own 1568,.own 1569,.own 1570,.own 1571,.list aL x12.2.1,.str x12.2.2.1,.int .i64 x12.2.2.2.1,.list Y1 x12.2.2.2.2.1,.list (.pair .str .str) x12.2.2.2.2.2.1,.list Y2 x12.2.2.2.2.2.2.1,.list (.pair (.int .i64) .bool) x12.2.2.2.2.2.2.2])]⟩
noncomputable def Z4.c (x5 x6:Int×Int×Int) (x7:D9) (x8:b9) (x9 x10:Int×Int×Int) (x12:mI) (x13:Int) (x160:List D8) (x161 x162:Int):Option HH:=LA 191 Tryz.f191 [1,1,1,1,1,1,1,0,1,0] ⟨219,af [vP 5 703,vP 6 831,vP 7 959,vP 8 1087,vP 9 1215,vP 10 1343,vP 12 1599,vI 13 x13,vL 160 Y2 x160,vI 161 x161,vI 162 x162],ai [(703,.box [.int .i64 x5.1,.int .i64 x5.2.1,.int .i64 x5.2.2]),(831,.box [.int .i64 x6.1,.int .i64 x6.2.1,.int .i64 x6.2.2]),(959,.box [.str x7.1,.int .i64 x7.2.1,.list Y1 x7.2.2.1,.list (.pair .str .str) x7.2.2.2.1,.list Y2 x7.2.2.2.2.1,.list (.pair (.int .i64) .bool) x7.2.2.2.2.2]),(1056,.rows 3 (.int .i64) .no x8.1),(1057,.rows 9 .str .no x8.2.1),(1058,.rows 3 (.int .i64) .no x8.2.2.1),(1059,.rows 9 .str .no x8.2.2.2),(1087,.box [.own 1056,.own 1057,.own 1058,.own 1059]),(1215,.box [.int .i64 x9.1,.int .i64 x9.2.1,.int .i64 x9.2.2]),(1343,.box [.int .i64 x10.1,.int .i64 x10.2.1,.int .i64 x10.2.2]),(1568,.rows 3 (.int .i64) .no x12.1.1),(1569,.rows 9 .str .no x12.1.2.1),(1570,.rows 3 (.int .i64) .no x12.1.2.2.1),(1571,.rows 9 .str .no x12.1.2.2.2),(1599,.box [.own 1568,.own 1569,.own 1570,.own 1571,.list aL x12.2.1,.str x12.2.2.1,.int .i64 x12.2.2.2.1,.list Y1 x12.2.2.2.2.1,.list (.pair .str .str) x12.2.2.2.2.2.1,.list Y2 x12.2.2.2.2.2.2.1,.list (.pair (.int .i64) .bool) x12.2.2.2.2.2.2.2])]⟩
noncomputable def Z4.d (x5 x6:Int×Int×Int) (x8:b9) (x9 x10:Int×Int×Int) (x12:mI) (x13:Int) (x173:List D6) (x174 x175:Int):Option HH:=LA 191 Tryz.f191 [1,1,1,1,1,1,1,1,0,1,0] ⟨219,af [vP 5 703,vP 6 831,vP 8 1087,vP 9 1215,vP 10 1343,vP 12 1599,vI 13 x13,vL 173 Y1 x173,vI 174 x174,vI 175 x175],ai [(703,.box [.int .i64 x5.1,.int .i64 x5.2.1,.int .i64 x5.2.2]),(831,.box [.int .i64 x6.1,.int .i64 x6.2.1,.int .i64 x6.2.2]),(1056,.rows 3 (.int .i64) .no x8.1),(1057,.rows 9 .str .no x8.2.1),(1058,.rows 3 (.int .i64) .no x8.2.2.1),(1059,.rows 9 .str .no x8.2.2.2),(1087,.box [.own 1056,.own 1057,.own 1058,.own 1059]),(1215,.box [.int .i64 x9.1,.int .i64 x9.2.1,.int .i64 x9.2.2]),(1343,.box [.int .i64 x10.1,.int .i64 x10.2.1,.int .i64 x10.2.2]),(1568,.rows 3 (.int .i64) .no x12.1.1),(1569,.rows 9 .str .no x12.1.2.1),(1570,.rows 3 (.int .i64) .no x12.1.2.2.1),(1571,.rows 9 .str .no x12.1.2.2.2),(1599,.box [.own 1568,.own 1569,.own 1570,.own 1571,.list aL x12.2.1,.str x12.2.2.1,.int .i64 x12.2.2.2.1,.list Y1 x12.2.2.2.2.1,.list (.pair .str .str) x12.2.2.2.2.2.1,.list Y2 x12.2.2.2.2.2.2.1,.list (.pair (.int .i64) .bool) x12.2.2.2.2.2.2.2])]⟩
theorem PD (a0:List D0) (a1 a2:Int×Int×Int) (a3:D9):Z4 a0 a1 a2 a3=bif (decide ((a0.length:Int)>4096))then some (([],[],[],[]),(0,0,0),(0,0,0),2)else(aA (fun kr12=>(AO a0).bind fun r1=>bif (!r1)then kr12 true else((Ru a1).bind fun r2=>bif (!r2)then kr12 true else((Ru a2).bind fun r3=>bif (!r3)then kr12 true else((Qr a3).bind fun r4=>kr12 (!r4))))) fun(r10:Bool)=>bif r10 then some (([],[],[],[]),(0,0,0),(0,0,0),1)else((rf (([],[],[],[]),a0,a3)).bind fun r11=>Z4.a a1 a2 a3 ([],[],[],[]) (0,0,0) (0,0,0) (([],[],[],[]),a0,a3) r11 a3.2.2.1 (a3.2.2.1.length:Int) 0)):=
 (aa cfg 191 _).trans (by kernel_rfl)
theorem Z4.a_eq (x5 x6:Int×Int×Int) (x7:D9) (x8:b9) (x9 x10:Int×Int×Int) (x12:mI) (x13:Int) (x62:List D6) (x63 x64:Int):Z4.a x5 x6 x7 x8 x9 x10 x12 x13 x62 x63 x64=bif (decide (x64<x63))then(bif (aq x64 (x62.length))then((Rv x5 (((rd (τ:=Y1) x62 x64).2.2.2).size:Int)).bind fun r13=>aA (fun kr18=>bif (decide (x13=0))then kr18 (!r13.2.2)else kr18 false) fun(r15:Bool)=>aA (fun kr17=>bif r15 then kr17 7 else kr17 x13) fun(r16:Int)=>bif (ay ((x12.1.1.length)+([r13.2.1].length)) 8)then(bif (ay ((x12.1.2.1.length)+([(rd (τ:=Y1) x62 x64).2.2.2].length)) 16)then Z4.a r13.1 x6 x7 x8 x9 x10 (((x12.1.1++[r13.2.1]),(x12.1.2.1++[(rd (τ:=Y1) x62 x64).2.2.2]),x12.1.2.2),x12.2) r16 x62 x63 (IntKind.wrap .i64 (x64+1))else none)else none)else none)else Z4.b x5 x6 x7 x8 x9 x10 x12 x13 x7.2.2.2.1 (x7.2.2.2.1.length:Int) 0:=
 (ak cfg 191 _ _ _).trans (by kernel_rfl)
theorem Z4.b_eq (x5 x6:Int×Int×Int) (x7:D9) (x8:b9) (x9 x10:Int×Int×Int) (x12:mI) (x13:Int) (x111:List D7) (x112 x113:Int):Z4.b x5 x6 x7 x8 x9 x10 x12 x13 x111 x112 x113=bif (decide (x113<x112))then(bif (aq x113 (x111.length))then((Rv x6 (((rd (τ:=(.pair .str .str)) x111 x113).2).size:Int)).bind fun r19=>aA (fun kr24=>bif (decide (x13=0))then kr24 (!r19.2.2)else kr24 false) fun(r21:Bool)=>aA (fun kr23=>bif r21 then kr23 7 else kr23 x13) fun(r22:Int)=>bif (ay ((x12.1.2.2.1.length)+([r19.2.1].length)) 8)then(bif (ay ((x12.1.2.2.2.length)+([(rd (τ:=(.pair .str .str)) x111 x113).2].length)) 16)then Z4.b x5 r19.1 x7 x8 x9 x10 ((x12.1.1,x12.1.2.1,(x12.1.2.2.1++[r19.2.1]),(x12.1.2.2.2++[(rd (τ:=(.pair .str .str)) x111 x113).2])),x12.2) r22 x111 x112 (IntKind.wrap .i64 (x113+1))else none)else none)else none)else Z4.c x5 x6 x7 x8 x9 x10 x12 x13 x7.2.2.2.2.1 (x7.2.2.2.2.1.length:Int) 0:=
 (ak cfg 191 _ _ _).trans (by kernel_rfl)
theorem Z4.c_eq (x5 x6:Int×Int×Int) (x7:D9) (x8:b9) (x9 x10:Int×Int×Int) (x12:mI) (x13:Int) (x160:List D8) (x161 x162:Int):Z4.c x5 x6 x7 x8 x9 x10 x12 x13 x160 x161 x162=bif (decide (x162<x161))then(bif (aq x162 (x160.length))then(bif (decide (x13=0))then((Z2 x12 (rd (τ:=Y2) x160 x162)).bind fun r25=>Z4.c x5 x6 x7 x8 x9 x10 r25.2 r25.1 x160 x161 (IntKind.wrap .i64 (x162+1)))else Z4.c x5 x6 x7 x8 x9 x10 x12 x13 x160 x161 (IntKind.wrap .i64 (x162+1)))else none)else Z4.d x5 x6 x8 x9 x10 x12 x13 x7.2.2.1 (x7.2.2.1.length:Int) 0:=
 (ak cfg 191 _ _ _).trans (by kernel_rfl)
theorem Z4.d_eq (x5 x6:Int×Int×Int) (x8:b9) (x9 x10:Int×Int×Int) (x12:mI) (x13:Int) (x173:List D6) (x174 x175:Int):Z4.d x5 x6 x8 x9 x10 x12 x13 x173 x174 x175=bif (decide (x175<x174))then(bif (aq x175 (x173.length))then(bif (decide (x13=0))then(bif (aq x175 (x12.1.2.1.length))then(bif (aq x175 (x12.1.1.length))then((Z3 x12).bind fun r28=>(km (rd (τ:= .str) x12.1.2.1 x175) (rd (τ:=(.int .i64)) x12.1.1 x175) ((rd (τ:=Y1) x173 x175).2.2.1) r28).bind fun r29=>Z4.d x5 x6 x8 x9 x10 x12 r29.2 x173 x174 (IntKind.wrap .i64 (x175+1)))else none)else none)else Z4.d x5 x6 x8 x9 x10 x12 x13 x173 x174 (IntKind.wrap .i64 (x175+1)))else none)else(bif (!decide (x13=0))then some (([],[],[],[]),(0,0,0),(0,0,0),x13)else some (x12.1,x5,x6,0)):=
 (ak cfg 191 _ _ _).trans (by kernel_rfl)
noncomputable def Z5 (a0:b9) (a1:D9):Option Bool:=aw cfg 245 [.agg [.list (.int .i64) a0.1,.list .str a0.2.1,.list (.int .i64) a0.2.2.1,.list .str a0.2.2.2],.agg [.str a1.1,.int .i64 a1.2.1,.list Y1 a1.2.2.1,.list (.pair .str .str) a1.2.2.2.1,.list Y2 a1.2.2.2.2.1,.list (.pair (.int .i64) .bool) a1.2.2.2.2.2]]
noncomputable def Z5.a (x2:b9) (x3:D9) (x44:List D6) (x45 x46:Int):Option Bool:=LA 245 Tryz.f245 [1,1,0,1,0] ⟨81,af [vP 2 319,vP 3 447,vL 44 Y1 x44,vI 45 x45,vI 46 x46],ai [(319,.box [.list (.int .i64) x2.1,.list .str x2.2.1,.list (.int .i64) x2.2.2.1,.list .str x2.2.2.2]),(447,.box [.str x3.1,.int .i64 x3.2.1,.list Y1 x3.2.2.1,.list (.pair .str .str) x3.2.2.2.1,.list Y2 x3.2.2.2.2.1,.list (.pair (.int .i64) .bool) x3.2.2.2.2.2])]⟩
noncomputable def Z5.b (x2:b9) (x63:List D7) (x64 x65:Int):Option Bool:=LA 245 Tryz.f245 [1,1,1,0,1,0] ⟨81,af [vP 2 319,vL 63 (.pair .str .str) x63,vI 64 x64,vI 65 x65],ai [(319,.box [.list (.int .i64) x2.1,.list .str x2.2.1,.list (.int .i64) x2.2.2.1,.list .str x2.2.2.2])]⟩
theorem PE (a0:b9) (a1:D9):Z5 a0 a1=bif (!decide ((a0.1.length:Int)=(a1.2.2.1.length:Int)))then some false else(bif (!decide ((a0.2.1.length:Int)=(a1.2.2.1.length:Int)))then some false else(bif (!decide ((a0.2.2.1.length:Int)=(a1.2.2.2.1.length:Int)))then some false else(bif (!decide ((a0.2.2.2.length:Int)=(a1.2.2.2.1.length:Int)))then some false else Z5.a a0 a1 a1.2.2.1 (a1.2.2.1.length:Int) 0))):=
 (aa cfg 245 _).trans (by kernel_rfl)
theorem Z5.a_eq (x2:b9) (x3:D9) (x44:List D6) (x45 x46:Int):Z5.a x2 x3 x44 x45 x46=bif (decide (x46<x45))then(bif (aq x46 (x44.length))then(bif (aq x46 (x2.2.1.length))then(bif (!decide (((rd (τ:= .str) x2.2.1 x46).size:Int)=(((rd (τ:=Y1) x44 x46).2.2.2).size:Int)))then some false else Z5.a x2 x3 x44 x45 (IntKind.wrap .i64 (x46+1)))else none)else none)else Z5.b x2 x3.2.2.2.1 (x3.2.2.2.1.length:Int) 0:=
 (ak cfg 245 _ _ _).trans (by kernel_rfl)
theorem Z5.b_eq (x2:b9) (x63:List D7) (x64 x65:Int):Z5.b x2 x63 x64 x65=bif (decide (x65<x64))then(bif (aq x65 (x63.length))then(bif (aq x65 (x2.2.2.2.length))then(bif (!decide (((rd (τ:= .str) x2.2.2.2 x65).size:Int)=(((rd (τ:=(.pair .str .str)) x63 x65).2).size:Int)))then some false else Z5.b x2 x63 x64 (IntKind.wrap .i64 (x65+1)))else none)else none)else some true:=
 (ak cfg 245 _ _ _).trans (by kernel_rfl)
noncomputable def Z6 (a0:List D0) (a1:D9) (a2:b9) (a3:Int):Option (List D0):=aw cfg 246 [.v (.list aL a0),.agg [.str a1.1,.int .i64 a1.2.1,.list Y1 a1.2.2.1,.list (.pair .str .str) a1.2.2.2.1,.list Y2 a1.2.2.2.2.1,.list (.pair (.int .i64) .bool) a1.2.2.2.2.2],.agg [.list (.int .i64) a2.1,.list .str a2.2.1,.list (.int .i64) a2.2.2.1,.list .str a2.2.2.2],.v (.int .i64 a3)]
noncomputable def Z6.a (x3:Int) (x5:D9) (x6:b9) (x9:List D0) (x17:List D6) (x18 x19:Int):Option (List D0):=LA 246 Tryz.f246 [1,1,0,1,0] ⟨70,af [vI 3 x3,vP 5 703,vP 6 831,(9,.v (.own 1184)),vL 17 Y1 x17,vI 18 x18,vI 19 x19],ai [(703,.box [.str x5.1,.int .i64 x5.2.1,.list Y1 x5.2.2.1,.list (.pair .str .str) x5.2.2.2.1,.list Y2 x5.2.2.2.2.1,.list (.pair (.int .i64) .bool) x5.2.2.2.2.2]),(831,.box [.list (.int .i64) x6.1,.list .str x6.2.1,.list (.int .i64) x6.2.2.1,.list .str x6.2.2.2]),(1184,.rows 121 aL .no x9)]⟩
noncomputable def Z6.b (x3:Int) (x6:b9) (x9:List D0) (x46:List D7) (x47 x48:Int):Option (List D0):=LA 246 Tryz.f246 [1,1,1,0,1,0] ⟨70,af [vI 3 x3,vP 6 831,(9,.v (.own 1184)),vL 46 (.pair .str .str) x46,vI 47 x47,vI 48 x48],ai [(831,.box [.list (.int .i64) x6.1,.list .str x6.2.1,.list (.int .i64) x6.2.2.1,.list .str x6.2.2.2]),(1184,.rows 121 aL .no x9)]⟩
theorem PF (a0:List D0) (a1:D9) (a2:b9) (a3:Int):Z6 a0 a1 a2 a3=(SJ a0).bind fun r1=>Z6.a a3 a1 a2 r1 a1.2.2.1 (a1.2.2.1.length:Int) 0:=
 (aa cfg 246 _).trans (by kernel_rfl)
theorem Z6.a_eq (x3:Int) (x5:D9) (x6:b9) (x9:List D0) (x17:List D6) (x18 x19:Int):Z6.a x3 x5 x6 x9 x17 x18 x19=bif (decide (x19<x18))then(bif (aq x19 (x17.length))then(bif (!(rd (τ:=Y1) x17 x19).2.1)then(bif (aq x19 (x6.1.length))then(bif (ay ((x9.length)+([((rd (τ:=Y1) x17 x19).1,1,(rd (τ:=(.int .i64)) x6.1 x19),(((rd (τ:=Y1) x17 x19).2.2.2).size:Int),(rd (τ:=Y1) x17 x19).2.2.1,x3)].length)) 56)then Z6.a x3 x5 x6 (x9++[((rd (τ:=Y1) x17 x19).1,1,(rd (τ:=(.int .i64)) x6.1 x19),(((rd (τ:=Y1) x17 x19).2.2.2).size:Int),(rd (τ:=Y1) x17 x19).2.2.1,x3)]) x17 x18 (IntKind.wrap .i64 (x19+1))else none)else none)else Z6.a x3 x5 x6 x9 x17 x18 (IntKind.wrap .i64 (x19+1)))else none)else Z6.b x3 x6 x9 x5.2.2.2.1 (x5.2.2.2.1.length:Int) 0:=
 (ak cfg 246 _ _ _).trans (by kernel_rfl)
theorem Z6.b_eq (x3:Int) (x6:b9) (x9:List D0) (x46:List D7) (x47 x48:Int):Z6.b x3 x6 x9 x46 x47 x48=bif (decide (x48<x47))then(bif (aq x48 (x46.length))then(bif (aq x48 (x6.2.2.1.length))then(bif (ay ((x9.length)+([((rd (τ:=(.pair .str .str)) x46 x48).1,2,(rd (τ:=(.int .i64)) x6.2.2.1 x48),(((rd (τ:=(.pair .str .str)) x46 x48).2).size:Int),0,x3)].length)) 56)then Z6.b x3 x6 (x9++[((rd (τ:=(.pair .str .str)) x46 x48).1,2,(rd (τ:=(.int .i64)) x6.2.2.1 x48),(((rd (τ:=(.pair .str .str)) x46 x48).2).size:Int),0,x3)]) x46 x47 (IntKind.wrap .i64 (x48+1))else none)else none)else none)else some x9:=
 (ak cfg 246 _ _ _).trans (by kernel_rfl)
noncomputable def Z7 (a0:List D0) (a1:D9) (a2:b9) (a3:Int):Option (List D0×Int):=aw cfg 192 [.v (.list aL a0),.agg [.str a1.1,.int .i64 a1.2.1,.list Y1 a1.2.2.1,.list (.pair .str .str) a1.2.2.2.1,.list Y2 a1.2.2.2.2.1,.list (.pair (.int .i64) .bool) a1.2.2.2.2.2],.agg [.list (.int .i64) a2.1,.list .str a2.2.1,.list (.int .i64) a2.2.2.1,.list .str a2.2.2.2],.v (.int .i64 a3)]
theorem PG (a0:List D0) (a1:D9) (a2:b9) (a3:Int):Z7 a0 a1 a2 a3=bif (decide ((a0.length:Int)>4096))then some ([],2)else(aA (fun kr13=>(AO a0).bind fun r1=>bif (!r1)then kr13 true else((Qr a1).bind fun r2=>bif (!r2)then kr13 true else((Z5 a2 a1).bind fun r3=>bif (!r3)then kr13 true else((gA a3 1 6).bind fun r4=>kr13 (!r4))))) fun(r10:Bool)=>bif r10 then some ([],1)else((Z6 a0 a1 a2 a3).bind fun r11=>(AO r11).bind fun r12=>bif (!r12)then some ([],24)else some (r11,0))):=
 (aa cfg 192 _).trans (by kernel_rfl)
noncomputable def Z8 (a0:D1) (a1:Int):Option Bool:=aw cfg 328 [.agg [.int .i64 a0.1,.int .i64 a0.2.1,.str a0.2.2],.v (.cptr (.int .i64) a1 0)]
theorem PH (a0:D1) (a1:Int):Z8 a0 a1=(gA a1 a0.1 (IntKind.wrap .i64 ((IntKind.wrap .i64 (a0.1+128))-1))).bind fun r1=>some r1:=
 (aa cfg 328 _).trans (by kernel_rfl)
noncomputable def Z9 (c1_0:Int) (a0:List D1):Option Int:=aw cfg 327 [.v (.list au a0),.v (.fn 328 [.cref (.int .i64) c1_0])]
noncomputable def Z9.a (c1_0:Int) (x0:List D1) (x7 x8:Int):Option Int:=LA 327 Tryz.f327 [1,0,1,0] ⟨19,af [vL 0 au x0,(1,.v (.fn 328 [.cref (.int .i64) c1_0])),vI 7 x7,vI 8 x8],ai []⟩
theorem PI (c1_0:Int) (a0:List D1):Z9 c1_0 a0=Z9.a c1_0 a0 (a0.length:Int) 0:=
 (aa cfg 327 _).trans (by kernel_rfl)
theorem Z9.a_eq (c1_0:Int) (x0:List D1) (x7 x8:Int):Z9.a c1_0 x0 x7 x8=bif (decide (x8<x7))then(bif (aq x8 (x0.length))then((Z8 (rd (τ:=au) x0 x8) c1_0).bind fun r1=>bif r1 then some x8 else Z9.a c1_0 x0 x7 (IntKind.wrap .i64 (x8+1)))else none)else some (-1):=
 (ak cfg 327 _ _ _).trans (by kernel_rfl)
noncomputable def Za (a0:List D1) (a1:Int):Option Int:=aw cfg 295 [.agg [.list au a0],.v (.int .i64 a1)]
theorem PJ (a0:List D1) (a1:Int):Za a0 a1=(Z9 a1 a0).bind fun r1=>some r1:=
 (aa cfg 295 _).trans (by kernel_rfl)
noncomputable def Zb (a0:List D1) (a1 a2:Int):Option ByteArray:=aw cfg 251 [.agg [.list au a0],.v (.int .i64 a1),.v (.int .i64 a2)]
noncomputable def Zb.a (x1 x2:Int) (x3:List D1) (x7:List Int) (x8:Int):Option ByteArray:=LA 251 Tryz.f251 [1,1,0,1,0] ⟨37,af [vI 1 x1,vI 2 x2,vP 3 447,(7,.v (.own 928)),vI 8 x8],ai [(447,.box [.list au x3]),(928,.rows 5 (.int .u8) .no x7)]⟩
theorem PL (a0:List D1) (a1 a2:Int):Zb a0 a1 a2=Zb.a a1 a2 a0 [] a1:=
 (aa cfg 251 _).trans (by kernel_rfl)
theorem Zb.a_eq (x1 x2:Int) (x3:List D1) (x7:List Int) (x8:Int):Zb.a x1 x2 x3 x7 x8=bif (decide (x8< (IntKind.wrap .i64 (x1+x2))))then((Za x3 x8).bind fun r1=>bif (aq r1 (x3.length))then(bif (aq (IntKind.wrap .i64 (x8-(rd (τ:=au) x3 r1).1)) ((rd (τ:=au) x3 r1).2.2).size)then(bif (ay ((x7.length)+([(bt ((rd (τ:=au) x3 r1).2.2) (IntKind.wrap .i64 (x8-(rd (τ:=au) x3 r1).1)))].length)) 1)then Zb.a x1 x2 x3 (x7++[(bt ((rd (τ:=au) x3 r1).2.2) (IntKind.wrap .i64 (x8-(rd (τ:=au) x3 r1).1)))]) (IntKind.wrap .i64 (x8+1))else none)else none)else none)else some (av x7):=
 (ak cfg 251 _ _ _).trans (by kernel_rfl)
noncomputable def Zc (a0:List D1) (a1:List D0) (a2:D9) (a3:b9):Option Pm:=aw cfg 194 [.agg [.list au a0],.v (.list aL a1),.agg [.str a2.1,.int .i64 a2.2.1,.list Y1 a2.2.2.1,.list (.pair .str .str) a2.2.2.2.1,.list Y2 a2.2.2.2.2.1,.list (.pair (.int .i64) .bool) a2.2.2.2.2.2],.agg [.list (.int .i64) a3.1,.list .str a3.2.1,.list (.int .i64) a3.2.2.1,.list .str a3.2.2.2]]
noncomputable def Zc.a (x1:List D0) (x4:List D1) (x6:D9) (x7:b9) (x8:List D1) (x10:List (Int×Int)) (x17 x18:Int):Option Pm:=LA 194 Tryz.f194 [1,1,0,1,0] ⟨78,af [vL 1 aL x1,vP 4 575,vP 6 831,vP 7 959,vP 8 1087,(10,.v (.own 1312)),vI 17 x17,vI 18 x18],ai [(575,.box [.list au x4]),(831,.box [.str x6.1,.int .i64 x6.2.1,.list Y1 x6.2.2.1,.list (.pair .str .str) x6.2.2.2.1,.list Y2 x6.2.2.2.2.1,.list (.pair (.int .i64) .bool) x6.2.2.2.2.2]),(959,.box [.list (.int .i64) x7.1,.list .str x7.2.1,.list (.int .i64) x7.2.2.1,.list .str x7.2.2.2]),(1056,.rows 176 au .no x8),(1087,.box [.own 1056]),(1312,.rows 130 Y5 .no x10)]⟩
noncomputable def Zc.b (x1:List D0) (x4:List D1) (x7:b9) (x8:List D1) (x10:List (Int×Int)) (x35:List D6) (x36 x37:Int):Option Pm:=LA 194 Tryz.f194 [1,1,1,0,1,0] ⟨78,af [vL 1 aL x1,vP 4 575,vP 7 959,vP 8 1087,(10,.v (.own 1312)),vL 35 Y1 x35,vI 36 x36,vI 37 x37],ai [(575,.box [.list au x4]),(959,.box [.list (.int .i64) x7.1,.list .str x7.2.1,.list (.int .i64) x7.2.2.1,.list .str x7.2.2.2]),(1056,.rows 176 au .no x8),(1087,.box [.own 1056]),(1312,.rows 130 Y5 .no x10)]⟩
theorem PM (a0:List D1) (a1:List D0) (a2:D9) (a3:b9):Zc a0 a1 a2 a3=Zc.a a1 a0 a2 a3 [] [] (a2.2.2.1.length:Int) 0:=
 (aa cfg 194 _).trans (by kernel_rfl)
theorem Zc.a_eq (x1:List D0) (x4:List D1) (x6:D9) (x7:b9) (x8:List D1) (x10:List (Int×Int)) (x17 x18:Int):Zc.a x1 x4 x6 x7 x8 x10 x17 x18=bif (decide (x18<x17))then(bif (aq x18 (x7.1.length))then(bif (aq x18 (x7.2.1.length))then((oy x4 (rd (τ:=(.int .i64)) x7.1 x18) (rd (τ:= .str) x7.2.1 x18)).bind fun r1=>Zc.a x1 r1 x6 x7 x8 x10 x17 (IntKind.wrap .i64 (x18+1)))else none)else none)else Zc.b x1 x4 x7 x8 x10 x6.2.2.1 (x6.2.2.1.length:Int) 0:=
 (ak cfg 194 _ _ _).trans (by kernel_rfl)
theorem Zc.b_eq (x1:List D0) (x4:List D1) (x7:b9) (x8:List D1) (x10:List (Int×Int)) (x35:List D6) (x36 x37:Int):Zc.b x1 x4 x7 x8 x10 x35 x36 x37=bif (decide (x37<x36))then(bif (aq x37 (x35.length))then(bif (!(rd (τ:=Y1) x35 x37).2.1)then Zc.b x1 x4 x7 x8 x10 x35 x36 (IntKind.wrap .i64 (x37+1))else((Jv x1 ((rd (τ:=Y1) x35 x37).1)).bind fun r2=>bif (aq r2 (x1.length))then((Zb x4 ((rd (τ:=aL) x1 r2).2.2.1) 4).bind fun r3=>(AN r3).bind fun r4=>bif (ay ((x10.length)+([((rd (τ:=aL) x1 r2).2.2.1,r4)].length)) 16)then(bif (aq x37 (x7.1.length))then((xB (3,0,0,0,(IntKind.wrap .i64 ((rd (τ:=(.int .i64)) x7.1 x37)-(rd (τ:=aL) x1 r2).2.2.1)))).bind fun r5=>(xC r5 4).bind fun r6=>(oy x4 ((rd (τ:=aL) x1 r2).2.2.1) r6).bind fun r7=>Zc.b x1 r7 x7 x8 (x10++[((rd (τ:=aL) x1 r2).2.2.1,r4)]) x35 x36 (IntKind.wrap .i64 (x37+1)))else none)else none)else none))else none)else some (x4,x10):=
 (ak cfg 194 _ _ _).trans (by kernel_rfl)
noncomputable def Zd (a0:Dt) (a1:D9) (a2:Int):Option SY:=aw cfg 137 [.agg [.list aL a0.1,.list bg a0.2.1,.list au a0.2.2.1,.int .i64 a0.2.2.2.1.1,.int .i64 a0.2.2.2.1.2.1,.int .i64 a0.2.2.2.1.2.2,.int .i64 a0.2.2.2.2.1,.int .i64 a0.2.2.2.2.2.1,.int .i64 a0.2.2.2.2.2.2],.agg [.str a1.1,.int .i64 a1.2.1,.list Y1 a1.2.2.1,.list (.pair .str .str) a1.2.2.2.1,.list Y2 a1.2.2.2.2.1,.list (.pair (.int .i64) .bool) a1.2.2.2.2.2],.v (.int .i64 a2)]
noncomputable def Zd.a (x0:Dt) (x2:Int) (x4:D9) (x6 x9:b9) (x69:List D6) (x70 x71:Int):Option SY:=LA 137 Tryz.f137 [1,1,1,1,1,1,0,1,0] ⟨119,af [(13,.v (.own 32)),vP 0 127,vI 2 x2,vP 4 575,vP 6 831,vP 9 1215,vL 69 Y1 x69,vI 70 x70,vI 71 x71],ai [(32,.rows 121 aL .no x0.1),(33,.rows 255 bg .no x0.2.1),(127,.box [.own 32,.own 33,.list au x0.2.2.1,.int .i64 x0.2.2.2.1.1,.int .i64 x0.2.2.2.1.2.1,.int .i64 x0.2.2.2.1.2.2,.int .i64 x0.2.2.2.2.1,.int .i64 x0.2.2.2.2.2.1,.int .i64 x0.2.2.2.2.2.2]),(575,.box [.str x4.1,.int .i64 x4.2.1,.list Y1 x4.2.2.1,.list (.pair .str .str) x4.2.2.2.1,.list Y2 x4.2.2.2.2.1,.list (.pair (.int .i64) .bool) x4.2.2.2.2.2]),(800,.rows 3 (.int .i64) .no x6.1),(801,.rows 9 .str .no x6.2.1),(802,.rows 3 (.int .i64) .no x6.2.2.1),(803,.rows 9 .str .no x6.2.2.2),(831,.box [.own 800,.own 801,.own 802,.own 803]),(1184,.rows 3 (.int .i64) .no x9.1),(1185,.rows 9 .str .no x9.2.1),(1186,.rows 3 (.int .i64) .no x9.2.2.1),(1187,.rows 9 .str .no x9.2.2.2),(1215,.box [.own 1184,.own 1185,.own 1186,.own 1187])]⟩
theorem Jk (a0:Dt) (a1:D9) (a2:Int):Zd a0 a1 a2=(Z4 a0.1 a0.2.2.2.1 a0.2.2.2.2 a1).bind fun r1=>bif (!decide (r1.2.2.2=0))then some (([],[],[],[]),[],r1.2.2.2,a0)else((Z7 a0.1 a1 r1.1 a2).bind fun r2=>bif (!decide (r2.2=0))then some (([],[],[],[]),[],r2.2,a0)else Zd.a (r2.1,a0.2.1,a0.2.2.1,r1.2.1,r1.2.2.1) a2 a1 ([],[],[],[]) r1.1 a1.2.2.1 (a1.2.2.1.length:Int) 0):=
 (aa cfg 137 _).trans (by kernel_rfl)
theorem Zd.a_eq (x0:Dt) (x2:Int) (x4:D9) (x6 x9:b9) (x69:List D6) (x70 x71:Int):Zd.a x0 x2 x4 x6 x9 x69 x70 x71=bif (decide (x71<x70))then(bif (aq x71 (x69.length))then((Jv x0.1 ((rd (τ:=Y1) x69 x71).1)).bind fun r4=>bif (aq x71 (x9.1.length))then(bif (ay ((x0.2.1.length)+([(r4,x2,(rd (τ:=(.int .i64)) x9.1 x71),(((rd (τ:=Y1) x69 x71).2.2.2).size:Int),(rd (τ:=Y1) x69 x71).2.2.1)].length)) 40)then Zd.a (x0.1,(x0.2.1++[(r4,x2,(rd (τ:=(.int .i64)) x9.1 x71),(((rd (τ:=Y1) x69 x71).2.2.2).size:Int),(rd (τ:=Y1) x69 x71).2.2.1)]),x0.2.2) x2 x4 x6 x9 x69 x70 (IntKind.wrap .i64 (x71+1))else none)else none)else none)else((Zc x0.2.2.1 x0.1 x4 x9).bind fun r3=>some (x9,r3.2,0,x0.1,x0.2.1,r3.1,x0.2.2.2)):=
 (ak cfg 137 _ _ _).trans (by kernel_rfl)
noncomputable def Ze (a0:D3) (a1:List eu) (a2:Bool):Option (Dt×Bool):=aw cfg 84 [.agg [.str a0.1,.str a0.2.1,.list Y0 a0.2.2],.v (.list Y6 a1),.v (.bool a2)]
noncomputable def Ze.a (x1:List eu) (x2:Bool) (x6 x8:Dt) (x27:List eu) (x28 x29:Int):Option (Dt×Bool):=LA 84 Tryz.f84 [1,1,1,0,1,0] ⟨100,af [vL 1 Y6 x1,(2,.v (.bool x2)),vP 6 831,vP 8 1087,vL 27 Y6 x27,vI 28 x28,vI 29 x29],ai [(800,.rows 121 aL .no x6.1),(801,.rows 255 bg .no x6.2.1),(802,.rows 176 au .no x6.2.2.1),(831,.box [.own 800,.own 801,.own 802,.int .i64 x6.2.2.2.1.1,.int .i64 x6.2.2.2.1.2.1,.int .i64 x6.2.2.2.1.2.2,.int .i64 x6.2.2.2.2.1,.int .i64 x6.2.2.2.2.2.1,.int .i64 x6.2.2.2.2.2.2]),(1056,.rows 255 bg .no x8.2.1),(1087,.box [.list aL x8.1,.own 1056,.list au x8.2.2.1,.int .i64 x8.2.2.2.1.1,.int .i64 x8.2.2.2.1.2.1,.int .i64 x8.2.2.2.1.2.2,.int .i64 x8.2.2.2.2.1,.int .i64 x8.2.2.2.2.2.1,.int .i64 x8.2.2.2.2.2.2])]⟩
noncomputable def Ze.b (x1:List eu) (x2:Bool) (x6 x8:Dt) (x9:Int) (x10:eu) (x27:List eu) (x28 x29:Int) (x48:List eu) (x49 x50:Int):Option (Dt×Bool):=LA 84 Tryz.f84 [1,1,1,0,1,0,0,1,1,0,0,1,1,0,1,0] ⟨100,af [vL 1 Y6 x1,(2,.v (.bool x2)),vP 6 831,vP 8 1087,vI 9 x9,vP 10 1343,vL 27 Y6 x27,vI 28 x28,vI 29 x29,vL 48 Y6 x48,vI 49 x49,vI 50 x50],ai [(800,.rows 121 aL .no x6.1),(801,.rows 255 bg .no x6.2.1),(802,.rows 176 au .no x6.2.2.1),(831,.box [.own 800,.own 801,.own 802,.int .i64 x6.2.2.2.1.1,.int .i64 x6.2.2.2.1.2.1,.int .i64 x6.2.2.2.1.2.2,.int .i64 x6.2.2.2.2.1,.int .i64 x6.2.2.2.2.2.1,.int .i64 x6.2.2.2.2.2.2]),(1056,.rows 255 bg .no x8.2.1),(1087,.box [.list aL x8.1,.own 1056,.list au x8.2.2.1,.int .i64 x8.2.2.2.1.1,.int .i64 x8.2.2.2.1.2.1,.int .i64 x8.2.2.2.1.2.2,.int .i64 x8.2.2.2.2.1,.int .i64 x8.2.2.2.2.2.1,.int .i64 x8.2.2.2.2.2.2]),(1343,.box [.str x10.1.1,.int .i64 x10.1.2.1,.list Y1 x10.1.2.2.1,.list (.pair .str .str) x10.1.2.2.2.1,.list Y2 x10.1.2.2.2.2.1,.list (.pair (.int .i64) .bool) x10.1.2.2.2.2.2,.list (.int .i64) x10.2.1.1,.list .str x10.2.1.2.1,.list (.int .i64) x10.2.1.2.2.1,.list .str x10.2.1.2.2.2,.list Y5 x10.2.2])]⟩
theorem wS (a0:D3) (a1:List eu) (a2:Bool):Ze a0 a1 a2=aA (fun kr5=>(Pi a0).bind fun r1=>bif (!r1)then kr5 true else kr5 (decide ((a1.length:Int)>6))) fun(r3:Bool)=>bif r3 then some (([],[],[],(0,0,0),0,0,0),false)else((Sp a0).bind fun r4=>Ze.a a1 a2 ([],[],[],(0,0,0),0,0,0) r4 a1 (a1.length:Int) 0):=
 (aa cfg 84 _).trans (by kernel_rfl)
theorem Ze.a_eq (x1:List eu) (x2:Bool) (x6 x8:Dt) (x27:List eu) (x28 x29:Int):Ze.a x1 x2 x6 x8 x27 x28 x29=bif (decide (x29<x28))then(bif (aq x29 (x27.length))then(aA (fun kr9=>(Qr ((rd (τ:=Y6) x27 x29).1)).bind fun r6=>bif (!r6)then kr9 true else kr9 (!decide ((rd (τ:=Y6) x27 x29).1.2.1=x29))) fun(r8:Bool)=>bif r8 then some (([],[],[],(0,0,0),0,0,0),false)else(bif (decide (0≤0)&&decide (0≤x29)&&decide (x29≤(x1.length:Int)))then Ze.b x1 x2 x6 x8 x29 (rd (τ:=Y6) x27 x29) x27 x28 x29 ((x1.take (Int.toNat x29)).drop (Int.toNat 0)) (((x1.take (Int.toNat x29)).drop (Int.toNat 0)).length:Int) 0 else none))else none)else some (x8,true):=
 (ak cfg 84 _ _ _).trans (by kernel_rfl)
theorem Ze.b_eq (x1:List eu) (x2:Bool) (x6 x8:Dt) (x9:Int) (x10:eu) (x27:List eu) (x28 x29:Int) (x48:List eu) (x49 x50:Int):Ze.b x1 x2 x6 x8 x9 x10 x27 x28 x29 x48 x49 x50=bif (decide (x50<x49))then(bif (aq x50 (x48.length))then(bif (bh ((rd (τ:=Y6) x48 x50).1.1) x10.1.1)then some (([],[],[],(0,0,0),0,0,0),false)else((Su ((rd (τ:=Y6) x48 x50).1) x10.1).bind fun r25=>bif r25 then some (([],[],[],(0,0,0),0,0,0),false)else Ze.b x1 x2 x6 x8 x9 x10 x27 x28 x29 x48 x49 (IntKind.wrap .i64 (x50+1))))else none)else((Zd x8 x10.1 (IntKind.wrap .i64 (x9+1))).bind fun r10=>bif (!x2)then(aA (fun kr17=>bif (!decide (r10.2.2.1=0))then kr17 true else((Qn r10.1 x10.2.1).bind fun r11=>bif (!r11)then kr17 true else((Do [] x10.2.2).bind fun r12=>kr17 (!r12)))) fun(r16:Bool)=>bif r16 then some (([],[],[],(0,0,0),0,0,0),false)else Ze.a x1 x2 x6 r10.2.2.2 x27 x28 (IntKind.wrap .i64 (x29+1)))else(aA (fun kr24=>bif (!decide (r10.2.2.1=0))then kr24 true else((Qn r10.1 x10.2.1).bind fun r18=>bif (!r18)then kr24 true else((Do r10.2.1 x10.2.2).bind fun r19=>kr24 (!r19)))) fun(r23:Bool)=>bif r23 then some (([],[],[],(0,0,0),0,0,0),false)else Ze.a x1 x2 x6 r10.2.2.2 x27 x28 (IntKind.wrap .i64 (x29+1)))):=
 (ak cfg 84 _ _ _).trans (by kernel_rfl)
noncomputable def Zf (a0:Int):Option Bool:=aw cfg 195 [.v (.int .i64 a0)]
theorem Jl (a0:Int):Zf a0=(gA a0 0 1048575).bind fun r1=>bif r1 then some (decide ((a0.tmod 128)=0))else some false:=
 (aa cfg 195 _).trans (by kernel_rfl)
noncomputable def Zg (a0:Int):Option Bool:=aw cfg 196 [.v (.int .i64 a0)]
theorem Jm (a0:Int):Zg a0=(gA a0 0 15).bind fun r1=>some r1:=
 (aa cfg 196 _).trans (by kernel_rfl)
noncomputable def Zh (a0:List D1):Option Bool:=aw cfg 138 [.agg [.list au a0]]
noncomputable def Zh.a (x1 x10:List D1) (x11 x12:Int):Option Bool:=LA 138 Tryz.f138 [1,1,0,1,0] ⟨50,af [vP 1 191,vL 10 au x10,vI 11 x11,vI 12 x12],ai [(191,.box [.list au x1])]⟩
theorem PN (a0:List D1):Zh a0=bif (decide ((a0.length:Int)>64))then some false else Zh.a a0 a0 (a0.length:Int) 0:=
 (aa cfg 138 _).trans (by kernel_rfl)
theorem Zh.a_eq (x1 x10:List D1) (x11 x12:Int):Zh.a x1 x10 x11 x12=bif (decide (x12<x11))then(bif (aq x12 (x10.length))then((Zf ((rd (τ:=au) x10 x12).1)).bind fun r1=>bif (!r1)then some false else((Zg ((rd (τ:=au) x10 x12).2.1)).bind fun r2=>bif (!r2)then some false else(bif (!decide ((((rd (τ:=au) x10 x12).2.2).size:Int)=128))then some false else(bif (decide (x12>0))then(bif (aq (IntKind.wrap .i64 (x12-1)) (x1.length))then(bif (decide ((rd (τ:=au) x1 (IntKind.wrap .i64 (x12-1))).1≥(rd (τ:=au) x10 x12).1))then some false else Zh.a x1 x10 x11 (IntKind.wrap .i64 (x12+1)))else none)else Zh.a x1 x10 x11 (IntKind.wrap .i64 (x12+1))))))else none)else some true:=
 (ak cfg 138 _ _ _).trans (by kernel_rfl)
noncomputable def Zi (a0:List Int):Option Int:=aw cfg 255 [.v (.list (.int .i64) a0)]
noncomputable def Zi.a (x3:Int) (x6:List Int) (x7 x8:Int):Option Int:=LA 255 Tryz.f255 [1,1,0,1,0] ⟨18,af [vI 3 x3,vL 6 (.int .i64) x6,vI 7 x7,vI 8 x8],ai []⟩
theorem PO (a0:List Int):Zi a0=Zi.a 0 a0 (a0.length:Int) 0:=
 (aa cfg 255 _).trans (by kernel_rfl)
theorem Zi.a_eq (x3:Int) (x6:List Int) (x7 x8:Int):Zi.a x3 x6 x7 x8=bif (decide (x8<x7))then(bif (aq x8 (x6.length))then(bif (!decide ((rd (τ:=(.int .i64)) x6 x8)=x3))then some (rd (τ:=(.int .i64)) x6 x8)else Zi.a x3 x6 x7 (IntKind.wrap .i64 (x8+1)))else none)else some x3:=
 (ak cfg 255 _ _ _).trans (by kernel_rfl)
noncomputable def Zj (a0:Int):Option Bool:=aw cfg 300 [.v (.int .i64 a0)]
theorem Jn (a0:Int):Zj a0=some (!decide (a0=a0)):=
 (aa cfg 300 _).trans (by kernel_rfl)
noncomputable def Zk (a0 a1:Int):Option Int:=aw cfg 256 [.v (.int .i64 a0),.v (.int .i64 a1)]
theorem PP (a0 a1:Int):Zk a0 a1=(Zj a0).bind fun r1=>(Zj a1).bind fun r2=>bif r1 then(bif r2 then some 0 else some (-1))else(bif r2 then some 1 else(bif (decide (a0<a1))then some (-1)else(bif (decide (a0>a1))then some 1 else some 0))):=
 (aa cfg 256 _).trans (by kernel_rfl)
noncomputable def Zl (a0 a1:Int×Int×Int):Option Int:=aw cfg 199 [.agg [.int .i64 a0.1,.int .i64 a0.2.1,.int .i64 a0.2.2],.agg [.int .i64 a1.1,.int .i64 a1.2.1,.int .i64 a1.2.2]]
theorem PQ (a0 a1:Int×Int×Int):Zl a0 a1=(Zk a0.1 a1.1).bind fun r1=>(Zk a0.2.1 a1.2.1).bind fun r2=>(Zi [r1,r2]).bind fun r3=>some r3:=
 (aa cfg 199 _).trans (by kernel_rfl)
noncomputable def Zm (a0:List (Int×Int×Int)):Option Bool:=aw cfg 140 [.v (.list Y9 a0)]
noncomputable def Zm.a (x0 x8:List (Int×Int×Int)) (x9 x10:Int):Option Bool:=LA 140 Tryz.f140 [1,1,0,1,0] ⟨34,af [vL 0 Y9 x0,vL 8 Y9 x8,vI 9 x9,vI 10 x10],ai []⟩
theorem PR (a0:List (Int×Int×Int)):Zm a0=bif (decide ((a0.length:Int)>16))then some false else Zm.a a0 a0 (a0.length:Int) 0:=
 (aa cfg 140 _).trans (by kernel_rfl)
theorem Zm.a_eq (x0 x8:List (Int×Int×Int)) (x9 x10:Int):Zm.a x0 x8 x9 x10=bif (decide (x10<x9))then(bif (aq x10 (x8.length))then((gA ((rd (τ:=Y9) x8 x10).2.1) 0 255).bind fun r1=>bif (!r1)then some false else(bif (decide (x10>0))then(bif (aq (IntKind.wrap .i64 (x10-1)) (x0.length))then((Zl (rd (τ:=Y9) x0 (IntKind.wrap .i64 (x10-1))) (rd (τ:=Y9) x8 x10)).bind fun r2=>bif (decide (r2≥0))then some false else Zm.a x0 x8 x9 (IntKind.wrap .i64 (x10+1)))else none)else Zm.a x0 x8 x9 (IntKind.wrap .i64 (x10+1))))else none)else some true:=
 (ak cfg 140 _ _ _).trans (by kernel_rfl)
noncomputable def Zn (a0:List Int×Int):Option Bool:=aw cfg 258 [.agg [.seg (.int .i64) 32 a0.1,.int .i64 a0.2]]
theorem PS (a0:List Int×Int):Zn a0=bif (aq 0 32)then some (decide ((rd (τ:=(.int .i64)) a0.1 0)=0))else none:=
 (aa cfg 258 _).trans (by kernel_rfl)
noncomputable def Zo (a0:D4):Option Bool:=aw cfg 202 [.agg [.int .i64 a0.1,.seg (.int .i64) 32 a0.2.1.1,.int .i64 a0.2.1.2,.list (.int .i64) a0.2.2.1,.int .i64 a0.2.2.2]]
theorem PT (a0:D4):Zo a0=aA (fun kr11=>bif (decide (a0.1=3))then((gA a0.2.2.2 1 31).bind fun r1=>kr11 r1)else kr11 (decide (a0.2.2.2=0))) fun(r2:Bool)=>(gA a0.1 1 3).bind fun r3=>bif r3 then((Zn a0.2.1).bind fun r4=>bif r4 then(bif (decide ((a0.2.2.1.length:Int)≤32))then some r2 else some false)else some false)else some false:=
 (aa cfg 202 _).trans (by kernel_rfl)
noncomputable def Zp (a0:D4):Option Bool:=aw cfg 201 [.agg [.int .i64 a0.1,.seg (.int .i64) 32 a0.2.1.1,.int .i64 a0.2.1.2,.list (.int .i64) a0.2.2.1,.int .i64 a0.2.2.2]]
theorem PU (a0:D4):Zp a0=(Zo a0).bind fun r1=>some (!r1):=
 (aa cfg 201 _).trans (by kernel_rfl)
noncomputable def Zq (a0:List D4):Option Int:=aw cfg 257 [.v (.list Y8 a0),.v (.fn 201 [])]
noncomputable def Zq.a (x0:List D4) (x7 x8:Int):Option Int:=LA 257 Tryz.f257 [1,0,1,0] ⟨19,af [vL 0 Y8 x0,(1,.v (.fn 201 [])),vI 7 x7,vI 8 x8],ai []⟩
theorem PW (a0:List D4):Zq a0=Zq.a a0 (a0.length:Int) 0:=
 (aa cfg 257 _).trans (by kernel_rfl)
theorem Zq.a_eq (x0:List D4) (x7 x8:Int):Zq.a x0 x7 x8=bif (decide (x8<x7))then(bif (aq x8 (x0.length))then((Zp (rd (τ:=Y8) x0 x8)).bind fun r1=>bif r1 then some x8 else Zq.a x0 x7 (IntKind.wrap .i64 (x8+1)))else none)else some (-1):=
 (ak cfg 257 _ _ _).trans (by kernel_rfl)
noncomputable def Zr (a0:List D4):Option Bool:=aw cfg 200 [.v (.list Y8 a0),.v (.fn 201 [])]
theorem PX (a0:List D4):Zr a0=(Zq a0).bind fun r1=>some (decide (r1≥0)):=
 (aa cfg 200 _).trans (by kernel_rfl)
noncomputable def Zs (a0:List D4):Option Bool:=aw cfg 141 [.v (.list Y8 a0)]
theorem PY (a0:List D4):Zs a0=(gA (a0.length:Int) 1 4).bind fun r1=>bif r1 then((Zr a0).bind fun r2=>some (!r2))else some false:=
 (aa cfg 141 _).trans (by kernel_rfl)
noncomputable def Zt (a0:D5):Option Bool:=aw cfg 85 [.agg [.list au a0.1,.list Y8 a0.2.1,.list aL a0.2.2.1,.list Y9 a0.2.2.2]]
theorem PZ (a0:D5):Zt a0=(Zh a0.1).bind fun r1=>bif r1 then((AO a0.2.2.1).bind fun r2=>bif r2 then((Zm a0.2.2.2).bind fun r3=>bif r3 then((Zs a0.2.1).bind fun r4=>some r4)else some false)else some false)else some false:=
 (aa cfg 85 _).trans (by kernel_rfl)
noncomputable def Zu (a0 a1:D1):Option Bool:=aw cfg 143 [.agg [.int .i64 a0.1,.int .i64 a0.2.1,.str a0.2.2],.agg [.int .i64 a1.1,.int .i64 a1.2.1,.str a1.2.2]]
theorem P0 (a0 a1:D1):Zu a0 a1=bif (decide (a0.1=a1.1))then(bif (decide (a0.2.1=a1.2.1))then(bif (!decide (a0.2.1=4))then some true else some (bh a0.2.2 a1.2.2))else some false)else some false:=
 (aa cfg 143 _).trans (by kernel_rfl)
noncomputable def Zv (a0 a1:List D1):Option Bool:=aw cfg 142 [.v (.list au a0),.v (.list au a1),.v (.fn 143 [])]
noncomputable def Zv.a (x1 x15:List D1) (x16 x17:Int):Option Bool:=LA 142 Tryz.f142 [1,1,0,1,0] ⟨32,af [vL 1 au x1,(2,.v (.fn 143 [])),vL 15 au x15,vI 16 x16,vI 17 x17],ai []⟩
theorem P3 (a0 a1:List D1):Zv a0 a1=bif (!decide ((a0.length:Int)=(a1.length:Int)))then some false else Zv.a a1 a0 (a0.length:Int) 0:=
 (aa cfg 142 _).trans (by kernel_rfl)
theorem Zv.a_eq (x1 x15:List D1) (x16 x17:Int):Zv.a x1 x15 x16 x17=bif (decide (x17<x16))then(bif (aq x17 (x15.length))then(bif (aq x17 (x1.length))then((Zu (rd (τ:=au) x15 x17) (rd (τ:=au) x1 x17)).bind fun r1=>bif (!r1)then some false else Zv.a x1 x15 x16 (IntKind.wrap .i64 (x17+1)))else none)else none)else some true:=
 (ak cfg 142 _ _ _).trans (by kernel_rfl)
noncomputable def Zw (a0 a1:List D1):Option Bool:=aw cfg 86 [.agg [.list au a0],.agg [.list au a1]]
theorem P4 (a0 a1:List D1):Zw a0 a1=(Zv a0 a1).bind fun r1=>some r1:=
 (aa cfg 86 _).trans (by kernel_rfl)
noncomputable def Zx (a0:oz):Option (Dt×Bool):=aw cfg 40 [.agg [.str a0.1.1,.str a0.1.2.1,.list Y0 a0.1.2.2,.list au a0.2.1.1,.list Y8 a0.2.1.2.1,.list aL a0.2.1.2.2.1,.list Y9 a0.2.1.2.2.2,.list Y6 a0.2.2]]
theorem Au (a0:oz):Zx a0=(Ze a0.1 a0.2.2 true).bind fun r1=>bif (!r1.2)then some (([],[],[],(0,0,0),0,0,0),false)else((Zt a0.2.1).bind fun r2=>bif (!r2)then some (([],[],[],(0,0,0),0,0,0),false)else((Ep a0.2.1.2.2.1 r1.1.1).bind fun r3=>bif (!r3)then some (([],[],[],(0,0,0),0,0,0),false)else((Zw a0.2.1.1 r1.1.2.2.1).bind fun r4=>bif (!r4)then some (([],[],[],(0,0,0),0,0,0),false)else some (r1.1,true)))):=
 (aa cfg 40 _).trans (by kernel_rfl)
noncomputable def Zy (a0:oz):Option Bool:=aw cfg 17 [.agg [.str a0.1.1,.str a0.1.2.1,.list Y0 a0.1.2.2,.list au a0.2.1.1,.list Y8 a0.2.1.2.1,.list aL a0.2.1.2.2.1,.list Y9 a0.2.1.2.2.2,.list Y6 a0.2.2]]
theorem Jo (a0:oz):Zy a0=(Zx a0).bind fun r1=>some r1.2:=
 (aa cfg 17 _).trans (by kernel_rfl)
noncomputable def Zz (a0 a1:List D2):Option Bool:=aw cfg 41 [.v (.list Y0 a0),.v (.list Y0 a1)]
noncomputable def Zz.a (x0 x1:List D2) (x12 x13:Int):Option Bool:=LA 41 Tryz.f41 [1,1,0,1,0] ⟨26,af [vL 0 Y0 x0,vL 1 Y0 x1,vI 12 x12,vI 13 x13],ai []⟩
theorem P5 (a0 a1:List D2):Zz a0 a1=bif (!decide ((a0.length:Int)=(a1.length:Int)))then some false else Zz.a a0 a1 (a0.length:Int) 0:=
 (aa cfg 41 _).trans (by kernel_rfl)
theorem Zz.a_eq (x0 x1:List D2) (x12 x13:Int):Zz.a x0 x1 x12 x13=bif (decide (x13<x12))then(bif (aq x13 (x0.length))then(bif (aq x13 (x1.length))then(bif (!(d9 Y0 (rd (τ:=Y0) x0 x13) (rd (τ:=Y0) x1 x13)))then some false else Zz.a x0 x1 x12 (IntKind.wrap .i64 (x13+1)))else none)else none)else some true:=
 (ak cfg 41 _ _ _).trans (by kernel_rfl)
noncomputable def RE (a0 a1:D3):Option Bool:=aw cfg 18 [.agg [.str a0.1,.str a0.2.1,.list Y0 a0.2.2],.agg [.str a1.1,.str a1.2.1,.list Y0 a1.2.2]]
theorem JS (a0 a1:D3):RE a0 a1=bif (bh a0.1 a1.1)then(bif (bh a0.2.1 a1.2.1)then((Zz a0.2.2 a1.2.2).bind fun r1=>some r1)else some false)else some false:=
 (aa cfg 18 _).trans (by kernel_rfl)
noncomputable def Gi (a0 a1:List D1):Option Bool:=aw cfg 87 [.v (.list au a0),.v (.list au a1)]
noncomputable def Gi.a (x0 x1:List D1) (x12 x13:Int):Option Bool:=LA 87 Tryz.f87 [1,1,0,1,0] ⟨26,af [vL 0 au x0,vL 1 au x1,vI 12 x12,vI 13 x13],ai []⟩
theorem JT (a0 a1:List D1):Gi a0 a1=bif (!decide ((a0.length:Int)=(a1.length:Int)))then some false else Gi.a a0 a1 (a0.length:Int) 0:=
 (aa cfg 87 _).trans (by kernel_rfl)
theorem Gi.a_eq (x0 x1:List D1) (x12 x13:Int):Gi.a x0 x1 x12 x13=bif (decide (x13<x12))then(bif (aq x13 (x0.length))then(bif (aq x13 (x1.length))then(bif (!(d9 au (rd (τ:=au) x0 x13) (rd (τ:=au) x1 x13)))then some false else Gi.a x0 x1 x12 (IntKind.wrap .i64 (x13+1)))else none)else none)else some true:=
 (ak cfg 87 _ _ _).trans (by kernel_rfl)
noncomputable def SE (a0 a1:List D1):Option Bool:=aw cfg 42 [.agg [.list au a0],.agg [.list au a1]]
theorem JU (a0 a1:List D1):SE a0 a1=(Gi a0 a1).bind fun r1=>some r1:=
 (aa cfg 42 _).trans (by kernel_rfl)
noncomputable def RF (a0 a1:D4):Option Bool:=aw cfg 89 [.agg [.int .i64 a0.1,.seg (.int .i64) 32 a0.2.1.1,.int .i64 a0.2.1.2,.list (.int .i64) a0.2.2.1,.int .i64 a0.2.2.2],.agg [.int .i64 a1.1,.seg (.int .i64) 32 a1.2.1.1,.int .i64 a1.2.1.2,.list (.int .i64) a1.2.2.1,.int .i64 a1.2.2.2]]
theorem JV (a0 a1:D4):RF a0 a1=bif (decide (a0.1=a1.1))then(bif (d9 Y7 a0.2.1 a1.2.1)then(bif (decide (a0.2.2.2=a1.2.2.2))then((Dn a0.2.2.1 a1.2.2.1).bind fun r1=>some r1)else some false)else some false)else some false:=
 (aa cfg 89 _).trans (by kernel_rfl)
noncomputable def Hx (a0 a1:List D4):Option Bool:=aw cfg 88 [.v (.list Y8 a0),.v (.list Y8 a1),.v (.fn 89 [])]
noncomputable def Hx.a (x1 x15:List D4) (x16 x17:Int):Option Bool:=LA 88 Tryz.f88 [1,1,0,1,0] ⟨32,af [vL 1 Y8 x1,(2,.v (.fn 89 [])),vL 15 Y8 x15,vI 16 x16,vI 17 x17],ai []⟩
theorem JW (a0 a1:List D4):Hx a0 a1=bif (!decide ((a0.length:Int)=(a1.length:Int)))then some false else Hx.a a1 a0 (a0.length:Int) 0:=
 (aa cfg 88 _).trans (by kernel_rfl)
theorem Hx.a_eq (x1 x15:List D4) (x16 x17:Int):Hx.a x1 x15 x16 x17=bif (decide (x17<x16))then(bif (aq x17 (x15.length))then(bif (aq x17 (x1.length))then((RF (rd (τ:=Y8) x15 x17) (rd (τ:=Y8) x1 x17)).bind fun r1=>bif (!r1)then some false else Hx.a x1 x15 x16 (IntKind.wrap .i64 (x17+1)))else none)else none)else some true:=
 (ak cfg 88 _ _ _).trans (by kernel_rfl)
noncomputable def RG (a0 a1:List D4):Option Bool:=aw cfg 43 [.v (.list Y8 a0),.v (.list Y8 a1)]
theorem JX (a0 a1:List D4):RG a0 a1=(Hx a0 a1).bind fun r1=>some r1:=
 (aa cfg 43 _).trans (by kernel_rfl)
noncomputable def Gj (a0 a1:List (Int×Int×Int)):Option Bool:=aw cfg 45 [.v (.list Y9 a0),.v (.list Y9 a1)]
noncomputable def Gj.a (x0 x1:List (Int×Int×Int)) (x12 x13:Int):Option Bool:=LA 45 Tryz.f45 [1,1,0,1,0] ⟨26,af [vL 0 Y9 x0,vL 1 Y9 x1,vI 12 x12,vI 13 x13],ai []⟩
theorem JY (a0 a1:List (Int×Int×Int)):Gj a0 a1=bif (!decide ((a0.length:Int)=(a1.length:Int)))then some false else Gj.a a0 a1 (a0.length:Int) 0:=
 (aa cfg 45 _).trans (by kernel_rfl)
theorem Gj.a_eq (x0 x1:List (Int×Int×Int)) (x12 x13:Int):Gj.a x0 x1 x12 x13=bif (decide (x13<x12))then(bif (aq x13 (x0.length))then(bif (aq x13 (x1.length))then(bif (!(d9 Y9 (rd (τ:=Y9) x0 x13) (rd (τ:=Y9) x1 x13)))then some false else Gj.a x0 x1 x12 (IntKind.wrap .i64 (x13+1)))else none)else none)else some true:=
 (ak cfg 45 _ _ _).trans (by kernel_rfl)
noncomputable def RH (a0 a1:D5):Option Bool:=aw cfg 19 [.agg [.list au a0.1,.list Y8 a0.2.1,.list aL a0.2.2.1,.list Y9 a0.2.2.2],.agg [.list au a1.1,.list Y8 a1.2.1,.list aL a1.2.2.1,.list Y9 a1.2.2.2]]
theorem JZ (a0 a1:D5):RH a0 a1=(SE a0.1 a1.1).bind fun r1=>bif r1 then((RG a0.2.1 a1.2.1).bind fun r2=>bif r2 then((Ep a0.2.2.1 a1.2.2.1).bind fun r3=>bif r3 then((Gj a0.2.2.2 a1.2.2.2).bind fun r4=>some r4)else some false)else some false)else some false:=
 (aa cfg 19 _).trans (by kernel_rfl)
noncomputable def Gk (a0 a1:List D6):Option Bool:=aw cfg 91 [.v (.list Y1 a0),.v (.list Y1 a1)]
noncomputable def Gk.a (x0 x1:List D6) (x12 x13:Int):Option Bool:=LA 91 Tryz.f91 [1,1,0,1,0] ⟨26,af [vL 0 Y1 x0,vL 1 Y1 x1,vI 12 x12,vI 13 x13],ai []⟩
theorem J0 (a0 a1:List D6):Gk a0 a1=bif (!decide ((a0.length:Int)=(a1.length:Int)))then some false else Gk.a a0 a1 (a0.length:Int) 0:=
 (aa cfg 91 _).trans (by kernel_rfl)
theorem Gk.a_eq (x0 x1:List D6) (x12 x13:Int):Gk.a x0 x1 x12 x13=bif (decide (x13<x12))then(bif (aq x13 (x0.length))then(bif (aq x13 (x1.length))then(bif (!(d9 Y1 (rd (τ:=Y1) x0 x13) (rd (τ:=Y1) x1 x13)))then some false else Gk.a x0 x1 x12 (IntKind.wrap .i64 (x13+1)))else none)else none)else some true:=
 (ak cfg 91 _ _ _).trans (by kernel_rfl)
noncomputable def Gl (a0 a1:List D7):Option Bool:=aw cfg 92 [.v (.list (.pair .str .str) a0),.v (.list (.pair .str .str) a1)]
noncomputable def Gl.a (x0 x1:List D7) (x12 x13:Int):Option Bool:=LA 92 Tryz.f92 [1,1,0,1,0] ⟨26,af [vL 0 (.pair .str .str) x0,vL 1 (.pair .str .str) x1,vI 12 x12,vI 13 x13],ai []⟩
theorem J1 (a0 a1:List D7):Gl a0 a1=bif (!decide ((a0.length:Int)=(a1.length:Int)))then some false else Gl.a a0 a1 (a0.length:Int) 0:=
 (aa cfg 92 _).trans (by kernel_rfl)
theorem Gl.a_eq (x0 x1:List D7) (x12 x13:Int):Gl.a x0 x1 x12 x13=bif (decide (x13<x12))then(bif (aq x13 (x0.length))then(bif (aq x13 (x1.length))then(bif (!(d9 (.pair .str .str) (rd (τ:=(.pair .str .str)) x0 x13) (rd (τ:=(.pair .str .str)) x1 x13)))then some false else Gl.a x0 x1 x12 (IntKind.wrap .i64 (x13+1)))else none)else none)else some true:=
 (ak cfg 92 _ _ _).trans (by kernel_rfl)
noncomputable def Gm (a0 a1:List D8):Option Bool:=aw cfg 93 [.v (.list Y2 a0),.v (.list Y2 a1)]
noncomputable def Gm.a (x0 x1:List D8) (x12 x13:Int):Option Bool:=LA 93 Tryz.f93 [1,1,0,1,0] ⟨26,af [vL 0 Y2 x0,vL 1 Y2 x1,vI 12 x12,vI 13 x13],ai []⟩
theorem J2 (a0 a1:List D8):Gm a0 a1=bif (!decide ((a0.length:Int)=(a1.length:Int)))then some false else Gm.a a0 a1 (a0.length:Int) 0:=
 (aa cfg 93 _).trans (by kernel_rfl)
theorem Gm.a_eq (x0 x1:List D8) (x12 x13:Int):Gm.a x0 x1 x12 x13=bif (decide (x13<x12))then(bif (aq x13 (x0.length))then(bif (aq x13 (x1.length))then(bif (!(d9 Y2 (rd (τ:=Y2) x0 x13) (rd (τ:=Y2) x1 x13)))then some false else Gm.a x0 x1 x12 (IntKind.wrap .i64 (x13+1)))else none)else none)else some true:=
 (ak cfg 93 _ _ _).trans (by kernel_rfl)
noncomputable def Gn (a0 a1:List (Int×Bool)):Option Bool:=aw cfg 94 [.v (.list (.pair (.int .i64) .bool) a0),.v (.list (.pair (.int .i64) .bool) a1)]
noncomputable def Gn.a (x0 x1:List (Int×Bool)) (x12 x13:Int):Option Bool:=LA 94 Tryz.f94 [1,1,0,1,0] ⟨26,af [vL 0 (.pair (.int .i64) .bool) x0,vL 1 (.pair (.int .i64) .bool) x1,vI 12 x12,vI 13 x13],ai []⟩
theorem J3 (a0 a1:List (Int×Bool)):Gn a0 a1=bif (!decide ((a0.length:Int)=(a1.length:Int)))then some false else Gn.a a0 a1 (a0.length:Int) 0:=
 (aa cfg 94 _).trans (by kernel_rfl)
theorem Gn.a_eq (x0 x1:List (Int×Bool)) (x12 x13:Int):Gn.a x0 x1 x12 x13=bif (decide (x13<x12))then(bif (aq x13 (x0.length))then(bif (aq x13 (x1.length))then(bif (!(d9 (.pair (.int .i64) .bool) (rd (τ:=(.pair (.int .i64) .bool)) x0 x13) (rd (τ:=(.pair (.int .i64) .bool)) x1 x13)))then some false else Gn.a x0 x1 x12 (IntKind.wrap .i64 (x13+1)))else none)else none)else some true:=
 (ak cfg 94 _ _ _).trans (by kernel_rfl)
noncomputable def RI (a0 a1:D9):Option Bool:=aw cfg 48 [.agg [.str a0.1,.int .i64 a0.2.1,.list Y1 a0.2.2.1,.list (.pair .str .str) a0.2.2.2.1,.list Y2 a0.2.2.2.2.1,.list (.pair (.int .i64) .bool) a0.2.2.2.2.2],.agg [.str a1.1,.int .i64 a1.2.1,.list Y1 a1.2.2.1,.list (.pair .str .str) a1.2.2.2.1,.list Y2 a1.2.2.2.2.1,.list (.pair (.int .i64) .bool) a1.2.2.2.2.2]]
theorem J4 (a0 a1:D9):RI a0 a1=bif (bh a0.1 a1.1)then(bif (decide (a0.2.1=a1.2.1))then((Gk a0.2.2.1 a1.2.2.1).bind fun r1=>bif r1 then((Gl a0.2.2.2.1 a1.2.2.2.1).bind fun r2=>bif r2 then((Gm a0.2.2.2.2.1 a1.2.2.2.2.1).bind fun r3=>bif r3 then((Gn a0.2.2.2.2.2 a1.2.2.2.2.2).bind fun r4=>some r4)else some false)else some false)else some false)else some false)else some false:=
 (aa cfg 48 _).trans (by kernel_rfl)
noncomputable def RJ (a0 a1:eu):Option Bool:=aw cfg 47 [.agg [.str a0.1.1,.int .i64 a0.1.2.1,.list Y1 a0.1.2.2.1,.list (.pair .str .str) a0.1.2.2.2.1,.list Y2 a0.1.2.2.2.2.1,.list (.pair (.int .i64) .bool) a0.1.2.2.2.2.2,.list (.int .i64) a0.2.1.1,.list .str a0.2.1.2.1,.list (.int .i64) a0.2.1.2.2.1,.list .str a0.2.1.2.2.2,.list Y5 a0.2.2],.agg [.str a1.1.1,.int .i64 a1.1.2.1,.list Y1 a1.1.2.2.1,.list (.pair .str .str) a1.1.2.2.2.1,.list Y2 a1.1.2.2.2.2.1,.list (.pair (.int .i64) .bool) a1.1.2.2.2.2.2,.list (.int .i64) a1.2.1.1,.list .str a1.2.1.2.1,.list (.int .i64) a1.2.1.2.2.1,.list .str a1.2.1.2.2.2,.list Y5 a1.2.2]]
theorem Gp (a0 a1:eu):RJ a0 a1=(RI a0.1 a1.1).bind fun r1=>bif r1 then((Qn a0.2.1 a1.2.1).bind fun r2=>bif r2 then((Do a0.2.2 a1.2.2).bind fun r3=>some r3)else some false)else some false:=
 (aa cfg 47 _).trans (by kernel_rfl)
noncomputable def Cu (a0 a1:List eu):Option Bool:=aw cfg 46 [.v (.list Y6 a0),.v (.list Y6 a1),.v (.fn 47 [])]
noncomputable def Cu.a (x1 x15:List eu) (x16 x17:Int):Option Bool:=LA 46 Tryz.f46 [1,1,0,1,0] ⟨32,af [vL 1 Y6 x1,(2,.v (.fn 47 [])),vL 15 Y6 x15,vI 16 x16,vI 17 x17],ai []⟩
theorem J5 (a0 a1:List eu):Cu a0 a1=bif (!decide ((a0.length:Int)=(a1.length:Int)))then some false else Cu.a a1 a0 (a0.length:Int) 0:=
 (aa cfg 46 _).trans (by kernel_rfl)
theorem Cu.a_eq (x1 x15:List eu) (x16 x17:Int):Cu.a x1 x15 x16 x17=bif (decide (x17<x16))then(bif (aq x17 (x15.length))then(bif (aq x17 (x1.length))then((RJ (rd (τ:=Y6) x15 x17) (rd (τ:=Y6) x1 x17)).bind fun r1=>bif (!r1)then some false else Cu.a x1 x15 x16 (IntKind.wrap .i64 (x17+1)))else none)else none)else some true:=
 (ak cfg 46 _ _ _).trans (by kernel_rfl)
noncomputable def SF (a0 a1:List eu):Option Bool:=aw cfg 20 [.v (.list Y6 a0),.v (.list Y6 a1)]
theorem J6 (a0 a1:List eu):SF a0 a1=(Cu a0 a1).bind fun r1=>some r1:=
 (aa cfg 20 _).trans (by kernel_rfl)
noncomputable def RK (a0 a1:oz):Option Bool:=aw cfg 7 [.agg [.str a0.1.1,.str a0.1.2.1,.list Y0 a0.1.2.2,.list au a0.2.1.1,.list Y8 a0.2.1.2.1,.list aL a0.2.1.2.2.1,.list Y9 a0.2.1.2.2.2,.list Y6 a0.2.2],.agg [.str a1.1.1,.str a1.1.2.1,.list Y0 a1.1.2.2,.list au a1.2.1.1,.list Y8 a1.2.1.2.1,.list aL a1.2.1.2.2.1,.list Y9 a1.2.1.2.2.2,.list Y6 a1.2.2]]
theorem J7 (a0 a1:oz):RK a0 a1=(Zy a0).bind fun r1=>bif r1 then((Zy a1).bind fun r2=>bif r2 then((RE a0.1 a1.1).bind fun r3=>bif r3 then((RH a0.2.1 a1.2.1).bind fun r4=>bif r4 then((SF a0.2.2 a1.2.2).bind fun r5=>some r5)else some false)else some false)else some false)else some false:=
 (aa cfg 7 _).trans (by kernel_rfl)
noncomputable def Qw (a0 a1:D2):Option Bool:=aw cfg 96 [.agg [.str a0.1,.int .i64 a0.2.1,.int .i64 a0.2.2.1,.int .i64 a0.2.2.2.1,.int .i64 a0.2.2.2.2],.agg [.str a1.1,.int .i64 a1.2.1,.int .i64 a1.2.2.1,.int .i64 a1.2.2.2.1,.int .i64 a1.2.2.2.2]]
theorem J8 (a0 a1:D2):Qw a0 a1=bif (!bh a0.1 a1.1)then some false else(bif (!decide (a0.2.1=a1.2.1))then some false else(bif (!decide (a0.2.2.1=a1.2.2.1))then some false else(bif (!decide (a0.2.2.2.1=a1.2.2.2.1))then some false else(bif (!decide (a0.2.2.2.2=a1.2.2.2.2))then some false else some true)))):=
 (aa cfg 96 _).trans (by kernel_rfl)
noncomputable def Dy (a0 a1:List D2):Option Bool:=aw cfg 51 [.v (.list Y0 a0),.v (.list Y0 a1)]
noncomputable def Dy.a (x0 x1:List D2) (x5:Int):Option Bool:=LA 51 Tryz.f51 [1,1,0,1,0] ⟨27,af [vL 0 Y0 x0,vL 1 Y0 x1,vI 5 x5],ai []⟩
theorem J9 (a0 a1:List D2):Dy a0 a1=bif (!decide ((a0.length:Int)=(a1.length:Int)))then some false else Dy.a a0 a1 0:=
 (aa cfg 51 _).trans (by kernel_rfl)
theorem Dy.a_eq (x0 x1:List D2) (x5:Int):Dy.a x0 x1 x5=bif (decide (x5< (x0.length:Int)))then(bif (aq x5 (x0.length))then(bif (aq x5 (x1.length))then((Qw (rd (τ:=Y0) x0 x5) (rd (τ:=Y0) x1 x5)).bind fun r1=>bif (!r1)then some false else Dy.a x0 x1 (IntKind.wrap .i64 (x5+1)))else none)else none)else some true:=
 (ak cfg 51 _ _ _).trans (by kernel_rfl)
noncomputable def Qx (a0 a1:D3):Option Bool:=aw cfg 21 [.agg [.str a0.1,.str a0.2.1,.list Y0 a0.2.2],.agg [.str a1.1,.str a1.2.1,.list Y0 a1.2.2]]
theorem Ka (a0 a1:D3):Qx a0 a1=bif (!bh a0.1 a1.1)then some false else(bif (!bh a0.2.1 a1.2.1)then some false else((Dy a0.2.2 a1.2.2).bind fun r1=>bif (!r1)then some false else some true)):=
 (aa cfg 21 _).trans (by kernel_rfl)
noncomputable def Qy (a0 a1:D1):Option Bool:=aw cfg 144 [.agg [.int .i64 a0.1,.int .i64 a0.2.1,.str a0.2.2],.agg [.int .i64 a1.1,.int .i64 a1.2.1,.str a1.2.2]]
theorem Kb (a0 a1:D1):Qy a0 a1=bif (!decide (a0.1=a1.1))then some false else(bif (!decide (a0.2.1=a1.2.1))then some false else(bif (!bh a0.2.2 a1.2.2)then some false else some true)):=
 (aa cfg 144 _).trans (by kernel_rfl)
noncomputable def Dz (a0 a1:List D1):Option Bool:=aw cfg 97 [.v (.list au a0),.v (.list au a1)]
noncomputable def Dz.a (x0 x1:List D1) (x5:Int):Option Bool:=LA 97 Tryz.f97 [1,1,0,1,0] ⟨27,af [vL 0 au x0,vL 1 au x1,vI 5 x5],ai []⟩
theorem Kc (a0 a1:List D1):Dz a0 a1=bif (!decide ((a0.length:Int)=(a1.length:Int)))then some false else Dz.a a0 a1 0:=
 (aa cfg 97 _).trans (by kernel_rfl)
theorem Dz.a_eq (x0 x1:List D1) (x5:Int):Dz.a x0 x1 x5=bif (decide (x5< (x0.length:Int)))then(bif (aq x5 (x0.length))then(bif (aq x5 (x1.length))then((Qy (rd (τ:=au) x0 x5) (rd (τ:=au) x1 x5)).bind fun r1=>bif (!r1)then some false else Dz.a x0 x1 (IntKind.wrap .i64 (x5+1)))else none)else none)else some true:=
 (ak cfg 97 _ _ _).trans (by kernel_rfl)
noncomputable def Qz (a0 a1:List D1):Option Bool:=aw cfg 52 [.agg [.list au a0],.agg [.list au a1]]
theorem Kd (a0 a1:List D1):Qz a0 a1=(Dz a0 a1).bind fun r1=>bif (!r1)then some false else some true:=
 (aa cfg 52 _).trans (by kernel_rfl)
noncomputable def DA (a0 a1:List Int):Option Bool:=aw cfg 203 [.agg [.seg (.int .i64) 32 a0],.agg [.seg (.int .i64) 32 a1]]
noncomputable def DA.a (x2 x3:List Int) (x5:Int):Option Bool:=LA 203 Tryz.f203 [1,0,1,0] ⟨17,af [vP 2 319,vP 3 447,vI 5 x5],ai [(319,.box [.seg (.int .i64) 32 x2]),(447,.box [.seg (.int .i64) 32 x3])]⟩
theorem Ke (a0 a1:List Int):DA a0 a1=DA.a a0 a1 0:=
 (aa cfg 203 _).trans (by kernel_rfl)
theorem DA.a_eq (x2 x3:List Int) (x5:Int):DA.a x2 x3 x5=bif (decide (x5<32))then(bif (aq x5 32)then(bif (aq x5 32)then(bif (!decide ((rd (τ:=(.int .i64)) x2 x5)=(rd (τ:=(.int .i64)) x3 x5)))then some false else DA.a x2 x3 (IntKind.wrap .i64 (x5+1)))else none)else none)else some true:=
 (ak cfg 203 _ _ _).trans (by kernel_rfl)
noncomputable def QA (a0 a1:List Int×Int):Option Bool:=aw cfg 145 [.agg [.seg (.int .i64) 32 a0.1,.int .i64 a0.2],.agg [.seg (.int .i64) 32 a1.1,.int .i64 a1.2]]
theorem Kf (a0 a1:List Int×Int):QA a0 a1=(DA a0.1 a1.1).bind fun r1=>bif (!r1)then some false else(bif (!decide (a0.2=a1.2))then some false else some true):=
 (aa cfg 145 _).trans (by kernel_rfl)
noncomputable def Av (a0 a1:List Int):Option Bool:=aw cfg 146 [.v (.list (.int .i64) a0),.v (.list (.int .i64) a1)]
noncomputable def Av.a (x0 x1:List Int) (x5:Int):Option Bool:=LA 146 Tryz.f146 [1,1,0,1,0] ⟨26,af [vL 0 (.int .i64) x0,vL 1 (.int .i64) x1,vI 5 x5],ai []⟩
theorem Kg (a0 a1:List Int):Av a0 a1=bif (!decide ((a0.length:Int)=(a1.length:Int)))then some false else Av.a a0 a1 0:=
 (aa cfg 146 _).trans (by kernel_rfl)
theorem Av.a_eq (x0 x1:List Int) (x5:Int):Av.a x0 x1 x5=bif (decide (x5< (x0.length:Int)))then(bif (aq x5 (x0.length))then(bif (aq x5 (x1.length))then(bif (!decide ((rd (τ:=(.int .i64)) x0 x5)=(rd (τ:=(.int .i64)) x1 x5)))then some false else Av.a x0 x1 (IntKind.wrap .i64 (x5+1)))else none)else none)else some true:=
 (ak cfg 146 _ _ _).trans (by kernel_rfl)
noncomputable def QB (a0 a1:D4):Option Bool:=aw cfg 98 [.agg [.int .i64 a0.1,.seg (.int .i64) 32 a0.2.1.1,.int .i64 a0.2.1.2,.list (.int .i64) a0.2.2.1,.int .i64 a0.2.2.2],.agg [.int .i64 a1.1,.seg (.int .i64) 32 a1.2.1.1,.int .i64 a1.2.1.2,.list (.int .i64) a1.2.2.1,.int .i64 a1.2.2.2]]
theorem Kh (a0 a1:D4):QB a0 a1=bif (!decide (a0.1=a1.1))then some false else((QA a0.2.1 a1.2.1).bind fun r1=>bif (!r1)then some false else((Av a0.2.2.1 a1.2.2.1).bind fun r2=>bif (!r2)then some false else(bif (!decide (a0.2.2.2=a1.2.2.2))then some false else some true))):=
 (aa cfg 98 _).trans (by kernel_rfl)
noncomputable def DB (a0 a1:List D4):Option Bool:=aw cfg 53 [.v (.list Y8 a0),.v (.list Y8 a1)]
noncomputable def DB.a (x0 x1:List D4) (x5:Int):Option Bool:=LA 53 Tryz.f53 [1,1,0,1,0] ⟨27,af [vL 0 Y8 x0,vL 1 Y8 x1,vI 5 x5],ai []⟩
theorem Ki (a0 a1:List D4):DB a0 a1=bif (!decide ((a0.length:Int)=(a1.length:Int)))then some false else DB.a a0 a1 0:=
 (aa cfg 53 _).trans (by kernel_rfl)
theorem DB.a_eq (x0 x1:List D4) (x5:Int):DB.a x0 x1 x5=bif (decide (x5< (x0.length:Int)))then(bif (aq x5 (x0.length))then(bif (aq x5 (x1.length))then((QB (rd (τ:=Y8) x0 x5) (rd (τ:=Y8) x1 x5)).bind fun r1=>bif (!r1)then some false else DB.a x0 x1 (IntKind.wrap .i64 (x5+1)))else none)else none)else some true:=
 (ak cfg 53 _ _ _).trans (by kernel_rfl)
noncomputable def QC (a0 a1:D0):Option Bool:=aw cfg 99 [.agg [.str a0.1,.int .i64 a0.2.1,.int .i64 a0.2.2.1,.int .i64 a0.2.2.2.1,.int .i64 a0.2.2.2.2.1,.int .i64 a0.2.2.2.2.2],.agg [.str a1.1,.int .i64 a1.2.1,.int .i64 a1.2.2.1,.int .i64 a1.2.2.2.1,.int .i64 a1.2.2.2.2.1,.int .i64 a1.2.2.2.2.2]]
theorem Kj (a0 a1:D0):QC a0 a1=bif (!bh a0.1 a1.1)then some false else(bif (!decide (a0.2.1=a1.2.1))then some false else(bif (!decide (a0.2.2.1=a1.2.2.1))then some false else(bif (!decide (a0.2.2.2.1=a1.2.2.2.1))then some false else(bif (!decide (a0.2.2.2.2.1=a1.2.2.2.2.1))then some false else(bif (!decide (a0.2.2.2.2.2=a1.2.2.2.2.2))then some false else some true))))):=
 (aa cfg 99 _).trans (by kernel_rfl)
noncomputable def DC (a0 a1:List D0):Option Bool:=aw cfg 54 [.v (.list aL a0),.v (.list aL a1)]
noncomputable def DC.a (x0 x1:List D0) (x5:Int):Option Bool:=LA 54 Tryz.f54 [1,1,0,1,0] ⟨27,af [vL 0 aL x0,vL 1 aL x1,vI 5 x5],ai []⟩
theorem Kk (a0 a1:List D0):DC a0 a1=bif (!decide ((a0.length:Int)=(a1.length:Int)))then some false else DC.a a0 a1 0:=
 (aa cfg 54 _).trans (by kernel_rfl)
theorem DC.a_eq (x0 x1:List D0) (x5:Int):DC.a x0 x1 x5=bif (decide (x5< (x0.length:Int)))then(bif (aq x5 (x0.length))then(bif (aq x5 (x1.length))then((QC (rd (τ:=aL) x0 x5) (rd (τ:=aL) x1 x5)).bind fun r1=>bif (!r1)then some false else DC.a x0 x1 (IntKind.wrap .i64 (x5+1)))else none)else none)else some true:=
 (ak cfg 54 _ _ _).trans (by kernel_rfl)
noncomputable def QD (a0 a1:Int×Int×Int):Option Bool:=aw cfg 100 [.agg [.int .i64 a0.1,.int .i64 a0.2.1,.int .i64 a0.2.2],.agg [.int .i64 a1.1,.int .i64 a1.2.1,.int .i64 a1.2.2]]
theorem Kl (a0 a1:Int×Int×Int):QD a0 a1=bif (!decide (a0.1=a1.1))then some false else(bif (!decide (a0.2.1=a1.2.1))then some false else(bif (!decide (a0.2.2=a1.2.2))then some false else some true)):=
 (aa cfg 100 _).trans (by kernel_rfl)
noncomputable def DD (a0 a1:List (Int×Int×Int)):Option Bool:=aw cfg 55 [.v (.list Y9 a0),.v (.list Y9 a1)]
noncomputable def DD.a (x0 x1:List (Int×Int×Int)) (x5:Int):Option Bool:=LA 55 Tryz.f55 [1,1,0,1,0] ⟨27,af [vL 0 Y9 x0,vL 1 Y9 x1,vI 5 x5],ai []⟩
theorem Km (a0 a1:List (Int×Int×Int)):DD a0 a1=bif (!decide ((a0.length:Int)=(a1.length:Int)))then some false else DD.a a0 a1 0:=
 (aa cfg 55 _).trans (by kernel_rfl)
theorem DD.a_eq (x0 x1:List (Int×Int×Int)) (x5:Int):DD.a x0 x1 x5=bif (decide (x5< (x0.length:Int)))then(bif (aq x5 (x0.length))then(bif (aq x5 (x1.length))then((QD (rd (τ:=Y9) x0 x5) (rd (τ:=Y9) x1 x5)).bind fun r1=>bif (!r1)then some false else DD.a x0 x1 (IntKind.wrap .i64 (x5+1)))else none)else none)else some true:=
 (ak cfg 55 _ _ _).trans (by kernel_rfl)
noncomputable def QE (a0 a1:D5):Option Bool:=aw cfg 22 [.agg [.list au a0.1,.list Y8 a0.2.1,.list aL a0.2.2.1,.list Y9 a0.2.2.2],.agg [.list au a1.1,.list Y8 a1.2.1,.list aL a1.2.2.1,.list Y9 a1.2.2.2]]
theorem Kn (a0 a1:D5):QE a0 a1=(Qz a0.1 a1.1).bind fun r1=>bif (!r1)then some false else((DB a0.2.1 a1.2.1).bind fun r2=>bif (!r2)then some false else((DC a0.2.2.1 a1.2.2.1).bind fun r3=>bif (!r3)then some false else((DD a0.2.2.2 a1.2.2.2).bind fun r4=>bif (!r4)then some false else some true))):=
 (aa cfg 22 _).trans (by kernel_rfl)
noncomputable def QF (a0 a1:D6):Option Bool:=aw cfg 204 [.agg [.str a0.1,.bool a0.2.1,.int .i64 a0.2.2.1,.str a0.2.2.2],.agg [.str a1.1,.bool a1.2.1,.int .i64 a1.2.2.1,.str a1.2.2.2]]
theorem Ko (a0 a1:D6):QF a0 a1=bif (!bh a0.1 a1.1)then some false else(bif (!(a0.2.1==a1.2.1))then some false else(bif (!decide (a0.2.2.1=a1.2.2.1))then some false else(bif (!bh a0.2.2.2 a1.2.2.2)then some false else some true))):=
 (aa cfg 204 _).trans (by kernel_rfl)
noncomputable def DE (a0 a1:List D6):Option Bool:=aw cfg 147 [.v (.list Y1 a0),.v (.list Y1 a1)]
noncomputable def DE.a (x0 x1:List D6) (x5:Int):Option Bool:=LA 147 Tryz.f147 [1,1,0,1,0] ⟨27,af [vL 0 Y1 x0,vL 1 Y1 x1,vI 5 x5],ai []⟩
theorem Kp (a0 a1:List D6):DE a0 a1=bif (!decide ((a0.length:Int)=(a1.length:Int)))then some false else DE.a a0 a1 0:=
 (aa cfg 147 _).trans (by kernel_rfl)
theorem DE.a_eq (x0 x1:List D6) (x5:Int):DE.a x0 x1 x5=bif (decide (x5< (x0.length:Int)))then(bif (aq x5 (x0.length))then(bif (aq x5 (x1.length))then((QF (rd (τ:=Y1) x0 x5) (rd (τ:=Y1) x1 x5)).bind fun r1=>bif (!r1)then some false else DE.a x0 x1 (IntKind.wrap .i64 (x5+1)))else none)else none)else some true:=
 (ak cfg 147 _ _ _).trans (by kernel_rfl)
noncomputable def QG (a0 a1:D7):Option Bool:=aw cfg 205 [.agg [.str a0.1,.str a0.2],.agg [.str a1.1,.str a1.2]]
theorem Kq (a0 a1:D7):QG a0 a1=bif (!bh a0.1 a1.1)then some false else(bif (!bh a0.2 a1.2)then some false else some true):=
 (aa cfg 205 _).trans (by kernel_rfl)
noncomputable def DF (a0 a1:List D7):Option Bool:=aw cfg 148 [.v (.list (.pair .str .str) a0),.v (.list (.pair .str .str) a1)]
noncomputable def DF.a (x0 x1:List D7) (x5:Int):Option Bool:=LA 148 Tryz.f148 [1,1,0,1,0] ⟨27,af [vL 0 (.pair .str .str) x0,vL 1 (.pair .str .str) x1,vI 5 x5],ai []⟩
theorem Kr (a0 a1:List D7):DF a0 a1=bif (!decide ((a0.length:Int)=(a1.length:Int)))then some false else DF.a a0 a1 0:=
 (aa cfg 148 _).trans (by kernel_rfl)
theorem DF.a_eq (x0 x1:List D7) (x5:Int):DF.a x0 x1 x5=bif (decide (x5< (x0.length:Int)))then(bif (aq x5 (x0.length))then(bif (aq x5 (x1.length))then((QG (rd (τ:=(.pair .str .str)) x0 x5) (rd (τ:=(.pair .str .str)) x1 x5)).bind fun r1=>bif (!r1)then some false else DF.a x0 x1 (IntKind.wrap .i64 (x5+1)))else none)else none)else some true:=
 (ak cfg 148 _ _ _).trans (by kernel_rfl)
noncomputable def QH (a0 a1:D8):Option Bool:=aw cfg 206 [.agg [.int .i64 a0.1,.int .i64 a0.2.1,.int .i64 a0.2.2.1,.str a0.2.2.2.1,.int .i64 a0.2.2.2.2],.agg [.int .i64 a1.1,.int .i64 a1.2.1,.int .i64 a1.2.2.1,.str a1.2.2.2.1,.int .i64 a1.2.2.2.2]]
theorem Ks (a0 a1:D8):QH a0 a1=bif (!decide (a0.1=a1.1))then some false else(bif (!decide (a0.2.1=a1.2.1))then some false else(bif (!decide (a0.2.2.1=a1.2.2.1))then some false else(bif (!bh a0.2.2.2.1 a1.2.2.2.1)then some false else(bif (!decide (a0.2.2.2.2=a1.2.2.2.2))then some false else some true)))):=
 (aa cfg 206 _).trans (by kernel_rfl)
noncomputable def DG (a0 a1:List D8):Option Bool:=aw cfg 149 [.v (.list Y2 a0),.v (.list Y2 a1)]
noncomputable def DG.a (x0 x1:List D8) (x5:Int):Option Bool:=LA 149 Tryz.f149 [1,1,0,1,0] ⟨27,af [vL 0 Y2 x0,vL 1 Y2 x1,vI 5 x5],ai []⟩
theorem Kt (a0 a1:List D8):DG a0 a1=bif (!decide ((a0.length:Int)=(a1.length:Int)))then some false else DG.a a0 a1 0:=
 (aa cfg 149 _).trans (by kernel_rfl)
theorem DG.a_eq (x0 x1:List D8) (x5:Int):DG.a x0 x1 x5=bif (decide (x5< (x0.length:Int)))then(bif (aq x5 (x0.length))then(bif (aq x5 (x1.length))then((QH (rd (τ:=Y2) x0 x5) (rd (τ:=Y2) x1 x5)).bind fun r1=>bif (!r1)then some false else DG.a x0 x1 (IntKind.wrap .i64 (x5+1)))else none)else none)else some true:=
 (ak cfg 149 _ _ _).trans (by kernel_rfl)
noncomputable def QI (a0 a1:Int×Bool):Option Bool:=aw cfg 207 [.agg [.int .i64 a0.1,.bool a0.2],.agg [.int .i64 a1.1,.bool a1.2]]
theorem Ku (a0 a1:Int×Bool):QI a0 a1=bif (!decide (a0.1=a1.1))then some false else(bif (!(a0.2==a1.2))then some false else some true):=
 (aa cfg 207 _).trans (by kernel_rfl)
noncomputable def DH (a0 a1:List (Int×Bool)):Option Bool:=aw cfg 150 [.v (.list (.pair (.int .i64) .bool) a0),.v (.list (.pair (.int .i64) .bool) a1)]
noncomputable def DH.a (x0 x1:List (Int×Bool)) (x5:Int):Option Bool:=LA 150 Tryz.f150 [1,1,0,1,0] ⟨27,af [vL 0 (.pair (.int .i64) .bool) x0,vL 1 (.pair (.int .i64) .bool) x1,vI 5 x5],ai []⟩
theorem Kv (a0 a1:List (Int×Bool)):DH a0 a1=bif (!decide ((a0.length:Int)=(a1.length:Int)))then some false else DH.a a0 a1 0:=
 (aa cfg 150 _).trans (by kernel_rfl)
theorem DH.a_eq (x0 x1:List (Int×Bool)) (x5:Int):DH.a x0 x1 x5=bif (decide (x5< (x0.length:Int)))then(bif (aq x5 (x0.length))then(bif (aq x5 (x1.length))then((QI (rd (τ:=(.pair (.int .i64) .bool)) x0 x5) (rd (τ:=(.pair (.int .i64) .bool)) x1 x5)).bind fun r1=>bif (!r1)then some false else DH.a x0 x1 (IntKind.wrap .i64 (x5+1)))else none)else none)else some true:=
 (ak cfg 150 _ _ _).trans (by kernel_rfl)
noncomputable def QJ (a0 a1:D9):Option Bool:=aw cfg 101 [.agg [.str a0.1,.int .i64 a0.2.1,.list Y1 a0.2.2.1,.list (.pair .str .str) a0.2.2.2.1,.list Y2 a0.2.2.2.2.1,.list (.pair (.int .i64) .bool) a0.2.2.2.2.2],.agg [.str a1.1,.int .i64 a1.2.1,.list Y1 a1.2.2.1,.list (.pair .str .str) a1.2.2.2.1,.list Y2 a1.2.2.2.2.1,.list (.pair (.int .i64) .bool) a1.2.2.2.2.2]]
theorem Kw (a0 a1:D9):QJ a0 a1=bif (!bh a0.1 a1.1)then some false else(bif (!decide (a0.2.1=a1.2.1))then some false else((DE a0.2.2.1 a1.2.2.1).bind fun r1=>bif (!r1)then some false else((DF a0.2.2.2.1 a1.2.2.2.1).bind fun r2=>bif (!r2)then some false else((DG a0.2.2.2.2.1 a1.2.2.2.2.1).bind fun r3=>bif (!r3)then some false else((DH a0.2.2.2.2.2 a1.2.2.2.2.2).bind fun r4=>bif (!r4)then some false else some true))))):=
 (aa cfg 101 _).trans (by kernel_rfl)
noncomputable def Cv (a0 a1:List ByteArray):Option Bool:=aw cfg 151 [.v (.list .str a0),.v (.list .str a1)]
noncomputable def Cv.a (x0 x1:List ByteArray) (x5:Int):Option Bool:=LA 151 Tryz.f151 [1,1,0,1,0] ⟨26,af [vL 0 .str x0,vL 1 .str x1,vI 5 x5],ai []⟩
theorem Kx (a0 a1:List ByteArray):Cv a0 a1=bif (!decide ((a0.length:Int)=(a1.length:Int)))then some false else Cv.a a0 a1 0:=
 (aa cfg 151 _).trans (by kernel_rfl)
theorem Cv.a_eq (x0 x1:List ByteArray) (x5:Int):Cv.a x0 x1 x5=bif (decide (x5< (x0.length:Int)))then(bif (aq x5 (x0.length))then(bif (aq x5 (x1.length))then(bif (!bh (rd (τ:= .str) x0 x5) (rd (τ:= .str) x1 x5))then some false else Cv.a x0 x1 (IntKind.wrap .i64 (x5+1)))else none)else none)else some true:=
 (ak cfg 151 _ _ _).trans (by kernel_rfl)
noncomputable def QK (a0 a1:b9):Option Bool:=aw cfg 102 [.agg [.list (.int .i64) a0.1,.list .str a0.2.1,.list (.int .i64) a0.2.2.1,.list .str a0.2.2.2],.agg [.list (.int .i64) a1.1,.list .str a1.2.1,.list (.int .i64) a1.2.2.1,.list .str a1.2.2.2]]
theorem Ky (a0 a1:b9):QK a0 a1=(Av a0.1 a1.1).bind fun r1=>bif (!r1)then some false else((Cv a0.2.1 a1.2.1).bind fun r2=>bif (!r2)then some false else((Av a0.2.2.1 a1.2.2.1).bind fun r3=>bif (!r3)then some false else((Cv a0.2.2.2 a1.2.2.2).bind fun r4=>bif (!r4)then some false else some true))):=
 (aa cfg 102 _).trans (by kernel_rfl)
noncomputable def QL (a0 a1:Int×Int):Option Bool:=aw cfg 152 [.agg [.int .i64 a0.1,.int .i64 a0.2],.agg [.int .i64 a1.1,.int .i64 a1.2]]
theorem Kz (a0 a1:Int×Int):QL a0 a1=bif (!decide (a0.1=a1.1))then some false else(bif (!decide (a0.2=a1.2))then some false else some true):=
 (aa cfg 152 _).trans (by kernel_rfl)
noncomputable def DI (a0 a1:List (Int×Int)):Option Bool:=aw cfg 103 [.v (.list Y5 a0),.v (.list Y5 a1)]
noncomputable def DI.a (x0 x1:List (Int×Int)) (x5:Int):Option Bool:=LA 103 Tryz.f103 [1,1,0,1,0] ⟨27,af [vL 0 Y5 x0,vL 1 Y5 x1,vI 5 x5],ai []⟩
theorem KA (a0 a1:List (Int×Int)):DI a0 a1=bif (!decide ((a0.length:Int)=(a1.length:Int)))then some false else DI.a a0 a1 0:=
 (aa cfg 103 _).trans (by kernel_rfl)
theorem DI.a_eq (x0 x1:List (Int×Int)) (x5:Int):DI.a x0 x1 x5=bif (decide (x5< (x0.length:Int)))then(bif (aq x5 (x0.length))then(bif (aq x5 (x1.length))then((QL (rd (τ:=Y5) x0 x5) (rd (τ:=Y5) x1 x5)).bind fun r1=>bif (!r1)then some false else DI.a x0 x1 (IntKind.wrap .i64 (x5+1)))else none)else none)else some true:=
 (ak cfg 103 _ _ _).trans (by kernel_rfl)
noncomputable def QM (a0 a1:eu):Option Bool:=aw cfg 56 [.agg [.str a0.1.1,.int .i64 a0.1.2.1,.list Y1 a0.1.2.2.1,.list (.pair .str .str) a0.1.2.2.2.1,.list Y2 a0.1.2.2.2.2.1,.list (.pair (.int .i64) .bool) a0.1.2.2.2.2.2,.list (.int .i64) a0.2.1.1,.list .str a0.2.1.2.1,.list (.int .i64) a0.2.1.2.2.1,.list .str a0.2.1.2.2.2,.list Y5 a0.2.2],.agg [.str a1.1.1,.int .i64 a1.1.2.1,.list Y1 a1.1.2.2.1,.list (.pair .str .str) a1.1.2.2.2.1,.list Y2 a1.1.2.2.2.2.1,.list (.pair (.int .i64) .bool) a1.1.2.2.2.2.2,.list (.int .i64) a1.2.1.1,.list .str a1.2.1.2.1,.list (.int .i64) a1.2.1.2.2.1,.list .str a1.2.1.2.2.2,.list Y5 a1.2.2]]
theorem KB (a0 a1:eu):QM a0 a1=(QJ a0.1 a1.1).bind fun r1=>bif (!r1)then some false else((QK a0.2.1 a1.2.1).bind fun r2=>bif (!r2)then some false else((DI a0.2.2 a1.2.2).bind fun r3=>bif (!r3)then some false else some true)):=
 (aa cfg 56 _).trans (by kernel_rfl)
noncomputable def DJ (a0 a1:List eu):Option Bool:=aw cfg 23 [.v (.list Y6 a0),.v (.list Y6 a1)]
noncomputable def DJ.a (x0 x1:List eu) (x5:Int):Option Bool:=LA 23 Tryz.f23 [1,1,0,1,0] ⟨27,af [vL 0 Y6 x0,vL 1 Y6 x1,vI 5 x5],ai []⟩
theorem KC (a0 a1:List eu):DJ a0 a1=bif (!decide ((a0.length:Int)=(a1.length:Int)))then some false else DJ.a a0 a1 0:=
 (aa cfg 23 _).trans (by kernel_rfl)
theorem DJ.a_eq (x0 x1:List eu) (x5:Int):DJ.a x0 x1 x5=bif (decide (x5< (x0.length:Int)))then(bif (aq x5 (x0.length))then(bif (aq x5 (x1.length))then((QM (rd (τ:=Y6) x0 x5) (rd (τ:=Y6) x1 x5)).bind fun r1=>bif (!r1)then some false else DJ.a x0 x1 (IntKind.wrap .i64 (x5+1)))else none)else none)else some true:=
 (ak cfg 23 _ _ _).trans (by kernel_rfl)
noncomputable def P6 (a0 a1:oz):Option Bool:=aw cfg 8 [.agg [.str a0.1.1,.str a0.1.2.1,.list Y0 a0.1.2.2,.list au a0.2.1.1,.list Y8 a0.2.1.2.1,.list aL a0.2.1.2.2.1,.list Y9 a0.2.1.2.2.2,.list Y6 a0.2.2],.agg [.str a1.1.1,.str a1.1.2.1,.list Y0 a1.1.2.2,.list au a1.2.1.1,.list Y8 a1.2.1.2.1,.list aL a1.2.1.2.2.1,.list Y9 a1.2.1.2.2.2,.list Y6 a1.2.2]]
theorem KD (a0 a1:oz):P6 a0 a1=(Qx a0.1 a1.1).bind fun r1=>bif (!r1)then some false else((QE a0.2.1 a1.2.1).bind fun r2=>bif (!r2)then some false else((DJ a0.2.2 a1.2.2).bind fun r3=>bif (!r3)then some false else some true)):=
 (aa cfg 8 _).trans (by kernel_rfl)
noncomputable def SG (a0 a1:oz):Option Bool:=aw cfg 3 [.agg [.str a0.1.1,.str a0.1.2.1,.list Y0 a0.1.2.2,.list au a0.2.1.1,.list Y8 a0.2.1.2.1,.list aL a0.2.1.2.2.1,.list Y9 a0.2.1.2.2.2,.list Y6 a0.2.2],.agg [.str a1.1.1,.str a1.1.2.1,.list Y0 a1.1.2.2,.list au a1.2.1.1,.list Y8 a1.2.1.2.1,.list aL a1.2.1.2.2.1,.list Y9 a1.2.1.2.2.2,.list Y6 a1.2.2]]
theorem KE (a0 a1:oz):SG a0 a1=(Qk a0 1048576).bind fun r1=>bif (decide (r1<0))then some true else((Qk a1 r1).bind fun r2=>bif (decide (r2<0))then some true else((I5 a0).bind fun r3=>(I5 a1).bind fun r4=>(Sf r3 r4).bind fun r5=>(I5 a0).bind fun r6=>(I5 a1).bind fun r7=>(RK r6 r7).bind fun r8=>bif (!(r8==r5))then some false else((I5 a0).bind fun r9=>(P6 r6 r9).bind fun r10=>bif (!r10)then some false else((I5 a1).bind fun r11=>(P6 r7 r11).bind fun r12=>bif (!r12)then some false else some true)))):=
 (aa cfg 3 _).trans (by kernel_rfl)
end Go.Proofs.YtnjljkceeijaaaaGreat.S
