import Derived.Test.YtiahcgampoehdaaGreatDoorSxIb
import Derived.Test.YtiahcgampoehdaaGreatDoorProg
namespace Go.Proofs.YtiahcgampoehdaaGreatDoor.S
open Go.Ps
set_option linter.unusedVariables false
set_option maxRecDepth 100000
set_option maxHeartbeats 0
noncomputable def d5 (a0:List D0) (a1 a2:Int×Int×Int) (a3:D9):Option G5:=au cfg 198 [.v (.list Y1 a0),.agg [.int .i64 a1.1,.int .i64 a1.2.1,.int .i64 a1.2.2],.agg [.int .i64 a2.1,.int .i64 a2.2.1,.int .i64 a2.2.2],.agg [.str a3.1,.int .i64 a3.2.1,.list Y5 a3.2.2.1,.list (.pair .str .str) a3.2.2.2.1,.list Y6 a3.2.2.2.2.1,.list (.pair (.int .i64) .bool) a3.2.2.2.2.2]]
noncomputable def d5.a (x5 x6:Int×Int×Int) (x7:D9) (x8:bY) (x9 x10:Int×Int×Int) (x12:mi) (x13:Int) (x62:List D6) (x63 x64:Int):Option G5:=LA 198 Tryz.f198 [1,1,1,1,1,0,1,0] ⟨219,af [vP 5 703,vP 6 831,vP 7 959,vP 8 1087,vP 9 1215,vP 10 1343,vP 12 1599,vI 13 x13,vL 62 Y5 x62,vI 63 x63,vI 64 x64],ai [(703,.box [.int .i64 x5.1,.int .i64 x5.2.1,.int .i64 x5.2.2]),(831,.box [.int .i64 x6.1,.int .i64 x6.2.1,.int .i64 x6.2.2]),(959,.box [.str x7.1,.int .i64 x7.2.1,.list Y5 x7.2.2.1,.list (.pair .str .str) x7.2.2.2.1,.list Y6 x7.2.2.2.2.1,.list (.pair (.int .i64) .bool) x7.2.2.2.2.2]),(1056,.rows 3 (.int .i64) .no x8.1),(1057,.rows 9 .str .no x8.2.1),(1058,.rows 3 (.int .i64) .no x8.2.2.1),(1059,.rows 9 .str .no x8.2.2.2),(1087,.box [.own 1056,.own 1057,.own 1058,.own 1059]),(1215,.box [.int .i64 x9.1,.int .i64 x9.2.1,.int .i64 x9.2.2]),(1343,.box [.int .i64 x10.1,.int .i64 x10.2.1,.int .i64 x10.2.2]),(1568,.rows 3 (.int .i64) .no x12.1.1),(1569,.rows 9 .str .no x12.1.2.1),(1570,.rows 3 (.int .i64) .no x12.1.2.2.1),(1571,.rows 9 .str .no x12.1.2.2.2),(1599,.box [.own 1568,.own 1569,.own 1570,.own 1571,.list Y1 x12.2.1,.str x12.2.2.1,.int .i64 x12.2.2.2.1,.list Y5 x12.2.2.2.2.1,.list (.pair .str .str) x12.2.2.2.2.2.1,.list Y6 x12.2.2.2.2.2.2.1,.list (.pair (.int .i64) .bool) x12.2.2.2.2.2.2.2])]⟩
noncomputable def d5.b (x5 x6:Int×Int×Int) (x7:D9) (x8:bY) (x9 x10:Int×Int×Int) (x12:mi) (x13:Int) (x111:List D7) (x112 x113:Int):Option G5:=LA 198 Tryz.f198 [1,1,1,1,1,1,0,1,0] ⟨219,af [vP 5 703,vP 6 831,vP 7 959,vP 8 1087,vP 9 1215,vP 10 1343,vP 12 1599,vI 13 x13,vL 111 (.pair .str .str) x111,vI 112 x112,vI 113 x113],ai [(703,.box [.int .i64 x5.1,.int .i64 x5.2.1,.int .i64 x5.2.2]),(831,.box [.int .i64 x6.1,.int .i64 x6.2.1,.int .i64 x6.2.2]),(959,.box [.str x7.1,.int .i64 x7.2.1,.list Y5 x7.2.2.1,.list (.pair .str .str) x7.2.2.2.1,.list Y6 x7.2.2.2.2.1,.list (.pair (.int .i64) .bool) x7.2.2.2.2.2]),(1056,.rows 3 (.int .i64) .no x8.1),(1057,.rows 9 .str .no x8.2.1),(1058,.rows 3 (.int .i64) .no x8.2.2.1),(1059,.rows 9 .str .no x8.2.2.2),(1087,.box [.own 1056,.own 1057,.own 1058,.own 1059]),(1215,.box [.int .i64 x9.1,.int .i64 x9.2.1,.int .i64 x9.2.2]),(1343,.box [.int .i64 x10.1,.int .i64 x10.2.1,.int .i64 x10.2.2]),(1568,.rows 3 (.int .i64) .no x12.1.1),(1569,.rows 9 .str .no x12.1.2.1),(1570,.rows 3 (.int .i64) .no x12.1.2.2.1),(1571,.rows 9 .str .no x12.1.2.2.2),(1599,.box [.own 1568,.own 1569,.own 1570,.own 1571,.list Y1 x12.2.1,.str x12.2.2.1,.int .i64 x12.2.2.2.1,.list Y5 x12.2.2.2.2.1,.list (.pair .str .str) x12.2.2.2.2.2.1,.list Y6 x12.2.2.2.2.2.2.1,.list (.pair (.int .i64) .bool) x12.2.2.2.2.2.2.2])]⟩
noncomputable def d5.c (x5 x6:Int×Int×Int) (x7:D9) (x8:bY) (x9 x10:Int×Int×Int) (x12:mi) (x13:Int) (x160:List D8) (x161 x162:Int):Option G5:=LA 198 Tryz.f198 [1,1,1,1,1,1,1,0,1,0] ⟨219,af [vP 5 703,vP 6 831,vP 7 959,vP 8 1087,vP 9 1215,vP 10 1343,vP 12 1599,vI 13 x13,vL 160 Y6 x160,vI 161 x161,vI 162 x162],ai [(703,.box [.int .i64 x5.1,.int .i64 x5.2.1,.int .i64 x5.2.2]),(831,.box [.int .i64 x6.1,.int .i64 x6.2.1,.int .i64 x6.2.2]),(959,.box [.str x7.1,.int .i64 x7.2.1,.list Y5 x7.2.2.1,.list (.pair .str .str) x7.2.2.2.1,.list Y6 x7.2.2.2.2.1,.list (.pair (.int .i64) .bool) x7.2.2.2.2.2]),(1056,.rows 3 (.int .i64) .no x8.1),(1057,.rows 9 .str .no x8.2.1),(1058,.rows 3 (.int .i64) .no x8.2.2.1),(1059,.rows 9 .str .no x8.2.2.2),(1087,.box [.own 1056,.own 1057,.own 1058,.own 1059]),(1215,.box [.int .i64 x9.1,.int .i64 x9.2.1,.int .i64 x9.2.2]),(1343,.box [.int .i64 x10.1,.int .i64 x10.2.1,.int .i64 x10.2.2]),(1568,.rows 3 (.int .i64) .no x12.1.1),(1569,.rows 9 .str .no x12.1.2.1),(1570,.rows 3 (.int .i64) .no x12.1.2.2.1),(1571,.rows 9 .str .no x12.1.2.2.2),(1599,.box [.own 1568,.own 1569,.own 1570,.own 1571,.list Y1 x12.2.1,.str x12.2.2.1,.int .i64 x12.2.2.2.1,.list Y5 x12.2.2.2.2.1,.list (.pair .str .str) x12.2.2.2.2.2.1,.list Y6 x12.2.2.2.2.2.2.1,.list (.pair (.int .i64) .bool) x12.2.2.2.2.2.2.2])]⟩
noncomputable def d5.d (x5 x6:Int×Int×Int) (x8:bY) (x9 x10:Int×Int×Int) (x12:mi) (x13:Int) (x173:List D6) (x174 x175:Int):Option G5:=LA 198 Tryz.f198 [1,1,1,1,1,1,1,1,0,1,0] ⟨219,af [vP 5 703,vP 6 831,vP 8 1087,vP 9 1215,vP 10 1343,vP 12 1599,vI 13 x13,vL 173 Y5 x173,vI 174 x174,vI 175 x175],ai [(703,.box [.int .i64 x5.1,.int .i64 x5.2.1,.int .i64 x5.2.2]),(831,.box [.int .i64 x6.1,.int .i64 x6.2.1,.int .i64 x6.2.2]),(1056,.rows 3 (.int .i64) .no x8.1),(1057,.rows 9 .str .no x8.2.1),(1058,.rows 3 (.int .i64) .no x8.2.2.1),(1059,.rows 9 .str .no x8.2.2.2),(1087,.box [.own 1056,.own 1057,.own 1058,.own 1059]),(1215,.box [.int .i64 x9.1,.int .i64 x9.2.1,.int .i64 x9.2.2]),(1343,.box [.int .i64 x10.1,.int .i64 x10.2.1,.int .i64 x10.2.2]),(1568,.rows 3 (.int .i64) .no x12.1.1),(1569,.rows 9 .str .no x12.1.2.1),(1570,.rows 3 (.int .i64) .no x12.1.2.2.1),(1571,.rows 9 .str .no x12.1.2.2.2),(1599,.box [.own 1568,.own 1569,.own 1570,.own 1571,.list Y1 x12.2.1,.str x12.2.2.1,.int .i64 x12.2.2.2.1,.list Y5 x12.2.2.2.2.1,.list (.pair .str .str) x12.2.2.2.2.2.1,.list Y6 x12.2.2.2.2.2.2.1,.list (.pair (.int .i64) .bool) x12.2.2.2.2.2.2.2])]⟩
theorem MV (a0:List D0) (a1 a2:Int×Int×Int) (a3:D9):d5 a0 a1 a2 a3=bif (decide ((a0.length:Int)>4096))then some (([],[],[],[]),(0,0,0),(0,0,0),2)else(av (fun kr12=>(Al a0).bind fun r1=>bif (!r1)then kr12 true else((Qv a1).bind fun r2=>bif (!r2)then kr12 true else((Qv a2).bind fun r3=>bif (!r3)then kr12 true else((PP a3).bind fun r4=>kr12 (!r4))))) fun(r10:Bool)=>bif r10 then some (([],[],[],[]),(0,0,0),(0,0,0),1)else((qS (([],[],[],[]),a0,a3)).bind fun r11=>d5.a a1 a2 a3 ([],[],[],[]) (0,0,0) (0,0,0) (([],[],[],[]),a0,a3) r11 a3.2.2.1 (a3.2.2.1.length:Int) 0)):=
 (aa cfg 198 _).trans (by kernel_rfl)
theorem d5.a_eq (x5 x6:Int×Int×Int) (x7:D9) (x8:bY) (x9 x10:Int×Int×Int) (x12:mi) (x13:Int) (x62:List D6) (x63 x64:Int):d5.a x5 x6 x7 x8 x9 x10 x12 x13 x62 x63 x64=bif (decide (x64<x63))then(bif (ao x64 (x62.length))then((Qw x5 (((rd (τ:=Y5) x62 x64).2.2.2).size:Int)).bind fun r13=>av (fun kr18=>bif (decide (x13=0))then kr18 (!r13.2.2)else kr18 false) fun(r15:Bool)=>av (fun kr17=>bif r15 then kr17 7 else kr17 x13) fun(r16:Int)=>bif (ar ((x12.1.1.length)+([r13.2.1].length)) 8)then(bif (ar ((x12.1.2.1.length)+([(rd (τ:=Y5) x62 x64).2.2.2].length)) 16)then d5.a r13.1 x6 x7 x8 x9 x10 (((x12.1.1++[r13.2.1]),(x12.1.2.1++[(rd (τ:=Y5) x62 x64).2.2.2]),x12.1.2.2),x12.2) r16 x62 x63 (IntKind.wrap .i64 (x64+1))else none)else none)else none)else d5.b x5 x6 x7 x8 x9 x10 x12 x13 x7.2.2.2.1 (x7.2.2.2.1.length:Int) 0:=
 (ak cfg 198 _ _ _).trans (by kernel_rfl)
theorem d5.b_eq (x5 x6:Int×Int×Int) (x7:D9) (x8:bY) (x9 x10:Int×Int×Int) (x12:mi) (x13:Int) (x111:List D7) (x112 x113:Int):d5.b x5 x6 x7 x8 x9 x10 x12 x13 x111 x112 x113=bif (decide (x113<x112))then(bif (ao x113 (x111.length))then((Qw x6 (((rd (τ:=(.pair .str .str)) x111 x113).2).size:Int)).bind fun r19=>av (fun kr24=>bif (decide (x13=0))then kr24 (!r19.2.2)else kr24 false) fun(r21:Bool)=>av (fun kr23=>bif r21 then kr23 7 else kr23 x13) fun(r22:Int)=>bif (ar ((x12.1.2.2.1.length)+([r19.2.1].length)) 8)then(bif (ar ((x12.1.2.2.2.length)+([(rd (τ:=(.pair .str .str)) x111 x113).2].length)) 16)then d5.b x5 r19.1 x7 x8 x9 x10 ((x12.1.1,x12.1.2.1,(x12.1.2.2.1++[r19.2.1]),(x12.1.2.2.2++[(rd (τ:=(.pair .str .str)) x111 x113).2])),x12.2) r22 x111 x112 (IntKind.wrap .i64 (x113+1))else none)else none)else none)else d5.c x5 x6 x7 x8 x9 x10 x12 x13 x7.2.2.2.2.1 (x7.2.2.2.2.1.length:Int) 0:=
 (ak cfg 198 _ _ _).trans (by kernel_rfl)
theorem d5.c_eq (x5 x6:Int×Int×Int) (x7:D9) (x8:bY) (x9 x10:Int×Int×Int) (x12:mi) (x13:Int) (x160:List D8) (x161 x162:Int):d5.c x5 x6 x7 x8 x9 x10 x12 x13 x160 x161 x162=bif (decide (x162<x161))then(bif (ao x162 (x160.length))then(bif (decide (x13=0))then((RO x12 (rd (τ:=Y6) x160 x162)).bind fun r25=>d5.c x5 x6 x7 x8 x9 x10 r25.2 r25.1 x160 x161 (IntKind.wrap .i64 (x162+1)))else d5.c x5 x6 x7 x8 x9 x10 x12 x13 x160 x161 (IntKind.wrap .i64 (x162+1)))else none)else d5.d x5 x6 x8 x9 x10 x12 x13 x7.2.2.1 (x7.2.2.1.length:Int) 0:=
 (ak cfg 198 _ _ _).trans (by kernel_rfl)
theorem d5.d_eq (x5 x6:Int×Int×Int) (x8:bY) (x9 x10:Int×Int×Int) (x12:mi) (x13:Int) (x173:List D6) (x174 x175:Int):d5.d x5 x6 x8 x9 x10 x12 x13 x173 x174 x175=bif (decide (x175<x174))then(bif (ao x175 (x173.length))then(bif (decide (x13=0))then(bif (ao x175 (x12.1.2.1.length))then(bif (ao x175 (x12.1.1.length))then((nL x12).bind fun r28=>(jT (rd (τ:= .str) x12.1.2.1 x175) (rd (τ:=(.int .i64)) x12.1.1 x175) ((rd (τ:=Y5) x173 x175).2.2.1) r28).bind fun r29=>d5.d x5 x6 x8 x9 x10 x12 r29.2 x173 x174 (IntKind.wrap .i64 (x175+1)))else none)else none)else d5.d x5 x6 x8 x9 x10 x12 x13 x173 x174 (IntKind.wrap .i64 (x175+1)))else none)else(bif (!decide (x13=0))then some (([],[],[],[]),(0,0,0),(0,0,0),x13)else some (x12.1,x5,x6,0)):=
 (ak cfg 198 _ _ _).trans (by kernel_rfl)
noncomputable def ut (a0:bY) (a1:D9):Option Bool:=au cfg 277 [.agg [.list (.int .i64) a0.1,.list .str a0.2.1,.list (.int .i64) a0.2.2.1,.list .str a0.2.2.2],.agg [.str a1.1,.int .i64 a1.2.1,.list Y5 a1.2.2.1,.list (.pair .str .str) a1.2.2.2.1,.list Y6 a1.2.2.2.2.1,.list (.pair (.int .i64) .bool) a1.2.2.2.2.2]]
noncomputable def ut.a (x2:bY) (x3:D9) (x44:List D6) (x45 x46:Int):Option Bool:=LA 277 Tryz.f277 [1,1,0,1,0] ⟨81,af [vP 2 319,vP 3 447,vL 44 Y5 x44,vI 45 x45,vI 46 x46],ai [(319,.box [.list (.int .i64) x2.1,.list .str x2.2.1,.list (.int .i64) x2.2.2.1,.list .str x2.2.2.2]),(447,.box [.str x3.1,.int .i64 x3.2.1,.list Y5 x3.2.2.1,.list (.pair .str .str) x3.2.2.2.1,.list Y6 x3.2.2.2.2.1,.list (.pair (.int .i64) .bool) x3.2.2.2.2.2])]⟩
noncomputable def ut.b (x2:bY) (x63:List D7) (x64 x65:Int):Option Bool:=LA 277 Tryz.f277 [1,1,1,0,1,0] ⟨81,af [vP 2 319,vL 63 (.pair .str .str) x63,vI 64 x64,vI 65 x65],ai [(319,.box [.list (.int .i64) x2.1,.list .str x2.2.1,.list (.int .i64) x2.2.2.1,.list .str x2.2.2.2])]⟩
theorem MW (a0:bY) (a1:D9):ut a0 a1=bif (!decide ((a0.1.length:Int)=(a1.2.2.1.length:Int)))then some false else(bif (!decide ((a0.2.1.length:Int)=(a1.2.2.1.length:Int)))then some false else(bif (!decide ((a0.2.2.1.length:Int)=(a1.2.2.2.1.length:Int)))then some false else(bif (!decide ((a0.2.2.2.length:Int)=(a1.2.2.2.1.length:Int)))then some false else ut.a a0 a1 a1.2.2.1 (a1.2.2.1.length:Int) 0))):=
 (aa cfg 277 _).trans (by kernel_rfl)
theorem ut.a_eq (x2:bY) (x3:D9) (x44:List D6) (x45 x46:Int):ut.a x2 x3 x44 x45 x46=bif (decide (x46<x45))then(bif (ao x46 (x44.length))then(bif (ao x46 (x2.2.1.length))then(bif (!decide (((rd (τ:= .str) x2.2.1 x46).size:Int)=(((rd (τ:=Y5) x44 x46).2.2.2).size:Int)))then some false else ut.a x2 x3 x44 x45 (IntKind.wrap .i64 (x46+1)))else none)else none)else ut.b x2 x3.2.2.2.1 (x3.2.2.2.1.length:Int) 0:=
 (ak cfg 277 _ _ _).trans (by kernel_rfl)
theorem ut.b_eq (x2:bY) (x63:List D7) (x64 x65:Int):ut.b x2 x63 x64 x65=bif (decide (x65<x64))then(bif (ao x65 (x63.length))then(bif (ao x65 (x2.2.2.2.length))then(bif (!decide (((rd (τ:= .str) x2.2.2.2 x65).size:Int)=(((rd (τ:=(.pair .str .str)) x63 x65).2).size:Int)))then some false else ut.b x2 x63 x64 (IntKind.wrap .i64 (x65+1)))else none)else none)else some true:=
 (ak cfg 277 _ _ _).trans (by kernel_rfl)
noncomputable def oF (a0:List D0) (a1:D9) (a2:bY) (a3:Int):Option (List D0):=au cfg 278 [.v (.list Y1 a0),.agg [.str a1.1,.int .i64 a1.2.1,.list Y5 a1.2.2.1,.list (.pair .str .str) a1.2.2.2.1,.list Y6 a1.2.2.2.2.1,.list (.pair (.int .i64) .bool) a1.2.2.2.2.2],.agg [.list (.int .i64) a2.1,.list .str a2.2.1,.list (.int .i64) a2.2.2.1,.list .str a2.2.2.2],.v (.int .i64 a3)]
noncomputable def oF.a (x3:Int) (x5:D9) (x6:bY) (x9:List D0) (x17:List D6) (x18 x19:Int):Option (List D0):=LA 278 Tryz.f278 [1,1,0,1,0] ⟨70,af [vI 3 x3,vP 5 703,vP 6 831,(9,.v (.own 1184)),vL 17 Y5 x17,vI 18 x18,vI 19 x19],ai [(703,.box [.str x5.1,.int .i64 x5.2.1,.list Y5 x5.2.2.1,.list (.pair .str .str) x5.2.2.2.1,.list Y6 x5.2.2.2.2.1,.list (.pair (.int .i64) .bool) x5.2.2.2.2.2]),(831,.box [.list (.int .i64) x6.1,.list .str x6.2.1,.list (.int .i64) x6.2.2.1,.list .str x6.2.2.2]),(1184,.rows 81 Y1 .no x9)]⟩
noncomputable def oF.b (x3:Int) (x6:bY) (x9:List D0) (x46:List D7) (x47 x48:Int):Option (List D0):=LA 278 Tryz.f278 [1,1,1,0,1,0] ⟨70,af [vI 3 x3,vP 6 831,(9,.v (.own 1184)),vL 46 (.pair .str .str) x46,vI 47 x47,vI 48 x48],ai [(831,.box [.list (.int .i64) x6.1,.list .str x6.2.1,.list (.int .i64) x6.2.2.1,.list .str x6.2.2.2]),(1184,.rows 81 Y1 .no x9)]⟩
theorem MX (a0:List D0) (a1:D9) (a2:bY) (a3:Int):oF a0 a1 a2 a3=(Z3 a0).bind fun r1=>oF.a a3 a1 a2 r1 a1.2.2.1 (a1.2.2.1.length:Int) 0:=
 (aa cfg 278 _).trans (by kernel_rfl)
theorem oF.a_eq (x3:Int) (x5:D9) (x6:bY) (x9:List D0) (x17:List D6) (x18 x19:Int):oF.a x3 x5 x6 x9 x17 x18 x19=bif (decide (x19<x18))then(bif (ao x19 (x17.length))then(bif (!(rd (τ:=Y5) x17 x19).2.1)then(bif (ao x19 (x6.1.length))then(bif (ar ((x9.length)+([((rd (τ:=Y5) x17 x19).1,1,(rd (τ:=(.int .i64)) x6.1 x19),(((rd (τ:=Y5) x17 x19).2.2.2).size:Int),(rd (τ:=Y5) x17 x19).2.2.1,x3)].length)) 56)then oF.a x3 x5 x6 (x9++[((rd (τ:=Y5) x17 x19).1,1,(rd (τ:=(.int .i64)) x6.1 x19),(((rd (τ:=Y5) x17 x19).2.2.2).size:Int),(rd (τ:=Y5) x17 x19).2.2.1,x3)]) x17 x18 (IntKind.wrap .i64 (x19+1))else none)else none)else oF.a x3 x5 x6 x9 x17 x18 (IntKind.wrap .i64 (x19+1)))else none)else oF.b x3 x6 x9 x5.2.2.2.1 (x5.2.2.2.1.length:Int) 0:=
 (ak cfg 278 _ _ _).trans (by kernel_rfl)
theorem oF.b_eq (x3:Int) (x6:bY) (x9:List D0) (x46:List D7) (x47 x48:Int):oF.b x3 x6 x9 x46 x47 x48=bif (decide (x48<x47))then(bif (ao x48 (x46.length))then(bif (ao x48 (x6.2.2.1.length))then(bif (ar ((x9.length)+([((rd (τ:=(.pair .str .str)) x46 x48).1,2,(rd (τ:=(.int .i64)) x6.2.2.1 x48),(((rd (τ:=(.pair .str .str)) x46 x48).2).size:Int),0,x3)].length)) 56)then oF.b x3 x6 (x9++[((rd (τ:=(.pair .str .str)) x46 x48).1,2,(rd (τ:=(.int .i64)) x6.2.2.1 x48),(((rd (τ:=(.pair .str .str)) x46 x48).2).size:Int),0,x3)]) x46 x47 (IntKind.wrap .i64 (x48+1))else none)else none)else none)else some x9:=
 (ak cfg 278 _ _ _).trans (by kernel_rfl)
noncomputable def Sl (a0:List D0) (a1:D9) (a2:bY) (a3:Int):Option (List D0×Int):=au cfg 199 [.v (.list Y1 a0),.agg [.str a1.1,.int .i64 a1.2.1,.list Y5 a1.2.2.1,.list (.pair .str .str) a1.2.2.2.1,.list Y6 a1.2.2.2.2.1,.list (.pair (.int .i64) .bool) a1.2.2.2.2.2],.agg [.list (.int .i64) a2.1,.list .str a2.2.1,.list (.int .i64) a2.2.2.1,.list .str a2.2.2.2],.v (.int .i64 a3)]
theorem MY (a0:List D0) (a1:D9) (a2:bY) (a3:Int):Sl a0 a1 a2 a3=bif (decide ((a0.length:Int)>4096))then some ([],2)else(av (fun kr13=>(Al a0).bind fun r1=>bif (!r1)then kr13 true else((PP a1).bind fun r2=>bif (!r2)then kr13 true else((ut a2 a1).bind fun r3=>bif (!r3)then kr13 true else((gg a3 1 6).bind fun r4=>kr13 (!r4))))) fun(r10:Bool)=>bif r10 then some ([],1)else((oF a0 a1 a2 a3).bind fun r11=>(Al r11).bind fun r12=>bif (!r12)then some ([],24)else some (r11,0))):=
 (aa cfg 199 _).trans (by kernel_rfl)
noncomputable def Sm (a0:D1) (a1:Int):Option Bool:=au cfg 355 [.agg [.int .i64 a0.1,.int .i64 a0.2.1,.str a0.2.2],.v (.cptr (.int .i64) a1 0)]
theorem MZ (a0:D1) (a1:Int):Sm a0 a1=(gg a1 a0.1 (IntKind.wrap .i64 ((IntKind.wrap .i64 (a0.1+128))-1))).bind fun r1=>some r1:=
 (aa cfg 355 _).trans (by kernel_rfl)
noncomputable def Hc (c1_0:Int) (a0:List D1):Option Int:=au cfg 354 [.v (.list Y0 a0),.v (.fn 355 [.cref (.int .i64) c1_0])]
noncomputable def Hc.a (c1_0:Int) (x0:List D1) (x7 x8:Int):Option Int:=LA 354 Tryz.f354 [1,0,1,0] ⟨19,af [vL 0 Y0 x0,(1,.v (.fn 355 [.cref (.int .i64) c1_0])),vI 7 x7,vI 8 x8],ai []⟩
theorem M0 (c1_0:Int) (a0:List D1):Hc c1_0 a0=Hc.a c1_0 a0 (a0.length:Int) 0:=
 (aa cfg 354 _).trans (by kernel_rfl)
theorem Hc.a_eq (c1_0:Int) (x0:List D1) (x7 x8:Int):Hc.a c1_0 x0 x7 x8=bif (decide (x8<x7))then(bif (ao x8 (x0.length))then((Sm (rd (τ:=Y0) x0 x8) c1_0).bind fun r1=>bif r1 then some x8 else Hc.a c1_0 x0 x7 (IntKind.wrap .i64 (x8+1)))else none)else some (-1):=
 (ak cfg 354 _ _ _).trans (by kernel_rfl)
noncomputable def RP (a0:List D1) (a1:Int):Option Int:=au cfg 304 [.agg [.list Y0 a0],.v (.int .i64 a1)]
theorem M1 (a0:List D1) (a1:Int):RP a0 a1=(Hc a1 a0).bind fun r1=>some r1:=
 (aa cfg 304 _).trans (by kernel_rfl)
noncomputable def Am (a0:List D1) (a1 a2:Int):Option ByteArray:=au cfg 282 [.agg [.list Y0 a0],.v (.int .i64 a1),.v (.int .i64 a2)]
noncomputable def Am.a (x1 x2:Int) (x3:List D1) (x7:List Int) (x8:Int):Option ByteArray:=LA 282 Tryz.f282 [1,1,0,1,0] ⟨37,af [vI 1 x1,vI 2 x2,vP 3 447,(7,.v (.own 928)),vI 8 x8],ai [(447,.box [.list Y0 x3]),(928,.rows 5 (.int .u8) .no x7)]⟩
theorem M2 (a0:List D1) (a1 a2:Int):Am a0 a1 a2=Am.a a1 a2 a0 [] a1:=
 (aa cfg 282 _).trans (by kernel_rfl)
theorem Am.a_eq (x1 x2:Int) (x3:List D1) (x7:List Int) (x8:Int):Am.a x1 x2 x3 x7 x8=bif (decide (x8< (IntKind.wrap .i64 (x1+x2))))then((RP x3 x8).bind fun r1=>bif (ao r1 (x3.length))then(bif (ao (IntKind.wrap .i64 (x8-(rd (τ:=Y0) x3 r1).1)) ((rd (τ:=Y0) x3 r1).2.2).size)then(bif (ar ((x7.length)+([(bt ((rd (τ:=Y0) x3 r1).2.2) (IntKind.wrap .i64 (x8-(rd (τ:=Y0) x3 r1).1)))].length)) 1)then Am.a x1 x2 x3 (x7++[(bt ((rd (τ:=Y0) x3 r1).2.2) (IntKind.wrap .i64 (x8-(rd (τ:=Y0) x3 r1).1)))]) (IntKind.wrap .i64 (x8+1))else none)else none)else none)else some (aC x7):=
 (ak cfg 282 _ _ _).trans (by kernel_rfl)
noncomputable def qU (a0:List D1) (a1:List D0) (a2:D9) (a3:bY):Option OC:=au cfg 201 [.agg [.list Y0 a0],.v (.list Y1 a1),.agg [.str a2.1,.int .i64 a2.2.1,.list Y5 a2.2.2.1,.list (.pair .str .str) a2.2.2.2.1,.list Y6 a2.2.2.2.2.1,.list (.pair (.int .i64) .bool) a2.2.2.2.2.2],.agg [.list (.int .i64) a3.1,.list .str a3.2.1,.list (.int .i64) a3.2.2.1,.list .str a3.2.2.2]]
noncomputable def qU.a (x1:List D0) (x4:List D1) (x6:D9) (x7:bY) (x8:List D1) (x10:List (Int×Int)) (x17 x18:Int):Option OC:=LA 201 Tryz.f201 [1,1,0,1,0] ⟨78,af [vL 1 Y1 x1,vP 4 575,vP 6 831,vP 7 959,vP 8 1087,(10,.v (.own 1312)),vI 17 x17,vI 18 x18],ai [(575,.box [.list Y0 x4]),(831,.box [.str x6.1,.int .i64 x6.2.1,.list Y5 x6.2.2.1,.list (.pair .str .str) x6.2.2.2.1,.list Y6 x6.2.2.2.2.1,.list (.pair (.int .i64) .bool) x6.2.2.2.2.2]),(959,.box [.list (.int .i64) x7.1,.list .str x7.2.1,.list (.int .i64) x7.2.2.1,.list .str x7.2.2.2]),(1056,.rows 200 Y0 .no x8),(1087,.box [.own 1056]),(1312,.rows 217 Y9 .no x10)]⟩
noncomputable def qU.b (x1:List D0) (x4:List D1) (x7:bY) (x8:List D1) (x10:List (Int×Int)) (x35:List D6) (x36 x37:Int):Option OC:=LA 201 Tryz.f201 [1,1,1,0,1,0] ⟨78,af [vL 1 Y1 x1,vP 4 575,vP 7 959,vP 8 1087,(10,.v (.own 1312)),vL 35 Y5 x35,vI 36 x36,vI 37 x37],ai [(575,.box [.list Y0 x4]),(959,.box [.list (.int .i64) x7.1,.list .str x7.2.1,.list (.int .i64) x7.2.2.1,.list .str x7.2.2.2]),(1056,.rows 200 Y0 .no x8),(1087,.box [.own 1056]),(1312,.rows 217 Y9 .no x10)]⟩
theorem M3 (a0:List D1) (a1:List D0) (a2:D9) (a3:bY):qU a0 a1 a2 a3=qU.a a1 a0 a2 a3 [] [] (a2.2.2.1.length:Int) 0:=
 (aa cfg 201 _).trans (by kernel_rfl)
theorem qU.a_eq (x1:List D0) (x4:List D1) (x6:D9) (x7:bY) (x8:List D1) (x10:List (Int×Int)) (x17 x18:Int):qU.a x1 x4 x6 x7 x8 x10 x17 x18=bif (decide (x18<x17))then(bif (ao x18 (x7.1.length))then(bif (ao x18 (x7.2.1.length))then((nY x4 (rd (τ:=(.int .i64)) x7.1 x18) (rd (τ:= .str) x7.2.1 x18)).bind fun r1=>qU.a x1 r1 x6 x7 x8 x10 x17 (IntKind.wrap .i64 (x18+1)))else none)else none)else qU.b x1 x4 x7 x8 x10 x6.2.2.1 (x6.2.2.1.length:Int) 0:=
 (ak cfg 201 _ _ _).trans (by kernel_rfl)
theorem qU.b_eq (x1:List D0) (x4:List D1) (x7:bY) (x8:List D1) (x10:List (Int×Int)) (x35:List D6) (x36 x37:Int):qU.b x1 x4 x7 x8 x10 x35 x36 x37=bif (decide (x37<x36))then(bif (ao x37 (x35.length))then(bif (!(rd (τ:=Y5) x35 x37).2.1)then qU.b x1 x4 x7 x8 x10 x35 x36 (IntKind.wrap .i64 (x37+1))else((IU x1 ((rd (τ:=Y5) x35 x37).1)).bind fun r2=>bif (ao r2 (x1.length))then((Am x4 ((rd (τ:=Y1) x1 r2).2.2.1) 4).bind fun r3=>(Ak r3).bind fun r4=>bif (ar ((x10.length)+([((rd (τ:=Y1) x1 r2).2.2.1,r4)].length)) 16)then(bif (ao x37 (x7.1.length))then((w5 (3,0,0,0,(IntKind.wrap .i64 ((rd (τ:=(.int .i64)) x7.1 x37)-(rd (τ:=Y1) x1 r2).2.2.1)))).bind fun r5=>(w6 r5 4).bind fun r6=>(nY x4 ((rd (τ:=Y1) x1 r2).2.2.1) r6).bind fun r7=>qU.b x1 r7 x7 x8 (x10++[((rd (τ:=Y1) x1 r2).2.2.1,r4)]) x35 x36 (IntKind.wrap .i64 (x37+1)))else none)else none)else none))else none)else some (x4,x10):=
 (ak cfg 201 _ _ _).trans (by kernel_rfl)
noncomputable def An (a0:wT) (a1:D9) (a2:Int):Option R5:=au cfg 120 [.agg [.list Y1 a0.1,.list ba a0.2.1,.list Y0 a0.2.2.1,.int .i64 a0.2.2.2.1.1,.int .i64 a0.2.2.2.1.2.1,.int .i64 a0.2.2.2.1.2.2,.int .i64 a0.2.2.2.2.1,.int .i64 a0.2.2.2.2.2.1,.int .i64 a0.2.2.2.2.2.2],.agg [.str a1.1,.int .i64 a1.2.1,.list Y5 a1.2.2.1,.list (.pair .str .str) a1.2.2.2.1,.list Y6 a1.2.2.2.2.1,.list (.pair (.int .i64) .bool) a1.2.2.2.2.2],.v (.int .i64 a2)]
noncomputable def An.a (x0:wT) (x2:Int) (x4:D9) (x6 x9:bY) (x69:List D6) (x70 x71:Int):Option R5:=LA 120 Tryz.f120 [1,1,1,1,1,1,0,1,0] ⟨119,af [(13,.v (.own 32)),vP 0 127,vI 2 x2,vP 4 575,vP 6 831,vP 9 1215,vL 69 Y5 x69,vI 70 x70,vI 71 x71],ai [(32,.rows 81 Y1 .no x0.1),(33,.rows 116 ba .no x0.2.1),(127,.box [.own 32,.own 33,.list Y0 x0.2.2.1,.int .i64 x0.2.2.2.1.1,.int .i64 x0.2.2.2.1.2.1,.int .i64 x0.2.2.2.1.2.2,.int .i64 x0.2.2.2.2.1,.int .i64 x0.2.2.2.2.2.1,.int .i64 x0.2.2.2.2.2.2]),(575,.box [.str x4.1,.int .i64 x4.2.1,.list Y5 x4.2.2.1,.list (.pair .str .str) x4.2.2.2.1,.list Y6 x4.2.2.2.2.1,.list (.pair (.int .i64) .bool) x4.2.2.2.2.2]),(800,.rows 3 (.int .i64) .no x6.1),(801,.rows 9 .str .no x6.2.1),(802,.rows 3 (.int .i64) .no x6.2.2.1),(803,.rows 9 .str .no x6.2.2.2),(831,.box [.own 800,.own 801,.own 802,.own 803]),(1184,.rows 3 (.int .i64) .no x9.1),(1185,.rows 9 .str .no x9.2.1),(1186,.rows 3 (.int .i64) .no x9.2.2.1),(1187,.rows 9 .str .no x9.2.2.2),(1215,.box [.own 1184,.own 1185,.own 1186,.own 1187])]⟩
theorem GR (a0:wT) (a1:D9) (a2:Int):An a0 a1 a2=(d5 a0.1 a0.2.2.2.1 a0.2.2.2.2 a1).bind fun r1=>bif (!decide (r1.2.2.2=0))then some (([],[],[],[]),[],r1.2.2.2,a0)else((Sl a0.1 a1 r1.1 a2).bind fun r2=>bif (!decide (r2.2=0))then some (([],[],[],[]),[],r2.2,a0)else An.a (r2.1,a0.2.1,a0.2.2.1,r1.2.1,r1.2.2.1) a2 a1 ([],[],[],[]) r1.1 a1.2.2.1 (a1.2.2.1.length:Int) 0):=
 (aa cfg 120 _).trans (by kernel_rfl)
theorem An.a_eq (x0:wT) (x2:Int) (x4:D9) (x6 x9:bY) (x69:List D6) (x70 x71:Int):An.a x0 x2 x4 x6 x9 x69 x70 x71=bif (decide (x71<x70))then(bif (ao x71 (x69.length))then((IU x0.1 ((rd (τ:=Y5) x69 x71).1)).bind fun r4=>bif (ao x71 (x9.1.length))then(bif (ar ((x0.2.1.length)+([(r4,x2,(rd (τ:=(.int .i64)) x9.1 x71),(((rd (τ:=Y5) x69 x71).2.2.2).size:Int),(rd (τ:=Y5) x69 x71).2.2.1)].length)) 40)then An.a (x0.1,(x0.2.1++[(r4,x2,(rd (τ:=(.int .i64)) x9.1 x71),(((rd (τ:=Y5) x69 x71).2.2.2).size:Int),(rd (τ:=Y5) x69 x71).2.2.1)]),x0.2.2) x2 x4 x6 x9 x69 x70 (IntKind.wrap .i64 (x71+1))else none)else none)else none)else((qU x0.2.2.1 x0.1 x4 x9).bind fun r3=>some (x9,r3.2,0,x0.1,x0.2.1,r3.1,x0.2.2.2)):=
 (ak cfg 120 _ _ _).trans (by kernel_rfl)
noncomputable def Dz (a0 a1:List Int):Option Bool:=au cfg 202 [.v (.list (.int .i64) a0),.v (.list (.int .i64) a1)]
noncomputable def Dz.a (x0 x1:List Int) (x12 x13:Int):Option Bool:=LA 202 Tryz.f202 [1,1,0,1,0] ⟨26,af [vL 0 (.int .i64) x0,vL 1 (.int .i64) x1,vI 12 x12,vI 13 x13],ai []⟩
theorem M4 (a0 a1:List Int):Dz a0 a1=bif (!decide ((a0.length:Int)=(a1.length:Int)))then some false else Dz.a a0 a1 (a0.length:Int) 0:=
 (aa cfg 202 _).trans (by kernel_rfl)
theorem Dz.a_eq (x0 x1:List Int) (x12 x13:Int):Dz.a x0 x1 x12 x13=bif (decide (x13<x12))then(bif (ao x13 (x0.length))then(bif (ao x13 (x1.length))then(bif (!decide ((rd (τ:=(.int .i64)) x0 x13)=(rd (τ:=(.int .i64)) x1 x13)))then some false else Dz.a x0 x1 x12 (IntKind.wrap .i64 (x13+1)))else none)else none)else some true:=
 (ak cfg 202 _ _ _).trans (by kernel_rfl)
noncomputable def DA (a0 a1:List ByteArray):Option Bool:=au cfg 203 [.v (.list .str a0),.v (.list .str a1)]
noncomputable def DA.a (x0 x1:List ByteArray) (x12 x13:Int):Option Bool:=LA 203 Tryz.f203 [1,1,0,1,0] ⟨26,af [vL 0 .str x0,vL 1 .str x1,vI 12 x12,vI 13 x13],ai []⟩
theorem M5 (a0 a1:List ByteArray):DA a0 a1=bif (!decide ((a0.length:Int)=(a1.length:Int)))then some false else DA.a a0 a1 (a0.length:Int) 0:=
 (aa cfg 203 _).trans (by kernel_rfl)
theorem DA.a_eq (x0 x1:List ByteArray) (x12 x13:Int):DA.a x0 x1 x12 x13=bif (decide (x13<x12))then(bif (ao x13 (x0.length))then(bif (ao x13 (x1.length))then(bif (!bo (rd (τ:= .str) x0 x13) (rd (τ:= .str) x1 x13))then some false else DA.a x0 x1 x12 (IntKind.wrap .i64 (x13+1)))else none)else none)else some true:=
 (ak cfg 203 _ _ _).trans (by kernel_rfl)
noncomputable def Qz (a0 a1:bY):Option Bool:=au cfg 121 [.agg [.list (.int .i64) a0.1,.list .str a0.2.1,.list (.int .i64) a0.2.2.1,.list .str a0.2.2.2],.agg [.list (.int .i64) a1.1,.list .str a1.2.1,.list (.int .i64) a1.2.2.1,.list .str a1.2.2.2]]
theorem M6 (a0 a1:bY):Qz a0 a1=(Dz a0.1 a1.1).bind fun r1=>bif r1 then((DA a0.2.1 a1.2.1).bind fun r2=>bif r2 then((Dz a0.2.2.1 a1.2.2.1).bind fun r3=>bif r3 then((DA a0.2.2.2 a1.2.2.2).bind fun r4=>some r4)else some false)else some false)else some false:=
 (aa cfg 121 _).trans (by kernel_rfl)
noncomputable def DB (a0 a1:List (Int×Int)):Option Bool:=au cfg 122 [.v (.list Y9 a0),.v (.list Y9 a1)]
noncomputable def DB.a (x0 x1:List (Int×Int)) (x12 x13:Int):Option Bool:=LA 122 Tryz.f122 [1,1,0,1,0] ⟨26,af [vL 0 Y9 x0,vL 1 Y9 x1,vI 12 x12,vI 13 x13],ai []⟩
theorem M7 (a0 a1:List (Int×Int)):DB a0 a1=bif (!decide ((a0.length:Int)=(a1.length:Int)))then some false else DB.a a0 a1 (a0.length:Int) 0:=
 (aa cfg 122 _).trans (by kernel_rfl)
theorem DB.a_eq (x0 x1:List (Int×Int)) (x12 x13:Int):DB.a x0 x1 x12 x13=bif (decide (x13<x12))then(bif (ao x13 (x0.length))then(bif (ao x13 (x1.length))then(bif (!(ka Y9 (rd (τ:=Y9) x0 x13) (rd (τ:=Y9) x1 x13)))then some false else DB.a x0 x1 x12 (IntKind.wrap .i64 (x13+1)))else none)else none)else some true:=
 (ak cfg 122 _ _ _).trans (by kernel_rfl)
noncomputable def td (a0:D3) (a1:List cV) (a2:Bool):Option (wT×Bool):=au cfg 62 [.agg [.str a0.1,.str a0.2.1,.list Y4 a0.2.2],.v (.list bl a1),.v (.bool a2)]
noncomputable def td.a (x1:List cV) (x2:Bool) (x6 x8:wT) (x27:List cV) (x28 x29:Int):Option (wT×Bool):=LA 62 Tryz.f62 [1,1,1,0,1,0] ⟨100,af [vL 1 bl x1,(2,.v (.bool x2)),vP 6 831,vP 8 1087,vL 27 bl x27,vI 28 x28,vI 29 x29],ai [(800,.rows 81 Y1 .no x6.1),(801,.rows 116 ba .no x6.2.1),(802,.rows 200 Y0 .no x6.2.2.1),(831,.box [.own 800,.own 801,.own 802,.int .i64 x6.2.2.2.1.1,.int .i64 x6.2.2.2.1.2.1,.int .i64 x6.2.2.2.1.2.2,.int .i64 x6.2.2.2.2.1,.int .i64 x6.2.2.2.2.2.1,.int .i64 x6.2.2.2.2.2.2]),(1056,.rows 116 ba .no x8.2.1),(1087,.box [.list Y1 x8.1,.own 1056,.list Y0 x8.2.2.1,.int .i64 x8.2.2.2.1.1,.int .i64 x8.2.2.2.1.2.1,.int .i64 x8.2.2.2.1.2.2,.int .i64 x8.2.2.2.2.1,.int .i64 x8.2.2.2.2.2.1,.int .i64 x8.2.2.2.2.2.2])]⟩
noncomputable def td.b (x1:List cV) (x2:Bool) (x6 x8:wT) (x9:Int) (x10:cV) (x27:List cV) (x28 x29:Int) (x48:List cV) (x49 x50:Int):Option (wT×Bool):=LA 62 Tryz.f62 [1,1,1,0,1,0,0,1,1,0,0,1,1,0,1,0] ⟨100,af [vL 1 bl x1,(2,.v (.bool x2)),vP 6 831,vP 8 1087,vI 9 x9,vP 10 1343,vL 27 bl x27,vI 28 x28,vI 29 x29,vL 48 bl x48,vI 49 x49,vI 50 x50],ai [(800,.rows 81 Y1 .no x6.1),(801,.rows 116 ba .no x6.2.1),(802,.rows 200 Y0 .no x6.2.2.1),(831,.box [.own 800,.own 801,.own 802,.int .i64 x6.2.2.2.1.1,.int .i64 x6.2.2.2.1.2.1,.int .i64 x6.2.2.2.1.2.2,.int .i64 x6.2.2.2.2.1,.int .i64 x6.2.2.2.2.2.1,.int .i64 x6.2.2.2.2.2.2]),(1056,.rows 116 ba .no x8.2.1),(1087,.box [.list Y1 x8.1,.own 1056,.list Y0 x8.2.2.1,.int .i64 x8.2.2.2.1.1,.int .i64 x8.2.2.2.1.2.1,.int .i64 x8.2.2.2.1.2.2,.int .i64 x8.2.2.2.2.1,.int .i64 x8.2.2.2.2.2.1,.int .i64 x8.2.2.2.2.2.2]),(1343,.box [.str x10.1.1,.int .i64 x10.1.2.1,.list Y5 x10.1.2.2.1,.list (.pair .str .str) x10.1.2.2.2.1,.list Y6 x10.1.2.2.2.2.1,.list (.pair (.int .i64) .bool) x10.1.2.2.2.2.2,.list (.int .i64) x10.2.1.1,.list .str x10.2.1.2.1,.list (.int .i64) x10.2.1.2.2.1,.list .str x10.2.1.2.2.2,.list Y9 x10.2.2])]⟩
theorem GS (a0:D3) (a1:List cV) (a2:Bool):td a0 a1 a2=av (fun kr5=>(PO a0).bind fun r1=>bif (!r1)then kr5 true else kr5 (decide ((a1.length:Int)>6))) fun(r3:Bool)=>bif r3 then some (([],[],[],(0,0,0),0,0,0),false)else((RF a0).bind fun r4=>td.a a1 a2 ([],[],[],(0,0,0),0,0,0) r4 a1 (a1.length:Int) 0):=
 (aa cfg 62 _).trans (by kernel_rfl)
theorem td.a_eq (x1:List cV) (x2:Bool) (x6 x8:wT) (x27:List cV) (x28 x29:Int):td.a x1 x2 x6 x8 x27 x28 x29=bif (decide (x29<x28))then(bif (ao x29 (x27.length))then(av (fun kr9=>(PP ((rd (τ:=bl) x27 x29).1)).bind fun r6=>bif (!r6)then kr9 true else kr9 (!decide ((rd (τ:=bl) x27 x29).1.2.1=x29))) fun(r8:Bool)=>bif r8 then some (([],[],[],(0,0,0),0,0,0),false)else(bif (decide (0≤0)&&decide (0≤x29)&&decide (x29≤(x1.length:Int)))then td.b x1 x2 x6 x8 x29 (rd (τ:=bl) x27 x29) x27 x28 x29 ((x1.take (Int.toNat x29)).drop (Int.toNat 0)) (((x1.take (Int.toNat x29)).drop (Int.toNat 0)).length:Int) 0 else none))else none)else some (x8,true):=
 (ak cfg 62 _ _ _).trans (by kernel_rfl)
theorem td.b_eq (x1:List cV) (x2:Bool) (x6 x8:wT) (x9:Int) (x10:cV) (x27:List cV) (x28 x29:Int) (x48:List cV) (x49 x50:Int):td.b x1 x2 x6 x8 x9 x10 x27 x28 x29 x48 x49 x50=bif (decide (x50<x49))then(bif (ao x50 (x48.length))then(bif (bo ((rd (τ:=bl) x48 x50).1.1) x10.1.1)then some (([],[],[],(0,0,0),0,0,0),false)else((RJ ((rd (τ:=bl) x48 x50).1) x10.1).bind fun r25=>bif r25 then some (([],[],[],(0,0,0),0,0,0),false)else td.b x1 x2 x6 x8 x9 x10 x27 x28 x29 x48 x49 (IntKind.wrap .i64 (x50+1))))else none)else((An x8 x10.1 (IntKind.wrap .i64 (x9+1))).bind fun r10=>bif (!x2)then(av (fun kr17=>bif (!decide (r10.2.2.1=0))then kr17 true else((Qz r10.1 x10.2.1).bind fun r11=>bif (!r11)then kr17 true else((DB [] x10.2.2).bind fun r12=>kr17 (!r12)))) fun(r16:Bool)=>bif r16 then some (([],[],[],(0,0,0),0,0,0),false)else td.a x1 x2 x6 r10.2.2.2 x27 x28 (IntKind.wrap .i64 (x29+1)))else(av (fun kr24=>bif (!decide (r10.2.2.1=0))then kr24 true else((Qz r10.1 x10.2.1).bind fun r18=>bif (!r18)then kr24 true else((DB r10.2.1 x10.2.2).bind fun r19=>kr24 (!r19)))) fun(r23:Bool)=>bif r23 then some (([],[],[],(0,0,0),0,0,0),false)else td.a x1 x2 x6 r10.2.2.2 x27 x28 (IntKind.wrap .i64 (x29+1)))):=
 (ak cfg 62 _ _ _).trans (by kernel_rfl)
noncomputable def QA (a0:Int):Option Bool:=au cfg 204 [.v (.int .i64 a0)]
theorem GT (a0:Int):QA a0=(gg a0 0 1048575).bind fun r1=>bif r1 then some (decide ((a0.tmod 128)=0))else some false:=
 (aa cfg 204 _).trans (by kernel_rfl)
noncomputable def QB (a0:Int):Option Bool:=au cfg 205 [.v (.int .i64 a0)]
theorem GU (a0:Int):QB a0=(gg a0 0 15).bind fun r1=>some r1:=
 (aa cfg 205 _).trans (by kernel_rfl)
noncomputable def CV (a0:List D1):Option Bool:=au cfg 123 [.agg [.list Y0 a0]]
noncomputable def CV.a (x1 x10:List D1) (x11 x12:Int):Option Bool:=LA 123 Tryz.f123 [1,1,0,1,0] ⟨50,af [vP 1 191,vL 10 Y0 x10,vI 11 x11,vI 12 x12],ai [(191,.box [.list Y0 x1])]⟩
theorem M8 (a0:List D1):CV a0=bif (decide ((a0.length:Int)>64))then some false else CV.a a0 a0 (a0.length:Int) 0:=
 (aa cfg 123 _).trans (by kernel_rfl)
theorem CV.a_eq (x1 x10:List D1) (x11 x12:Int):CV.a x1 x10 x11 x12=bif (decide (x12<x11))then(bif (ao x12 (x10.length))then((QA ((rd (τ:=Y0) x10 x12).1)).bind fun r1=>bif (!r1)then some false else((QB ((rd (τ:=Y0) x10 x12).2.1)).bind fun r2=>bif (!r2)then some false else(bif (!decide ((((rd (τ:=Y0) x10 x12).2.2).size:Int)=128))then some false else(bif (decide (x12>0))then(bif (ao (IntKind.wrap .i64 (x12-1)) (x1.length))then(bif (decide ((rd (τ:=Y0) x1 (IntKind.wrap .i64 (x12-1))).1≥(rd (τ:=Y0) x10 x12).1))then some false else CV.a x1 x10 x11 (IntKind.wrap .i64 (x12+1)))else none)else CV.a x1 x10 x11 (IntKind.wrap .i64 (x12+1))))))else none)else some true:=
 (ak cfg 123 _ _ _).trans (by kernel_rfl)
noncomputable def GV (a0:List Int):Option Int:=au cfg 286 [.v (.list (.int .i64) a0)]
noncomputable def GV.a (x3:Int) (x6:List Int) (x7 x8:Int):Option Int:=LA 286 Tryz.f286 [1,1,0,1,0] ⟨18,af [vI 3 x3,vL 6 (.int .i64) x6,vI 7 x7,vI 8 x8],ai []⟩
theorem M9 (a0:List Int):GV a0=GV.a 0 a0 (a0.length:Int) 0:=
 (aa cfg 286 _).trans (by kernel_rfl)
theorem GV.a_eq (x3:Int) (x6:List Int) (x7 x8:Int):GV.a x3 x6 x7 x8=bif (decide (x8<x7))then(bif (ao x8 (x6.length))then(bif (!decide ((rd (τ:=(.int .i64)) x6 x8)=x3))then some (rd (τ:=(.int .i64)) x6 x8)else GV.a x3 x6 x7 (IntKind.wrap .i64 (x8+1)))else none)else some x3:=
 (ak cfg 286 _ _ _).trans (by kernel_rfl)
noncomputable def RQ (a0:Int):Option Bool:=au cfg 344 [.v (.int .i64 a0)]
theorem GW (a0:Int):RQ a0=some (!decide (a0=a0)):=
 (aa cfg 344 _).trans (by kernel_rfl)
noncomputable def QC (a0 a1:Int):Option Int:=au cfg 287 [.v (.int .i64 a0),.v (.int .i64 a1)]
theorem Na (a0 a1:Int):QC a0 a1=(RQ a0).bind fun r1=>(RQ a1).bind fun r2=>bif r1 then(bif r2 then some 0 else some (-1))else(bif r2 then some 1 else(bif (decide (a0<a1))then some (-1)else(bif (decide (a0>a1))then some 1 else some 0))):=
 (aa cfg 287 _).trans (by kernel_rfl)
noncomputable def RR (a0 a1:Int×Int×Int):Option Int:=au cfg 207 [.agg [.int .i64 a0.1,.int .i64 a0.2.1,.int .i64 a0.2.2],.agg [.int .i64 a1.1,.int .i64 a1.2.1,.int .i64 a1.2.2]]
theorem Nb (a0 a1:Int×Int×Int):RR a0 a1=(QC a0.1 a1.1).bind fun r1=>(QC a0.2.1 a1.2.1).bind fun r2=>(GV [r1,r2]).bind fun r3=>some r3:=
 (aa cfg 207 _).trans (by kernel_rfl)
noncomputable def DC (a0:List (Int×Int×Int)):Option Bool:=au cfg 125 [.v (.list aV a0)]
noncomputable def DC.a (x0 x8:List (Int×Int×Int)) (x9 x10:Int):Option Bool:=LA 125 Tryz.f125 [1,1,0,1,0] ⟨34,af [vL 0 aV x0,vL 8 aV x8,vI 9 x9,vI 10 x10],ai []⟩
theorem Nc (a0:List (Int×Int×Int)):DC a0=bif (decide ((a0.length:Int)>16))then some false else DC.a a0 a0 (a0.length:Int) 0:=
 (aa cfg 125 _).trans (by kernel_rfl)
theorem DC.a_eq (x0 x8:List (Int×Int×Int)) (x9 x10:Int):DC.a x0 x8 x9 x10=bif (decide (x10<x9))then(bif (ao x10 (x8.length))then((gg ((rd (τ:=aV) x8 x10).2.1) 0 255).bind fun r1=>bif (!r1)then some false else(bif (decide (x10>0))then(bif (ao (IntKind.wrap .i64 (x10-1)) (x0.length))then((RR (rd (τ:=aV) x0 (IntKind.wrap .i64 (x10-1))) (rd (τ:=aV) x8 x10)).bind fun r2=>bif (decide (r2≥0))then some false else DC.a x0 x8 x9 (IntKind.wrap .i64 (x10+1)))else none)else DC.a x0 x8 x9 (IntKind.wrap .i64 (x10+1))))else none)else some true:=
 (ak cfg 125 _ _ _).trans (by kernel_rfl)
noncomputable def RS (a0:List Int×Int):Option Bool:=au cfg 289 [.agg [.seg (.int .i64) 32 a0.1,.int .i64 a0.2]]
theorem Nd (a0:List Int×Int):RS a0=bif (ao 0 32)then some (decide ((rd (τ:=(.int .i64)) a0.1 0)=0))else none:=
 (aa cfg 289 _).trans (by kernel_rfl)
noncomputable def RT (a0:D4):Option Bool:=au cfg 210 [.agg [.int .i64 a0.1,.seg (.int .i64) 32 a0.2.1.1,.int .i64 a0.2.1.2,.list (.int .i64) a0.2.2.1,.int .i64 a0.2.2.2]]
theorem Nf (a0:D4):RT a0=av (fun kr11=>bif (decide (a0.1=3))then((gg a0.2.2.2 1 31).bind fun r1=>kr11 r1)else kr11 (decide (a0.2.2.2=0))) fun(r2:Bool)=>(gg a0.1 1 3).bind fun r3=>bif r3 then((RS a0.2.1).bind fun r4=>bif r4 then(bif (decide ((a0.2.2.1.length:Int)≤32))then some r2 else some false)else some false)else some false:=
 (aa cfg 210 _).trans (by kernel_rfl)
noncomputable def Sn (a0:D4):Option Bool:=au cfg 209 [.agg [.int .i64 a0.1,.seg (.int .i64) 32 a0.2.1.1,.int .i64 a0.2.1.2,.list (.int .i64) a0.2.2.1,.int .i64 a0.2.2.2]]
theorem Ng (a0:D4):Sn a0=(RT a0).bind fun r1=>some (!r1):=
 (aa cfg 209 _).trans (by kernel_rfl)
noncomputable def Hd (a0:List D4):Option Int:=au cfg 288 [.v (.list Y3 a0),.v (.fn 209 [])]
noncomputable def Hd.a (x0:List D4) (x7 x8:Int):Option Int:=LA 288 Tryz.f288 [1,0,1,0] ⟨19,af [vL 0 Y3 x0,(1,.v (.fn 209 [])),vI 7 x7,vI 8 x8],ai []⟩
theorem Nh (a0:List D4):Hd a0=Hd.a a0 (a0.length:Int) 0:=
 (aa cfg 288 _).trans (by kernel_rfl)
theorem Hd.a_eq (x0:List D4) (x7 x8:Int):Hd.a x0 x7 x8=bif (decide (x8<x7))then(bif (ao x8 (x0.length))then((Sn (rd (τ:=Y3) x0 x8)).bind fun r1=>bif r1 then some x8 else Hd.a x0 x7 (IntKind.wrap .i64 (x8+1)))else none)else some (-1):=
 (ak cfg 288 _ _ _).trans (by kernel_rfl)
noncomputable def So (a0:List D4):Option Bool:=au cfg 208 [.v (.list Y3 a0),.v (.fn 209 [])]
theorem Ni (a0:List D4):So a0=(Hd a0).bind fun r1=>some (decide (r1≥0)):=
 (aa cfg 208 _).trans (by kernel_rfl)
noncomputable def RU (a0:List D4):Option Bool:=au cfg 126 [.v (.list Y3 a0)]
theorem Nj (a0:List D4):RU a0=(gg (a0.length:Int) 1 4).bind fun r1=>bif r1 then((So a0).bind fun r2=>some (!r2))else some false:=
 (aa cfg 126 _).trans (by kernel_rfl)
noncomputable def RV (a0:D5):Option Bool:=au cfg 63 [.agg [.list Y0 a0.1,.list Y3 a0.2.1,.list Y1 a0.2.2.1,.list aV a0.2.2.2]]
theorem Nk (a0:D5):RV a0=(CV a0.1).bind fun r1=>bif r1 then((Al a0.2.2.1).bind fun r2=>bif r2 then((DC a0.2.2.2).bind fun r3=>bif r3 then((RU a0.2.1).bind fun r4=>some r4)else some false)else some false)else some false:=
 (aa cfg 63 _).trans (by kernel_rfl)
noncomputable def GX (a0 a1:List D0):Option Bool:=au cfg 64 [.v (.list Y1 a0),.v (.list Y1 a1)]
noncomputable def GX.a (x0 x1:List D0) (x12 x13:Int):Option Bool:=LA 64 Tryz.f64 [1,1,0,1,0] ⟨26,af [vL 0 Y1 x0,vL 1 Y1 x1,vI 12 x12,vI 13 x13],ai []⟩
theorem Nl (a0 a1:List D0):GX a0 a1=bif (!decide ((a0.length:Int)=(a1.length:Int)))then some false else GX.a a0 a1 (a0.length:Int) 0:=
 (aa cfg 64 _).trans (by kernel_rfl)
theorem GX.a_eq (x0 x1:List D0) (x12 x13:Int):GX.a x0 x1 x12 x13=bif (decide (x13<x12))then(bif (ao x13 (x0.length))then(bif (ao x13 (x1.length))then(bif (!(ka Y1 (rd (τ:=Y1) x0 x13) (rd (τ:=Y1) x1 x13)))then some false else GX.a x0 x1 x12 (IntKind.wrap .i64 (x13+1)))else none)else none)else some true:=
 (ak cfg 64 _ _ _).trans (by kernel_rfl)
noncomputable def Sp (a0 a1:D1):Option Bool:=au cfg 128 [.agg [.int .i64 a0.1,.int .i64 a0.2.1,.str a0.2.2],.agg [.int .i64 a1.1,.int .i64 a1.2.1,.str a1.2.2]]
theorem Nm (a0 a1:D1):Sp a0 a1=bif (decide (a0.1=a1.1))then(bif (decide (a0.2.1=a1.2.1))then(bif (!decide (a0.2.1=4))then some true else some (bo a0.2.2 a1.2.2))else some false)else some false:=
 (aa cfg 128 _).trans (by kernel_rfl)
noncomputable def He (a0 a1:List D1):Option Bool:=au cfg 127 [.v (.list Y0 a0),.v (.list Y0 a1),.v (.fn 128 [])]
noncomputable def He.a (x1 x15:List D1) (x16 x17:Int):Option Bool:=LA 127 Tryz.f127 [1,1,0,1,0] ⟨32,af [vL 1 Y0 x1,(2,.v (.fn 128 [])),vL 15 Y0 x15,vI 16 x16,vI 17 x17],ai []⟩
theorem Nn (a0 a1:List D1):He a0 a1=bif (!decide ((a0.length:Int)=(a1.length:Int)))then some false else He.a a1 a0 (a0.length:Int) 0:=
 (aa cfg 127 _).trans (by kernel_rfl)
theorem He.a_eq (x1 x15:List D1) (x16 x17:Int):He.a x1 x15 x16 x17=bif (decide (x17<x16))then(bif (ao x17 (x15.length))then(bif (ao x17 (x1.length))then((Sp (rd (τ:=Y0) x15 x17) (rd (τ:=Y0) x1 x17)).bind fun r1=>bif (!r1)then some false else He.a x1 x15 x16 (IntKind.wrap .i64 (x17+1)))else none)else none)else some true:=
 (ak cfg 127 _ _ _).trans (by kernel_rfl)
noncomputable def RW (a0 a1:List D1):Option Bool:=au cfg 65 [.agg [.list Y0 a0],.agg [.list Y0 a1]]
theorem No (a0 a1:List D1):RW a0 a1=(He a0 a1).bind fun r1=>some r1:=
 (aa cfg 65 _).trans (by kernel_rfl)
noncomputable def PR (a0:mh):Option (wT×Bool):=au cfg 27 [.agg [.str a0.1.1,.str a0.1.2.1,.list Y4 a0.1.2.2,.list Y0 a0.2.1.1,.list Y3 a0.2.1.2.1,.list Y1 a0.2.1.2.2.1,.list aV a0.2.1.2.2.2,.list bl a0.2.2]]
theorem Np (a0:mh):PR a0=(td a0.1 a0.2.2 true).bind fun r1=>bif (!r1.2)then some (([],[],[],(0,0,0),0,0,0),false)else((RV a0.2.1).bind fun r2=>bif (!r2)then some (([],[],[],(0,0,0),0,0,0),false)else((GX a0.2.1.2.2.1 r1.1.1).bind fun r3=>bif (!r3)then some (([],[],[],(0,0,0),0,0,0),false)else((RW a0.2.1.1 r1.1.2.2.1).bind fun r4=>bif (!r4)then some (([],[],[],(0,0,0),0,0,0),false)else some (r1.1,true)))):=
 (aa cfg 27 _).trans (by kernel_rfl)
noncomputable def Sq (a0:Int):Option ByteArray:=au cfg 138 [.v (.int .i64 a0)]
theorem Nq (a0:Int):Sq a0=(Z1 a0 10).bind fun r1=>some r1:=
 (aa cfg 138 _).trans (by kernel_rfl)
noncomputable def Sr (a0:Int):Option ByteArray:=au cfg 83 [.v (.int .i64 a0)]
theorem Nr (a0:Int):Sr a0=(Sq a0).bind fun r1=>some r1:=
 (aa cfg 83 _).trans (by kernel_rfl)
noncomputable def QD (a0:Int):Option ByteArray:=au cfg 40 [.v (.int .i64 a0)]
theorem Ns (a0:Int):QD a0=(Sr a0).bind fun r1=>some r1:=
 (aa cfg 40 _).trans (by kernel_rfl)
noncomputable def OG (a0:ByteArray) (a1:Int):Option ByteArray:=au cfg 28 [.v (.str a0),.v (.int .i64 a1)]
theorem Nt (a0:ByteArray) (a1:Int):OG a0 a1=bif (decide ((⟨#[32]⟩:ByteArray).size+a0.size≤9223372036854775807))then(bif (decide (((⟨#[32]⟩:ByteArray)++a0).size+(⟨#[32]⟩:ByteArray).size≤9223372036854775807))then((QD a1).bind fun r1=>bif (decide ((((⟨#[32]⟩:ByteArray)++a0)++(⟨#[32]⟩:ByteArray)).size+r1.size≤9223372036854775807))then some ((((⟨#[32]⟩:ByteArray)++a0)++(⟨#[32]⟩:ByteArray))++r1)else none)else none)else none:=
 (aa cfg 28 _).trans (by kernel_rfl)
noncomputable def zk (a0:wT) (a1:Int):Option Int:=au cfg 29 [.agg [.list Y1 a0.1,.list ba a0.2.1,.list Y0 a0.2.2.1,.int .i64 a0.2.2.2.1.1,.int .i64 a0.2.2.2.1.2.1,.int .i64 a0.2.2.2.1.2.2,.int .i64 a0.2.2.2.2.1,.int .i64 a0.2.2.2.2.2.1,.int .i64 a0.2.2.2.2.2.2],.v (.int .i64 a1)]
noncomputable def zk.a (x1 x5:Int) (x15:List cz) (x16 x17:Int):Option Int:=LA 29 Tryz.f29 [1,1,0,1,0] ⟨29,af [vI 1 x1,vI 5 x5,vL 15 ba x15,vI 16 x16,vI 17 x17],ai []⟩
theorem Nu (a0:wT) (a1:Int):zk a0 a1=bif (ao a1 (a0.1.length))then zk.a a1 ((rd (τ:=Y1) a0.1 a1).2.2.2.2.2) a0.2.1 (a0.2.1.length:Int) 0 else none:=
 (aa cfg 29 _).trans (by kernel_rfl)
theorem zk.a_eq (x1 x5:Int) (x15:List cz) (x16 x17:Int):zk.a x1 x5 x15 x16 x17=bif (decide (x17<x16))then(bif (ao x17 (x15.length))then(bif (decide ((rd (τ:=ba) x15 x17).1=x1))then zk.a x1 ((rd (τ:=ba) x15 x17).2.1) x15 x16 (IntKind.wrap .i64 (x17+1))else zk.a x1 x5 x15 x16 (IntKind.wrap .i64 (x17+1)))else none)else some x5:=
 (ak cfg 29 _ _ _).trans (by kernel_rfl)
noncomputable def CW (a0:mh):Option IO:=au cfg 9 [.agg [.str a0.1.1,.str a0.1.2.1,.list Y4 a0.1.2.2,.list Y0 a0.2.1.1,.list Y3 a0.2.1.2.1,.list Y1 a0.2.1.2.2.1,.list aV a0.2.1.2.2.2,.list bl a0.2.2]]
noncomputable def CW.a (x4:wT) (x6:List ByteArray) (x18:List D0) (x19 x20:Int):Option IO:=LA 9 Tryz.f9 [1,1,1,1,0,1,0] ⟨53,af [vP 4 575,(6,.v (.own 800)),vL 18 Y1 x18,vI 19 x19,vI 20 x20],ai [(544,.rows 116 ba .no x4.2.1),(575,.box [.list Y1 x4.1,.own 544,.list Y0 x4.2.2.1,.int .i64 x4.2.2.2.1.1,.int .i64 x4.2.2.2.1.2.1,.int .i64 x4.2.2.2.1.2.2,.int .i64 x4.2.2.2.2.1,.int .i64 x4.2.2.2.2.2.1,.int .i64 x4.2.2.2.2.2.2]),(800,.rows 9 .str .no x6)]⟩
theorem Nv (a0:mh):CW a0=(PR a0).bind fun r1=>bif (!r1.2)then some ([],1)else CW.a r1.1 [] r1.1.1 (r1.1.1.length:Int) 0:=
 (aa cfg 9 _).trans (by kernel_rfl)
theorem CW.a_eq (x4:wT) (x6:List ByteArray) (x18:List D0) (x19 x20:Int):CW.a x4 x6 x18 x19 x20=bif (decide (x20<x19))then(bif (ao x20 (x18.length))then(av (fun kr8=>bif (decide ((rd (τ:=Y1) x18 x20).2.1=2))then kr8 (⟨#[100,97,116,97]⟩:ByteArray)else kr8 (⟨#[102,117,110,99]⟩:ByteArray)) fun(r2:ByteArray)=>(OG r2 ((rd (τ:=Y1) x18 x20).2.2.1)).bind fun r3=>bif (decide (((rd (τ:=Y1) x18 x20).1).size+r3.size≤9223372036854775807))then((OG (⟨#[115,105,122,101]⟩:ByteArray) ((rd (τ:=Y1) x18 x20).2.2.2.1)).bind fun r4=>bif (decide ((((rd (τ:=Y1) x18 x20).1)++r3).size+r4.size≤9223372036854775807))then((OG (⟨#[111,119,110,101,114]⟩:ByteArray) ((rd (τ:=Y1) x18 x20).2.2.2.2.2)).bind fun r5=>bif (decide (((((rd (τ:=Y1) x18 x20).1)++r3)++r4).size+r5.size≤9223372036854775807))then((zk x4 x20).bind fun r6=>(OG (⟨#[118,101,114,115,105,111,110]⟩:ByteArray) r6).bind fun r7=>bif (decide ((((((rd (τ:=Y1) x18 x20).1)++r3)++r4)++r5).size+r7.size≤9223372036854775807))then(bif (ar ((x6.length)+([((((((rd (τ:=Y1) x18 x20).1)++r3)++r4)++r5)++r7)].length)) 16)then CW.a x4 (x6++[((((((rd (τ:=Y1) x18 x20).1)++r3)++r4)++r5)++r7)]) x18 x19 (IntKind.wrap .i64 (x20+1))else none)else none)else none)else none)else none)else none)else some (x6,0):=
 (ak cfg 9 _ _ _).trans (by kernel_rfl)
noncomputable def qI (a0 a1:List ByteArray):Option Bool:=au cfg 10 [.v (.list .str a0),.v (.list .str a1)]
noncomputable def qI.a (x0 x1:List ByteArray) (x5:Int):Option Bool:=LA 10 Tryz.f10 [1,1,0,1,0] ⟨26,af [vL 0 .str x0,vL 1 .str x1,vI 5 x5],ai []⟩
theorem GY (a0 a1:List ByteArray):qI a0 a1=bif (!decide ((a0.length:Int)=(a1.length:Int)))then some false else qI.a a0 a1 0:=
 (aa cfg 10 _).trans (by kernel_rfl)
theorem qI.a_eq (x0 x1:List ByteArray) (x5:Int):qI.a x0 x1 x5=bif (decide (x5< (x0.length:Int)))then(bif (ao x5 (x0.length))then(bif (ao x5 (x1.length))then(bif (!bo (rd (τ:= .str) x0 x5) (rd (τ:= .str) x1 x5))then some false else qI.a x0 x1 (IntKind.wrap .i64 (x5+1)))else none)else none)else some true:=
 (ak cfg 10 _ _ _).trans (by kernel_rfl)
noncomputable def QE (a0 a1:D2):Option Bool:=au cfg 129 [.agg [.str a0.1,.int .i64 a0.2.1,.int .i64 a0.2.2.1,.int .i64 a0.2.2.2.1,.int .i64 a0.2.2.2.2],.agg [.str a1.1,.int .i64 a1.2.1,.int .i64 a1.2.2.1,.int .i64 a1.2.2.2.1,.int .i64 a1.2.2.2.2]]
theorem Nw (a0 a1:D2):QE a0 a1=bif (!bo a0.1 a1.1)then some false else(bif (!decide (a0.2.1=a1.2.1))then some false else(bif (!decide (a0.2.2.1=a1.2.2.1))then some false else(bif (!decide (a0.2.2.2.1=a1.2.2.2.1))then some false else(bif (!decide (a0.2.2.2.2=a1.2.2.2.2))then some false else some true)))):=
 (aa cfg 129 _).trans (by kernel_rfl)
noncomputable def DD (a0 a1:List D2):Option Bool:=au cfg 66 [.v (.list Y4 a0),.v (.list Y4 a1)]
noncomputable def DD.a (x0 x1:List D2) (x5:Int):Option Bool:=LA 66 Tryz.f66 [1,1,0,1,0] ⟨27,af [vL 0 Y4 x0,vL 1 Y4 x1,vI 5 x5],ai []⟩
theorem Nx (a0 a1:List D2):DD a0 a1=bif (!decide ((a0.length:Int)=(a1.length:Int)))then some false else DD.a a0 a1 0:=
 (aa cfg 66 _).trans (by kernel_rfl)
theorem DD.a_eq (x0 x1:List D2) (x5:Int):DD.a x0 x1 x5=bif (decide (x5< (x0.length:Int)))then(bif (ao x5 (x0.length))then(bif (ao x5 (x1.length))then((QE (rd (τ:=Y4) x0 x5) (rd (τ:=Y4) x1 x5)).bind fun r1=>bif (!r1)then some false else DD.a x0 x1 (IntKind.wrap .i64 (x5+1)))else none)else none)else some true:=
 (ak cfg 66 _ _ _).trans (by kernel_rfl)
noncomputable def QF (a0 a1:D3):Option Bool:=au cfg 30 [.agg [.str a0.1,.str a0.2.1,.list Y4 a0.2.2],.agg [.str a1.1,.str a1.2.1,.list Y4 a1.2.2]]
theorem Ny (a0 a1:D3):QF a0 a1=bif (!bo a0.1 a1.1)then some false else(bif (!bo a0.2.1 a1.2.1)then some false else((DD a0.2.2 a1.2.2).bind fun r1=>bif (!r1)then some false else some true)):=
 (aa cfg 30 _).trans (by kernel_rfl)
noncomputable def QG (a0 a1:D1):Option Bool:=au cfg 211 [.agg [.int .i64 a0.1,.int .i64 a0.2.1,.str a0.2.2],.agg [.int .i64 a1.1,.int .i64 a1.2.1,.str a1.2.2]]
theorem Nz (a0 a1:D1):QG a0 a1=bif (!decide (a0.1=a1.1))then some false else(bif (!decide (a0.2.1=a1.2.1))then some false else(bif (!bo a0.2.2 a1.2.2)then some false else some true)):=
 (aa cfg 211 _).trans (by kernel_rfl)
noncomputable def DE (a0 a1:List D1):Option Bool:=au cfg 130 [.v (.list Y0 a0),.v (.list Y0 a1)]
noncomputable def DE.a (x0 x1:List D1) (x5:Int):Option Bool:=LA 130 Tryz.f130 [1,1,0,1,0] ⟨27,af [vL 0 Y0 x0,vL 1 Y0 x1,vI 5 x5],ai []⟩
theorem NA (a0 a1:List D1):DE a0 a1=bif (!decide ((a0.length:Int)=(a1.length:Int)))then some false else DE.a a0 a1 0:=
 (aa cfg 130 _).trans (by kernel_rfl)
theorem DE.a_eq (x0 x1:List D1) (x5:Int):DE.a x0 x1 x5=bif (decide (x5< (x0.length:Int)))then(bif (ao x5 (x0.length))then(bif (ao x5 (x1.length))then((QG (rd (τ:=Y0) x0 x5) (rd (τ:=Y0) x1 x5)).bind fun r1=>bif (!r1)then some false else DE.a x0 x1 (IntKind.wrap .i64 (x5+1)))else none)else none)else some true:=
 (ak cfg 130 _ _ _).trans (by kernel_rfl)
noncomputable def QH (a0 a1:List D1):Option Bool:=au cfg 67 [.agg [.list Y0 a0],.agg [.list Y0 a1]]
theorem NB (a0 a1:List D1):QH a0 a1=(DE a0 a1).bind fun r1=>bif (!r1)then some false else some true:=
 (aa cfg 67 _).trans (by kernel_rfl)
noncomputable def DF (a0 a1:List Int):Option Bool:=au cfg 290 [.agg [.seg (.int .i64) 32 a0],.agg [.seg (.int .i64) 32 a1]]
noncomputable def DF.a (x2 x3:List Int) (x5:Int):Option Bool:=LA 290 Tryz.f290 [1,0,1,0] ⟨17,af [vP 2 319,vP 3 447,vI 5 x5],ai [(319,.box [.seg (.int .i64) 32 x2]),(447,.box [.seg (.int .i64) 32 x3])]⟩
theorem NC (a0 a1:List Int):DF a0 a1=DF.a a0 a1 0:=
 (aa cfg 290 _).trans (by kernel_rfl)
theorem DF.a_eq (x2 x3:List Int) (x5:Int):DF.a x2 x3 x5=bif (decide (x5<32))then(bif (ao x5 32)then(bif (ao x5 32)then(bif (!decide ((rd (τ:=(.int .i64)) x2 x5)=(rd (τ:=(.int .i64)) x3 x5)))then some false else DF.a x2 x3 (IntKind.wrap .i64 (x5+1)))else none)else none)else some true:=
 (ak cfg 290 _ _ _).trans (by kernel_rfl)
noncomputable def QI (a0 a1:List Int×Int):Option Bool:=au cfg 212 [.agg [.seg (.int .i64) 32 a0.1,.int .i64 a0.2],.agg [.seg (.int .i64) 32 a1.1,.int .i64 a1.2]]
theorem ND (a0 a1:List Int×Int):QI a0 a1=(DF a0.1 a1.1).bind fun r1=>bif (!r1)then some false else(bif (!decide (a0.2=a1.2))then some false else some true):=
 (aa cfg 212 _).trans (by kernel_rfl)
noncomputable def Ao (a0 a1:List Int):Option Bool:=au cfg 213 [.v (.list (.int .i64) a0),.v (.list (.int .i64) a1)]
noncomputable def Ao.a (x0 x1:List Int) (x5:Int):Option Bool:=LA 213 Tryz.f213 [1,1,0,1,0] ⟨26,af [vL 0 (.int .i64) x0,vL 1 (.int .i64) x1,vI 5 x5],ai []⟩
theorem NE (a0 a1:List Int):Ao a0 a1=bif (!decide ((a0.length:Int)=(a1.length:Int)))then some false else Ao.a a0 a1 0:=
 (aa cfg 213 _).trans (by kernel_rfl)
theorem Ao.a_eq (x0 x1:List Int) (x5:Int):Ao.a x0 x1 x5=bif (decide (x5< (x0.length:Int)))then(bif (ao x5 (x0.length))then(bif (ao x5 (x1.length))then(bif (!decide ((rd (τ:=(.int .i64)) x0 x5)=(rd (τ:=(.int .i64)) x1 x5)))then some false else Ao.a x0 x1 (IntKind.wrap .i64 (x5+1)))else none)else none)else some true:=
 (ak cfg 213 _ _ _).trans (by kernel_rfl)
noncomputable def QJ (a0 a1:D4):Option Bool:=au cfg 131 [.agg [.int .i64 a0.1,.seg (.int .i64) 32 a0.2.1.1,.int .i64 a0.2.1.2,.list (.int .i64) a0.2.2.1,.int .i64 a0.2.2.2],.agg [.int .i64 a1.1,.seg (.int .i64) 32 a1.2.1.1,.int .i64 a1.2.1.2,.list (.int .i64) a1.2.2.1,.int .i64 a1.2.2.2]]
theorem NF (a0 a1:D4):QJ a0 a1=bif (!decide (a0.1=a1.1))then some false else((QI a0.2.1 a1.2.1).bind fun r1=>bif (!r1)then some false else((Ao a0.2.2.1 a1.2.2.1).bind fun r2=>bif (!r2)then some false else(bif (!decide (a0.2.2.2=a1.2.2.2))then some false else some true))):=
 (aa cfg 131 _).trans (by kernel_rfl)
noncomputable def DG (a0 a1:List D4):Option Bool:=au cfg 68 [.v (.list Y3 a0),.v (.list Y3 a1)]
noncomputable def DG.a (x0 x1:List D4) (x5:Int):Option Bool:=LA 68 Tryz.f68 [1,1,0,1,0] ⟨27,af [vL 0 Y3 x0,vL 1 Y3 x1,vI 5 x5],ai []⟩
theorem NG (a0 a1:List D4):DG a0 a1=bif (!decide ((a0.length:Int)=(a1.length:Int)))then some false else DG.a a0 a1 0:=
 (aa cfg 68 _).trans (by kernel_rfl)
theorem DG.a_eq (x0 x1:List D4) (x5:Int):DG.a x0 x1 x5=bif (decide (x5< (x0.length:Int)))then(bif (ao x5 (x0.length))then(bif (ao x5 (x1.length))then((QJ (rd (τ:=Y3) x0 x5) (rd (τ:=Y3) x1 x5)).bind fun r1=>bif (!r1)then some false else DG.a x0 x1 (IntKind.wrap .i64 (x5+1)))else none)else none)else some true:=
 (ak cfg 68 _ _ _).trans (by kernel_rfl)
noncomputable def QK (a0 a1:D0):Option Bool:=au cfg 132 [.agg [.str a0.1,.int .i64 a0.2.1,.int .i64 a0.2.2.1,.int .i64 a0.2.2.2.1,.int .i64 a0.2.2.2.2.1,.int .i64 a0.2.2.2.2.2],.agg [.str a1.1,.int .i64 a1.2.1,.int .i64 a1.2.2.1,.int .i64 a1.2.2.2.1,.int .i64 a1.2.2.2.2.1,.int .i64 a1.2.2.2.2.2]]
theorem NH (a0 a1:D0):QK a0 a1=bif (!bo a0.1 a1.1)then some false else(bif (!decide (a0.2.1=a1.2.1))then some false else(bif (!decide (a0.2.2.1=a1.2.2.1))then some false else(bif (!decide (a0.2.2.2.1=a1.2.2.2.1))then some false else(bif (!decide (a0.2.2.2.2.1=a1.2.2.2.2.1))then some false else(bif (!decide (a0.2.2.2.2.2=a1.2.2.2.2.2))then some false else some true))))):=
 (aa cfg 132 _).trans (by kernel_rfl)
noncomputable def DH (a0 a1:List D0):Option Bool:=au cfg 69 [.v (.list Y1 a0),.v (.list Y1 a1)]
noncomputable def DH.a (x0 x1:List D0) (x5:Int):Option Bool:=LA 69 Tryz.f69 [1,1,0,1,0] ⟨27,af [vL 0 Y1 x0,vL 1 Y1 x1,vI 5 x5],ai []⟩
theorem NI (a0 a1:List D0):DH a0 a1=bif (!decide ((a0.length:Int)=(a1.length:Int)))then some false else DH.a a0 a1 0:=
 (aa cfg 69 _).trans (by kernel_rfl)
theorem DH.a_eq (x0 x1:List D0) (x5:Int):DH.a x0 x1 x5=bif (decide (x5< (x0.length:Int)))then(bif (ao x5 (x0.length))then(bif (ao x5 (x1.length))then((QK (rd (τ:=Y1) x0 x5) (rd (τ:=Y1) x1 x5)).bind fun r1=>bif (!r1)then some false else DH.a x0 x1 (IntKind.wrap .i64 (x5+1)))else none)else none)else some true:=
 (ak cfg 69 _ _ _).trans (by kernel_rfl)
noncomputable def QL (a0 a1:Int×Int×Int):Option Bool:=au cfg 133 [.agg [.int .i64 a0.1,.int .i64 a0.2.1,.int .i64 a0.2.2],.agg [.int .i64 a1.1,.int .i64 a1.2.1,.int .i64 a1.2.2]]
theorem NJ (a0 a1:Int×Int×Int):QL a0 a1=bif (!decide (a0.1=a1.1))then some false else(bif (!decide (a0.2.1=a1.2.1))then some false else(bif (!decide (a0.2.2=a1.2.2))then some false else some true)):=
 (aa cfg 133 _).trans (by kernel_rfl)
noncomputable def DI (a0 a1:List (Int×Int×Int)):Option Bool:=au cfg 70 [.v (.list aV a0),.v (.list aV a1)]
noncomputable def DI.a (x0 x1:List (Int×Int×Int)) (x5:Int):Option Bool:=LA 70 Tryz.f70 [1,1,0,1,0] ⟨27,af [vL 0 aV x0,vL 1 aV x1,vI 5 x5],ai []⟩
theorem NK (a0 a1:List (Int×Int×Int)):DI a0 a1=bif (!decide ((a0.length:Int)=(a1.length:Int)))then some false else DI.a a0 a1 0:=
 (aa cfg 70 _).trans (by kernel_rfl)
theorem DI.a_eq (x0 x1:List (Int×Int×Int)) (x5:Int):DI.a x0 x1 x5=bif (decide (x5< (x0.length:Int)))then(bif (ao x5 (x0.length))then(bif (ao x5 (x1.length))then((QL (rd (τ:=aV) x0 x5) (rd (τ:=aV) x1 x5)).bind fun r1=>bif (!r1)then some false else DI.a x0 x1 (IntKind.wrap .i64 (x5+1)))else none)else none)else some true:=
 (ak cfg 70 _ _ _).trans (by kernel_rfl)
noncomputable def QM (a0 a1:D5):Option Bool:=au cfg 31 [.agg [.list Y0 a0.1,.list Y3 a0.2.1,.list Y1 a0.2.2.1,.list aV a0.2.2.2],.agg [.list Y0 a1.1,.list Y3 a1.2.1,.list Y1 a1.2.2.1,.list aV a1.2.2.2]]
theorem NL (a0 a1:D5):QM a0 a1=(QH a0.1 a1.1).bind fun r1=>bif (!r1)then some false else((DG a0.2.1 a1.2.1).bind fun r2=>bif (!r2)then some false else((DH a0.2.2.1 a1.2.2.1).bind fun r3=>bif (!r3)then some false else((DI a0.2.2.2 a1.2.2.2).bind fun r4=>bif (!r4)then some false else some true))):=
 (aa cfg 31 _).trans (by kernel_rfl)
noncomputable def QN (a0 a1:D6):Option Bool:=au cfg 291 [.agg [.str a0.1,.bool a0.2.1,.int .i64 a0.2.2.1,.str a0.2.2.2],.agg [.str a1.1,.bool a1.2.1,.int .i64 a1.2.2.1,.str a1.2.2.2]]
theorem NM (a0 a1:D6):QN a0 a1=bif (!bo a0.1 a1.1)then some false else(bif (!(a0.2.1==a1.2.1))then some false else(bif (!decide (a0.2.2.1=a1.2.2.1))then some false else(bif (!bo a0.2.2.2 a1.2.2.2)then some false else some true))):=
 (aa cfg 291 _).trans (by kernel_rfl)
noncomputable def DJ (a0 a1:List D6):Option Bool:=au cfg 214 [.v (.list Y5 a0),.v (.list Y5 a1)]
noncomputable def DJ.a (x0 x1:List D6) (x5:Int):Option Bool:=LA 214 Tryz.f214 [1,1,0,1,0] ⟨27,af [vL 0 Y5 x0,vL 1 Y5 x1,vI 5 x5],ai []⟩
theorem NN (a0 a1:List D6):DJ a0 a1=bif (!decide ((a0.length:Int)=(a1.length:Int)))then some false else DJ.a a0 a1 0:=
 (aa cfg 214 _).trans (by kernel_rfl)
theorem DJ.a_eq (x0 x1:List D6) (x5:Int):DJ.a x0 x1 x5=bif (decide (x5< (x0.length:Int)))then(bif (ao x5 (x0.length))then(bif (ao x5 (x1.length))then((QN (rd (τ:=Y5) x0 x5) (rd (τ:=Y5) x1 x5)).bind fun r1=>bif (!r1)then some false else DJ.a x0 x1 (IntKind.wrap .i64 (x5+1)))else none)else none)else some true:=
 (ak cfg 214 _ _ _).trans (by kernel_rfl)
noncomputable def QO (a0 a1:D7):Option Bool:=au cfg 292 [.agg [.str a0.1,.str a0.2],.agg [.str a1.1,.str a1.2]]
theorem NO (a0 a1:D7):QO a0 a1=bif (!bo a0.1 a1.1)then some false else(bif (!bo a0.2 a1.2)then some false else some true):=
 (aa cfg 292 _).trans (by kernel_rfl)
noncomputable def DK (a0 a1:List D7):Option Bool:=au cfg 215 [.v (.list (.pair .str .str) a0),.v (.list (.pair .str .str) a1)]
noncomputable def DK.a (x0 x1:List D7) (x5:Int):Option Bool:=LA 215 Tryz.f215 [1,1,0,1,0] ⟨27,af [vL 0 (.pair .str .str) x0,vL 1 (.pair .str .str) x1,vI 5 x5],ai []⟩
theorem NP (a0 a1:List D7):DK a0 a1=bif (!decide ((a0.length:Int)=(a1.length:Int)))then some false else DK.a a0 a1 0:=
 (aa cfg 215 _).trans (by kernel_rfl)
theorem DK.a_eq (x0 x1:List D7) (x5:Int):DK.a x0 x1 x5=bif (decide (x5< (x0.length:Int)))then(bif (ao x5 (x0.length))then(bif (ao x5 (x1.length))then((QO (rd (τ:=(.pair .str .str)) x0 x5) (rd (τ:=(.pair .str .str)) x1 x5)).bind fun r1=>bif (!r1)then some false else DK.a x0 x1 (IntKind.wrap .i64 (x5+1)))else none)else none)else some true:=
 (ak cfg 215 _ _ _).trans (by kernel_rfl)
noncomputable def QP (a0 a1:D8):Option Bool:=au cfg 293 [.agg [.int .i64 a0.1,.int .i64 a0.2.1,.int .i64 a0.2.2.1,.str a0.2.2.2.1,.int .i64 a0.2.2.2.2],.agg [.int .i64 a1.1,.int .i64 a1.2.1,.int .i64 a1.2.2.1,.str a1.2.2.2.1,.int .i64 a1.2.2.2.2]]
theorem NQ (a0 a1:D8):QP a0 a1=bif (!decide (a0.1=a1.1))then some false else(bif (!decide (a0.2.1=a1.2.1))then some false else(bif (!decide (a0.2.2.1=a1.2.2.1))then some false else(bif (!bo a0.2.2.2.1 a1.2.2.2.1)then some false else(bif (!decide (a0.2.2.2.2=a1.2.2.2.2))then some false else some true)))):=
 (aa cfg 293 _).trans (by kernel_rfl)
noncomputable def DL (a0 a1:List D8):Option Bool:=au cfg 216 [.v (.list Y6 a0),.v (.list Y6 a1)]
noncomputable def DL.a (x0 x1:List D8) (x5:Int):Option Bool:=LA 216 Tryz.f216 [1,1,0,1,0] ⟨27,af [vL 0 Y6 x0,vL 1 Y6 x1,vI 5 x5],ai []⟩
theorem NR (a0 a1:List D8):DL a0 a1=bif (!decide ((a0.length:Int)=(a1.length:Int)))then some false else DL.a a0 a1 0:=
 (aa cfg 216 _).trans (by kernel_rfl)
theorem DL.a_eq (x0 x1:List D8) (x5:Int):DL.a x0 x1 x5=bif (decide (x5< (x0.length:Int)))then(bif (ao x5 (x0.length))then(bif (ao x5 (x1.length))then((QP (rd (τ:=Y6) x0 x5) (rd (τ:=Y6) x1 x5)).bind fun r1=>bif (!r1)then some false else DL.a x0 x1 (IntKind.wrap .i64 (x5+1)))else none)else none)else some true:=
 (ak cfg 216 _ _ _).trans (by kernel_rfl)
noncomputable def QQ (a0 a1:Int×Bool):Option Bool:=au cfg 294 [.agg [.int .i64 a0.1,.bool a0.2],.agg [.int .i64 a1.1,.bool a1.2]]
theorem NS (a0 a1:Int×Bool):QQ a0 a1=bif (!decide (a0.1=a1.1))then some false else(bif (!(a0.2==a1.2))then some false else some true):=
 (aa cfg 294 _).trans (by kernel_rfl)
noncomputable def DM (a0 a1:List (Int×Bool)):Option Bool:=au cfg 217 [.v (.list (.pair (.int .i64) .bool) a0),.v (.list (.pair (.int .i64) .bool) a1)]
noncomputable def DM.a (x0 x1:List (Int×Bool)) (x5:Int):Option Bool:=LA 217 Tryz.f217 [1,1,0,1,0] ⟨27,af [vL 0 (.pair (.int .i64) .bool) x0,vL 1 (.pair (.int .i64) .bool) x1,vI 5 x5],ai []⟩
theorem NT (a0 a1:List (Int×Bool)):DM a0 a1=bif (!decide ((a0.length:Int)=(a1.length:Int)))then some false else DM.a a0 a1 0:=
 (aa cfg 217 _).trans (by kernel_rfl)
theorem DM.a_eq (x0 x1:List (Int×Bool)) (x5:Int):DM.a x0 x1 x5=bif (decide (x5< (x0.length:Int)))then(bif (ao x5 (x0.length))then(bif (ao x5 (x1.length))then((QQ (rd (τ:=(.pair (.int .i64) .bool)) x0 x5) (rd (τ:=(.pair (.int .i64) .bool)) x1 x5)).bind fun r1=>bif (!r1)then some false else DM.a x0 x1 (IntKind.wrap .i64 (x5+1)))else none)else none)else some true:=
 (ak cfg 217 _ _ _).trans (by kernel_rfl)
noncomputable def QR (a0 a1:D9):Option Bool:=au cfg 134 [.agg [.str a0.1,.int .i64 a0.2.1,.list Y5 a0.2.2.1,.list (.pair .str .str) a0.2.2.2.1,.list Y6 a0.2.2.2.2.1,.list (.pair (.int .i64) .bool) a0.2.2.2.2.2],.agg [.str a1.1,.int .i64 a1.2.1,.list Y5 a1.2.2.1,.list (.pair .str .str) a1.2.2.2.1,.list Y6 a1.2.2.2.2.1,.list (.pair (.int .i64) .bool) a1.2.2.2.2.2]]
theorem NU (a0 a1:D9):QR a0 a1=bif (!bo a0.1 a1.1)then some false else(bif (!decide (a0.2.1=a1.2.1))then some false else((DJ a0.2.2.1 a1.2.2.1).bind fun r1=>bif (!r1)then some false else((DK a0.2.2.2.1 a1.2.2.2.1).bind fun r2=>bif (!r2)then some false else((DL a0.2.2.2.2.1 a1.2.2.2.2.1).bind fun r3=>bif (!r3)then some false else((DM a0.2.2.2.2.2 a1.2.2.2.2.2).bind fun r4=>bif (!r4)then some false else some true))))):=
 (aa cfg 134 _).trans (by kernel_rfl)
noncomputable def QS (a0 a1:bY):Option Bool:=au cfg 135 [.agg [.list (.int .i64) a0.1,.list .str a0.2.1,.list (.int .i64) a0.2.2.1,.list .str a0.2.2.2],.agg [.list (.int .i64) a1.1,.list .str a1.2.1,.list (.int .i64) a1.2.2.1,.list .str a1.2.2.2]]
theorem NV (a0 a1:bY):QS a0 a1=(Ao a0.1 a1.1).bind fun r1=>bif (!r1)then some false else((qI a0.2.1 a1.2.1).bind fun r2=>bif (!r2)then some false else((Ao a0.2.2.1 a1.2.2.1).bind fun r3=>bif (!r3)then some false else((qI a0.2.2.2 a1.2.2.2).bind fun r4=>bif (!r4)then some false else some true))):=
 (aa cfg 135 _).trans (by kernel_rfl)
noncomputable def QT (a0 a1:Int×Int):Option Bool:=au cfg 218 [.agg [.int .i64 a0.1,.int .i64 a0.2],.agg [.int .i64 a1.1,.int .i64 a1.2]]
theorem NW (a0 a1:Int×Int):QT a0 a1=bif (!decide (a0.1=a1.1))then some false else(bif (!decide (a0.2=a1.2))then some false else some true):=
 (aa cfg 218 _).trans (by kernel_rfl)
noncomputable def DN (a0 a1:List (Int×Int)):Option Bool:=au cfg 136 [.v (.list Y9 a0),.v (.list Y9 a1)]
noncomputable def DN.a (x0 x1:List (Int×Int)) (x5:Int):Option Bool:=LA 136 Tryz.f136 [1,1,0,1,0] ⟨27,af [vL 0 Y9 x0,vL 1 Y9 x1,vI 5 x5],ai []⟩
theorem NX (a0 a1:List (Int×Int)):DN a0 a1=bif (!decide ((a0.length:Int)=(a1.length:Int)))then some false else DN.a a0 a1 0:=
 (aa cfg 136 _).trans (by kernel_rfl)
theorem DN.a_eq (x0 x1:List (Int×Int)) (x5:Int):DN.a x0 x1 x5=bif (decide (x5< (x0.length:Int)))then(bif (ao x5 (x0.length))then(bif (ao x5 (x1.length))then((QT (rd (τ:=Y9) x0 x5) (rd (τ:=Y9) x1 x5)).bind fun r1=>bif (!r1)then some false else DN.a x0 x1 (IntKind.wrap .i64 (x5+1)))else none)else none)else some true:=
 (ak cfg 136 _ _ _).trans (by kernel_rfl)
noncomputable def QU (a0 a1:cV):Option Bool:=au cfg 71 [.agg [.str a0.1.1,.int .i64 a0.1.2.1,.list Y5 a0.1.2.2.1,.list (.pair .str .str) a0.1.2.2.2.1,.list Y6 a0.1.2.2.2.2.1,.list (.pair (.int .i64) .bool) a0.1.2.2.2.2.2,.list (.int .i64) a0.2.1.1,.list .str a0.2.1.2.1,.list (.int .i64) a0.2.1.2.2.1,.list .str a0.2.1.2.2.2,.list Y9 a0.2.2],.agg [.str a1.1.1,.int .i64 a1.1.2.1,.list Y5 a1.1.2.2.1,.list (.pair .str .str) a1.1.2.2.2.1,.list Y6 a1.1.2.2.2.2.1,.list (.pair (.int .i64) .bool) a1.1.2.2.2.2.2,.list (.int .i64) a1.2.1.1,.list .str a1.2.1.2.1,.list (.int .i64) a1.2.1.2.2.1,.list .str a1.2.1.2.2.2,.list Y9 a1.2.2]]
theorem NY (a0 a1:cV):QU a0 a1=(QR a0.1 a1.1).bind fun r1=>bif (!r1)then some false else((QS a0.2.1 a1.2.1).bind fun r2=>bif (!r2)then some false else((DN a0.2.2 a1.2.2).bind fun r3=>bif (!r3)then some false else some true)):=
 (aa cfg 71 _).trans (by kernel_rfl)
noncomputable def DO (a0 a1:List cV):Option Bool:=au cfg 32 [.v (.list bl a0),.v (.list bl a1)]
noncomputable def DO.a (x0 x1:List cV) (x5:Int):Option Bool:=LA 32 Tryz.f32 [1,1,0,1,0] ⟨27,af [vL 0 bl x0,vL 1 bl x1,vI 5 x5],ai []⟩
theorem NZ (a0 a1:List cV):DO a0 a1=bif (!decide ((a0.length:Int)=(a1.length:Int)))then some false else DO.a a0 a1 0:=
 (aa cfg 32 _).trans (by kernel_rfl)
theorem DO.a_eq (x0 x1:List cV) (x5:Int):DO.a x0 x1 x5=bif (decide (x5< (x0.length:Int)))then(bif (ao x5 (x0.length))then(bif (ao x5 (x1.length))then((QU (rd (τ:=bl) x0 x5) (rd (τ:=bl) x1 x5)).bind fun r1=>bif (!r1)then some false else DO.a x0 x1 (IntKind.wrap .i64 (x5+1)))else none)else none)else some true:=
 (ak cfg 32 _ _ _).trans (by kernel_rfl)
noncomputable def PS (a0 a1:mh):Option Bool:=au cfg 11 [.agg [.str a0.1.1,.str a0.1.2.1,.list Y4 a0.1.2.2,.list Y0 a0.2.1.1,.list Y3 a0.2.1.2.1,.list Y1 a0.2.1.2.2.1,.list aV a0.2.1.2.2.2,.list bl a0.2.2],.agg [.str a1.1.1,.str a1.1.2.1,.list Y4 a1.1.2.2,.list Y0 a1.2.1.1,.list Y3 a1.2.1.2.1,.list Y1 a1.2.1.2.2.1,.list aV a1.2.1.2.2.2,.list bl a1.2.2]]
theorem N0 (a0 a1:mh):PS a0 a1=(QF a0.1 a1.1).bind fun r1=>bif (!r1)then some false else((QM a0.2.1 a1.2.1).bind fun r2=>bif (!r2)then some false else((DO a0.2.2 a1.2.2).bind fun r3=>bif (!r3)then some false else some true)):=
 (aa cfg 11 _).trans (by kernel_rfl)
noncomputable def qJ (a0:Int):Option ByteArray:=au cfg 36 [.v (.int .i64 a0)]
noncomputable def qJ.a (x0:Int) (x3:ByteArray):Option ByteArray:=LA 36 Tryz.f36 [1,1,1,0,0] ⟨20,af [vI 0 x0,(3,.v (.str x3))],ai []⟩
theorem N1 (a0:Int):qJ a0=bif (decide (a0≤0))then some (⟨#[109,48]⟩:ByteArray)else qJ.a a0 (⟨#[]⟩:ByteArray):=
 (aa cfg 36 _).trans (by kernel_rfl)
theorem qJ.a_eq (x0:Int) (x3:ByteArray):qJ.a x0 x3=bif (decide (x0>0))then(bif (decide ((aC [(IntKind.wrap .u8 ((IntKind.wrap .i64 (48+(x0.tmod 10)))))]).size+x3.size≤9223372036854775807))then qJ.a (IntKind.wrap .i64 (x0.tdiv 10)) ((aC [(IntKind.wrap .u8 ((IntKind.wrap .i64 (48+(x0.tmod 10)))))])++x3)else none)else(bif (decide ((⟨#[109]⟩:ByteArray).size+x3.size≤9223372036854775807))then some ((⟨#[109]⟩:ByteArray)++x3)else none):=
 (ak cfg 36 _ _ _).trans (by kernel_rfl)
noncomputable def DP (a0:List D2) (a1:Int):Option (Int×List D2):=au cfg 72 [.v (.list Y4 a0),.v (.int .i64 a1)]
noncomputable def DP.a (x0:List D2) (x1 x5:Int):Option (Int×List D2):=LA 72 Tryz.f72 [1,0,1,0] ⟨49,af [(0,.v (.own 64)),vI 1 x1,vI 5 x5],ai [(64,.rows 201 Y4 .no x0)]⟩
theorem N2 (a0:List D2) (a1:Int):DP a0 a1=DP.a a0 a1 0:=
 (aa cfg 72 _).trans (by kernel_rfl)
theorem DP.a_eq (x0:List D2) (x1 x5:Int):DP.a x0 x1 x5=bif (decide (x5< (x0.length:Int)))then((qJ x1).bind fun r1=>bif (ao x5 (x0.length))then(bif (ao x5 ((x0.set (Int.toNat x5) (r1,(rd (τ:=Y4) x0 x5).2)).length))then(letB ((x0.set (Int.toNat x5) (r1,(rd (τ:=Y4) x0 x5).2)).set (Int.toNat x5) ((rd (τ:=Y4) (x0.set (Int.toNat x5) (r1,(rd (τ:=Y4) x0 x5).2)) x5).1,(IntKind.wrap .i64 (x1+1)),(rd (τ:=Y4) (x0.set (Int.toNat x5) (r1,(rd (τ:=Y4) x0 x5).2)) x5).2.2)) fun r2=>bif (ao x5 (r2.length))then(letB (r2.set (Int.toNat x5) ((rd (τ:=Y4) r2 x5).1,(rd (τ:=Y4) r2 x5).2.1,(IntKind.wrap .i64 ((IntKind.wrap .i64 (x1+1))+1)),(rd (τ:=Y4) r2 x5).2.2.2)) fun r3=>bif (ao x5 (r3.length))then(letB (r3.set (Int.toNat x5) ((rd (τ:=Y4) r3 x5).1,(rd (τ:=Y4) r3 x5).2.1,(rd (τ:=Y4) r3 x5).2.2.1,(IntKind.wrap .i64 ((IntKind.wrap .i64 ((IntKind.wrap .i64 (x1+1))+1))+1)),(rd (τ:=Y4) r3 x5).2.2.2.2)) fun r4=>bif (ao x5 (r4.length))then(letB (r4.set (Int.toNat x5) ((rd (τ:=Y4) r4 x5).1,(rd (τ:=Y4) r4 x5).2.1,(rd (τ:=Y4) r4 x5).2.2.1,(rd (τ:=Y4) r4 x5).2.2.2.1,(IntKind.wrap .i64 ((IntKind.wrap .i64 ((IntKind.wrap .i64 ((IntKind.wrap .i64 (x1+1))+1))+1))+1)))) fun r5=>DP.a r5 (IntKind.wrap .i64 ((IntKind.wrap .i64 ((IntKind.wrap .i64 ((IntKind.wrap .i64 ((IntKind.wrap .i64 (x1+1))+1))+1))+1))+1)) (IntKind.wrap .i64 (x5+1)))else none)else none)else none)else none)else none)else some (x1,x0):=
 (ak cfg 72 _ _ _).trans (by kernel_rfl)
noncomputable def QV (a0:D3) (a1:Int):Option SB:=au cfg 33 [.agg [.str a0.1,.str a0.2.1,.list Y4 a0.2.2],.v (.int .i64 a1)]
theorem N3 (a0:D3) (a1:Int):QV a0 a1=(DP a0.2.2 a1).bind fun r1=>some (r1.1,(),(),r1.2):=
 (aa cfg 33 _).trans (by kernel_rfl)
noncomputable def DQ (a0:List D1) (a1:Int):Option (Int×List D1):=au cfg 137 [.v (.list Y0 a0),.v (.int .i64 a1)]
noncomputable def DQ.a (x0:List D1) (x1 x5:Int):Option (Int×List D1):=LA 137 Tryz.f137 [1,0,1,0] ⟨35,af [(0,.v (.own 64)),vI 1 x1,vI 5 x5],ai [(64,.rows 200 Y0 .no x0)]⟩
theorem N4 (a0:List D1) (a1:Int):DQ a0 a1=DQ.a a0 a1 0:=
 (aa cfg 137 _).trans (by kernel_rfl)
theorem DQ.a_eq (x0:List D1) (x1 x5:Int):DQ.a x0 x1 x5=bif (decide (x5< (x0.length:Int)))then(bif (ao x5 (x0.length))then(bif (ao x5 ((x0.set (Int.toNat x5) (x1,(rd (τ:=Y0) x0 x5).2)).length))then(letB ((x0.set (Int.toNat x5) (x1,(rd (τ:=Y0) x0 x5).2)).set (Int.toNat x5) ((rd (τ:=Y0) (x0.set (Int.toNat x5) (x1,(rd (τ:=Y0) x0 x5).2)) x5).1,(IntKind.wrap .i64 (x1+1)),(rd (τ:=Y0) (x0.set (Int.toNat x5) (x1,(rd (τ:=Y0) x0 x5).2)) x5).2.2)) fun r1=>(qJ (IntKind.wrap .i64 ((IntKind.wrap .i64 (x1+1))+1))).bind fun r2=>bif (ao x5 (r1.length))then DQ.a (r1.set (Int.toNat x5) ((rd (τ:=Y0) r1 x5).1,(rd (τ:=Y0) r1 x5).2.1,r2)) (IntKind.wrap .i64 ((IntKind.wrap .i64 ((IntKind.wrap .i64 (x1+1))+1))+1)) (IntKind.wrap .i64 (x5+1))else none)else none)else none)else some (x1,x0):=
 (ak cfg 137 _ _ _).trans (by kernel_rfl)
noncomputable def QW (a0:List D1) (a1:Int):Option (Int×List D1):=au cfg 73 [.agg [.list Y0 a0],.v (.int .i64 a1)]
theorem N5 (a0:List D1) (a1:Int):QW a0 a1=(DQ a0 a1).bind fun r1=>some r1:=
 (aa cfg 73 _).trans (by kernel_rfl)
noncomputable def Ap (a0:List Int) (a1:Int):Option (Int×List Int):=au cfg 81 [.v (.list (.int .i64) a0),.v (.int .i64 a1)]
noncomputable def Ap.a (x0:List Int) (x1 x5:Int):Option (Int×List Int):=LA 81 Tryz.f81 [1,0,1,0] ⟨19,af [(0,.v (.own 64)),vI 1 x1,vI 5 x5],ai [(64,.rows 3 (.int .i64) .no x0)]⟩
theorem N6 (a0:List Int) (a1:Int):Ap a0 a1=Ap.a a0 a1 0:=
 (aa cfg 81 _).trans (by kernel_rfl)
theorem Ap.a_eq (x0:List Int) (x1 x5:Int):Ap.a x0 x1 x5=bif (decide (x5< (x0.length:Int)))then(bif (ao x5 (x0.length))then Ap.a (x0.set (Int.toNat x5) x1) (IntKind.wrap .i64 (x1+1)) (IntKind.wrap .i64 (x5+1))else none)else some (x1,x0):=
 (ak cfg 81 _ _ _).trans (by kernel_rfl)
noncomputable def rG (a0:List D4) (a1:Int):Option (Int×List D4):=au cfg 74 [.v (.list Y3 a0),.v (.int .i64 a1)]
noncomputable def rG.a (x0:List D4) (x1 x5:Int):Option (Int×List D4):=LA 74 Tryz.f74 [1,0,1,0] ⟨57,af [(0,.v (.own 64)),vI 1 x1,vI 5 x5],ai [(64,.rows 189 Y3 (.pair .no (.pair .no (.pair (.own 3 .no) .no))) x0)]⟩
noncomputable def rG.b (x0:List D4) (x1 x5 x6:Int):Option (Int×List D4):=LA 74 Tryz.f74 [1,0,1,0,0,1,0,0,1,1,0,1,0] ⟨57,af [(0,.v (.own 64)),vI 1 x1,vI 5 x5,vI 6 x6],ai [(64,.rows 189 Y3 (.pair .no (.pair .no (.pair (.own 3 .no) .no))) x0)]⟩
theorem N7 (a0:List D4) (a1:Int):rG a0 a1=rG.a a0 a1 0:=
 (aa cfg 74 _).trans (by kernel_rfl)
theorem rG.a_eq (x0:List D4) (x1 x5:Int):rG.a x0 x1 x5=bif (decide (x5< (x0.length:Int)))then(bif (ao x5 (x0.length))then rG.b (x0.set (Int.toNat x5) (x1,(rd (τ:=Y3) x0 x5).2)) (IntKind.wrap .i64 (x1+1)) x5 0 else none)else some (x1,x0):=
 (ak cfg 74 _ _ _).trans (by kernel_rfl)
theorem rG.b_eq (x0:List D4) (x1 x5 x6:Int):rG.b x0 x1 x5 x6=bif (decide (x6<32))then(bif (ao x5 (x0.length))then(bif (ao x6 32)then(letB (x0.set (Int.toNat x5) ((rd (τ:=Y3) x0 x5).1,((((rd (τ:=Y3) x0 x5).2.1.1).set (Int.toNat x6) x1),(rd (τ:=Y3) x0 x5).2.1.2),(rd (τ:=Y3) x0 x5).2.2)) fun r3=>rG.b r3 (IntKind.wrap .i64 (x1+1)) x5 (IntKind.wrap .i64 (x6+1)))else none)else none)else(bif (ao x5 (x0.length))then(letB (x0.set (Int.toNat x5) ((rd (τ:=Y3) x0 x5).1,((rd (τ:=Y3) x0 x5).2.1.1,x1),(rd (τ:=Y3) x0 x5).2.2)) fun r1=>bif (ao x5 (r1.length))then((Ap ((rd (τ:=Y3) r1 x5).2.2.1) (IntKind.wrap .i64 (x1+1))).bind fun r2=>bif (ao x5 (r1.length))then(bif (decide (x5=x5))then rG.a (r1.set (Int.toNat x5) ((rd (τ:=Y3) r1 x5).1,(rd (τ:=Y3) r1 x5).2.1,r2.2,r2.1)) (IntKind.wrap .i64 (r2.1+1)) (IntKind.wrap .i64 (x5+1))else none)else none)else none)else none):=
 (ak cfg 74 _ _ _).trans (by kernel_rfl)
noncomputable def DR (a0:List D0) (a1:Int):Option (Int×List D0):=au cfg 75 [.v (.list Y1 a0),.v (.int .i64 a1)]
noncomputable def DR.a (x0:List D0) (x1 x5:Int):Option (Int×List D0):=LA 75 Tryz.f75 [1,0,1,0] ⟨56,af [(0,.v (.own 64)),vI 1 x1,vI 5 x5],ai [(64,.rows 81 Y1 .no x0)]⟩
theorem N8 (a0:List D0) (a1:Int):DR a0 a1=DR.a a0 a1 0:=
 (aa cfg 75 _).trans (by kernel_rfl)
theorem DR.a_eq (x0:List D0) (x1 x5:Int):DR.a x0 x1 x5=bif (decide (x5< (x0.length:Int)))then((qJ x1).bind fun r1=>bif (ao x5 (x0.length))then(bif (ao x5 ((x0.set (Int.toNat x5) (r1,(rd (τ:=Y1) x0 x5).2)).length))then(letB ((x0.set (Int.toNat x5) (r1,(rd (τ:=Y1) x0 x5).2)).set (Int.toNat x5) ((rd (τ:=Y1) (x0.set (Int.toNat x5) (r1,(rd (τ:=Y1) x0 x5).2)) x5).1,(IntKind.wrap .i64 (x1+1)),(rd (τ:=Y1) (x0.set (Int.toNat x5) (r1,(rd (τ:=Y1) x0 x5).2)) x5).2.2)) fun r2=>bif (ao x5 (r2.length))then(letB (r2.set (Int.toNat x5) ((rd (τ:=Y1) r2 x5).1,(rd (τ:=Y1) r2 x5).2.1,(IntKind.wrap .i64 ((IntKind.wrap .i64 (x1+1))+1)),(rd (τ:=Y1) r2 x5).2.2.2)) fun r3=>bif (ao x5 (r3.length))then(letB (r3.set (Int.toNat x5) ((rd (τ:=Y1) r3 x5).1,(rd (τ:=Y1) r3 x5).2.1,(rd (τ:=Y1) r3 x5).2.2.1,(IntKind.wrap .i64 ((IntKind.wrap .i64 ((IntKind.wrap .i64 (x1+1))+1))+1)),(rd (τ:=Y1) r3 x5).2.2.2.2)) fun r4=>bif (ao x5 (r4.length))then(letB (r4.set (Int.toNat x5) ((rd (τ:=Y1) r4 x5).1,(rd (τ:=Y1) r4 x5).2.1,(rd (τ:=Y1) r4 x5).2.2.1,(rd (τ:=Y1) r4 x5).2.2.2.1,(IntKind.wrap .i64 ((IntKind.wrap .i64 ((IntKind.wrap .i64 ((IntKind.wrap .i64 (x1+1))+1))+1))+1)),(rd (τ:=Y1) r4 x5).2.2.2.2.2)) fun r5=>bif (ao x5 (r5.length))then(letB (r5.set (Int.toNat x5) ((rd (τ:=Y1) r5 x5).1,(rd (τ:=Y1) r5 x5).2.1,(rd (τ:=Y1) r5 x5).2.2.1,(rd (τ:=Y1) r5 x5).2.2.2.1,(rd (τ:=Y1) r5 x5).2.2.2.2.1,(IntKind.wrap .i64 ((IntKind.wrap .i64 ((IntKind.wrap .i64 ((IntKind.wrap .i64 ((IntKind.wrap .i64 (x1+1))+1))+1))+1))+1)))) fun r6=>DR.a r6 (IntKind.wrap .i64 ((IntKind.wrap .i64 ((IntKind.wrap .i64 ((IntKind.wrap .i64 ((IntKind.wrap .i64 ((IntKind.wrap .i64 (x1+1))+1))+1))+1))+1))+1)) (IntKind.wrap .i64 (x5+1)))else none)else none)else none)else none)else none)else none)else some (x1,x0):=
 (ak cfg 75 _ _ _).trans (by kernel_rfl)
noncomputable def DS (a0:List (Int×Int×Int)) (a1:Int):Option R6:=au cfg 76 [.v (.list aV a0),.v (.int .i64 a1)]
noncomputable def DS.a (x0:List (Int×Int×Int)) (x1 x5:Int):Option R6:=LA 76 Tryz.f76 [1,0,1,0] ⟨34,af [(0,.v (.own 64)),vI 1 x1,vI 5 x5],ai [(64,.rows 207 aV .no x0)]⟩
theorem N9 (a0:List (Int×Int×Int)) (a1:Int):DS a0 a1=DS.a a0 a1 0:=
 (aa cfg 76 _).trans (by kernel_rfl)
theorem DS.a_eq (x0:List (Int×Int×Int)) (x1 x5:Int):DS.a x0 x1 x5=bif (decide (x5< (x0.length:Int)))then(bif (ao x5 (x0.length))then(bif (ao x5 ((x0.set (Int.toNat x5) (x1,(rd (τ:=aV) x0 x5).2)).length))then(letB ((x0.set (Int.toNat x5) (x1,(rd (τ:=aV) x0 x5).2)).set (Int.toNat x5) ((rd (τ:=aV) (x0.set (Int.toNat x5) (x1,(rd (τ:=aV) x0 x5).2)) x5).1,(IntKind.wrap .i64 (x1+1)),(rd (τ:=aV) (x0.set (Int.toNat x5) (x1,(rd (τ:=aV) x0 x5).2)) x5).2.2)) fun r1=>bif (ao x5 (r1.length))then(letB (r1.set (Int.toNat x5) ((rd (τ:=aV) r1 x5).1,(rd (τ:=aV) r1 x5).2.1,(IntKind.wrap .i64 ((IntKind.wrap .i64 (x1+1))+1)))) fun r2=>DS.a r2 (IntKind.wrap .i64 ((IntKind.wrap .i64 ((IntKind.wrap .i64 (x1+1))+1))+1)) (IntKind.wrap .i64 (x5+1)))else none)else none)else none)else some (x1,x0):=
 (ak cfg 76 _ _ _).trans (by kernel_rfl)
noncomputable def QX (a0:D5) (a1:Int):Option SC:=au cfg 34 [.agg [.list Y0 a0.1,.list Y3 a0.2.1,.list Y1 a0.2.2.1,.list aV a0.2.2.2],.v (.int .i64 a1)]
theorem Oa (a0:D5) (a1:Int):QX a0 a1=(QW a0.1 a1).bind fun r1=>(rG a0.2.1 r1.1).bind fun r2=>(DR a0.2.2.1 r2.1).bind fun r3=>(DS a0.2.2.2 r3.1).bind fun r4=>some (r4.1,r1.2,r2.2,r3.2,r4.2):=
 (aa cfg 34 _).trans (by kernel_rfl)
noncomputable def uu (a0:List ByteArray) (a1:Int):Option R7:=au cfg 13 [.v (.list .str a0),.v (.int .i64 a1)]
noncomputable def uu.a (x0:List ByteArray) (x1 x5:Int):Option R7:=LA 13 Tryz.f13 [1,0,1,0] ⟨20,af [(0,.v (.own 64)),vI 1 x1,vI 5 x5],ai [(64,.rows 9 .str .no x0)]⟩
theorem GZ (a0:List ByteArray) (a1:Int):uu a0 a1=uu.a a0 a1 0:=
 (aa cfg 13 _).trans (by kernel_rfl)
theorem uu.a_eq (x0:List ByteArray) (x1 x5:Int):uu.a x0 x1 x5=bif (decide (x5< (x0.length:Int)))then((qJ x1).bind fun r1=>bif (ao x5 (x0.length))then uu.a (x0.set (Int.toNat x5) r1) (IntKind.wrap .i64 (x1+1)) (IntKind.wrap .i64 (x5+1))else none)else some (x1,x0):=
 (ak cfg 13 _ _ _).trans (by kernel_rfl)
noncomputable def DT (a0:List D6) (a1:Int):Option (Int×List D6):=au cfg 77 [.v (.list Y5 a0),.v (.int .i64 a1)]
noncomputable def DT.a (x0:List D6) (x1 x5:Int):Option (Int×List D6):=LA 77 Tryz.f77 [1,0,1,0] ⟨45,af [(0,.v (.own 64)),vI 1 x1,vI 5 x5],ai [(64,.rows 106 Y5 .no x0)]⟩
theorem Ob (a0:List D6) (a1:Int):DT a0 a1=DT.a a0 a1 0:=
 (aa cfg 77 _).trans (by kernel_rfl)
theorem DT.a_eq (x0:List D6) (x1 x5:Int):DT.a x0 x1 x5=bif (decide (x5< (x0.length:Int)))then((qJ x1).bind fun r1=>bif (ao x5 (x0.length))then(bif (ao x5 ((x0.set (Int.toNat x5) (r1,(rd (τ:=Y5) x0 x5).2)).length))then(letB ((x0.set (Int.toNat x5) (r1,(rd (τ:=Y5) x0 x5).2)).set (Int.toNat x5) ((rd (τ:=Y5) (x0.set (Int.toNat x5) (r1,(rd (τ:=Y5) x0 x5).2)) x5).1,(decide (((IntKind.wrap .i64 (x1+1)).tmod 3)=0)),(rd (τ:=Y5) (x0.set (Int.toNat x5) (r1,(rd (τ:=Y5) x0 x5).2)) x5).2.2)) fun r2=>bif (ao x5 (r2.length))then(letB (r2.set (Int.toNat x5) ((rd (τ:=Y5) r2 x5).1,(rd (τ:=Y5) r2 x5).2.1,(IntKind.wrap .i64 ((IntKind.wrap .i64 (x1+1))+1)),(rd (τ:=Y5) r2 x5).2.2.2)) fun r3=>(qJ (IntKind.wrap .i64 ((IntKind.wrap .i64 ((IntKind.wrap .i64 (x1+1))+1))+1))).bind fun r4=>bif (ao x5 (r3.length))then(letB (r3.set (Int.toNat x5) ((rd (τ:=Y5) r3 x5).1,(rd (τ:=Y5) r3 x5).2.1,(rd (τ:=Y5) r3 x5).2.2.1,r4)) fun r5=>DT.a r5 (IntKind.wrap .i64 ((IntKind.wrap .i64 ((IntKind.wrap .i64 ((IntKind.wrap .i64 (x1+1))+1))+1))+1)) (IntKind.wrap .i64 (x5+1)))else none)else none)else none)else none)else some (x1,x0):=
 (ak cfg 77 _ _ _).trans (by kernel_rfl)
noncomputable def DU (a0:List D7) (a1:Int):Option (Int×List D7):=au cfg 78 [.v (.list (.pair .str .str) a0),.v (.int .i64 a1)]
noncomputable def DU.a (x0:List D7) (x1 x5:Int):Option (Int×List D7):=LA 78 Tryz.f78 [1,0,1,0] ⟨29,af [(0,.v (.own 64)),vI 1 x1,vI 5 x5],ai [(64,.rows 108 (.pair .str .str) .no x0)]⟩
theorem Oc (a0:List D7) (a1:Int):DU a0 a1=DU.a a0 a1 0:=
 (aa cfg 78 _).trans (by kernel_rfl)
theorem DU.a_eq (x0:List D7) (x1 x5:Int):DU.a x0 x1 x5=bif (decide (x5< (x0.length:Int)))then((qJ x1).bind fun r1=>bif (ao x5 (x0.length))then((qJ (IntKind.wrap .i64 (x1+1))).bind fun r2=>bif (ao x5 ((x0.set (Int.toNat x5) (r1,(rd (τ:=(.pair .str .str)) x0 x5).2)).length))then(letB ((x0.set (Int.toNat x5) (r1,(rd (τ:=(.pair .str .str)) x0 x5).2)).set (Int.toNat x5) ((rd (τ:=(.pair .str .str)) (x0.set (Int.toNat x5) (r1,(rd (τ:=(.pair .str .str)) x0 x5).2)) x5).1,r2)) fun r3=>DU.a r3 (IntKind.wrap .i64 ((IntKind.wrap .i64 (x1+1))+1)) (IntKind.wrap .i64 (x5+1)))else none)else none)else some (x1,x0):=
 (ak cfg 78 _ _ _).trans (by kernel_rfl)
noncomputable def DV (a0:List D8) (a1:Int):Option (Int×List D8):=au cfg 79 [.v (.list Y6 a0),.v (.int .i64 a1)]
noncomputable def DV.a (x0:List D8) (x1 x5:Int):Option (Int×List D8):=LA 79 Tryz.f79 [1,0,1,0] ⟨49,af [(0,.v (.own 64)),vI 1 x1,vI 5 x5],ai [(64,.rows 229 Y6 .no x0)]⟩
theorem Od (a0:List D8) (a1:Int):DV a0 a1=DV.a a0 a1 0:=
 (aa cfg 79 _).trans (by kernel_rfl)
theorem DV.a_eq (x0:List D8) (x1 x5:Int):DV.a x0 x1 x5=bif (decide (x5< (x0.length:Int)))then(bif (ao x5 (x0.length))then(bif (ao x5 ((x0.set (Int.toNat x5) (x1,(rd (τ:=Y6) x0 x5).2)).length))then(letB ((x0.set (Int.toNat x5) (x1,(rd (τ:=Y6) x0 x5).2)).set (Int.toNat x5) ((rd (τ:=Y6) (x0.set (Int.toNat x5) (x1,(rd (τ:=Y6) x0 x5).2)) x5).1,(IntKind.wrap .i64 (x1+1)),(rd (τ:=Y6) (x0.set (Int.toNat x5) (x1,(rd (τ:=Y6) x0 x5).2)) x5).2.2)) fun r1=>bif (ao x5 (r1.length))then(letB (r1.set (Int.toNat x5) ((rd (τ:=Y6) r1 x5).1,(rd (τ:=Y6) r1 x5).2.1,(IntKind.wrap .i64 ((IntKind.wrap .i64 (x1+1))+1)),(rd (τ:=Y6) r1 x5).2.2.2)) fun r2=>(qJ (IntKind.wrap .i64 ((IntKind.wrap .i64 ((IntKind.wrap .i64 (x1+1))+1))+1))).bind fun r3=>bif (ao x5 (r2.length))then(letB (r2.set (Int.toNat x5) ((rd (τ:=Y6) r2 x5).1,(rd (τ:=Y6) r2 x5).2.1,(rd (τ:=Y6) r2 x5).2.2.1,r3,(rd (τ:=Y6) r2 x5).2.2.2.2)) fun r4=>bif (ao x5 (r4.length))then(letB (r4.set (Int.toNat x5) ((rd (τ:=Y6) r4 x5).1,(rd (τ:=Y6) r4 x5).2.1,(rd (τ:=Y6) r4 x5).2.2.1,(rd (τ:=Y6) r4 x5).2.2.2.1,(IntKind.wrap .i64 ((IntKind.wrap .i64 ((IntKind.wrap .i64 ((IntKind.wrap .i64 (x1+1))+1))+1))+1)))) fun r5=>DV.a r5 (IntKind.wrap .i64 ((IntKind.wrap .i64 ((IntKind.wrap .i64 ((IntKind.wrap .i64 ((IntKind.wrap .i64 (x1+1))+1))+1))+1))+1)) (IntKind.wrap .i64 (x5+1)))else none)else none)else none)else none)else none)else some (x1,x0):=
 (ak cfg 79 _ _ _).trans (by kernel_rfl)
noncomputable def DW (a0:List (Int×Bool)) (a1:Int):Option R8:=au cfg 80 [.v (.list (.pair (.int .i64) .bool) a0),.v (.int .i64 a1)]
noncomputable def DW.a (x0:List (Int×Bool)) (x1 x5:Int):Option R8:=LA 80 Tryz.f80 [1,0,1,0] ⟨29,af [(0,.v (.own 64)),vI 1 x1,vI 5 x5],ai [(64,.rows 231 (.pair (.int .i64) .bool) .no x0)]⟩
theorem Oe (a0:List (Int×Bool)) (a1:Int):DW a0 a1=DW.a a0 a1 0:=
 (aa cfg 80 _).trans (by kernel_rfl)
theorem DW.a_eq (x0:List (Int×Bool)) (x1 x5:Int):DW.a x0 x1 x5=bif (decide (x5< (x0.length:Int)))then(bif (ao x5 (x0.length))then(bif (ao x5 ((x0.set (Int.toNat x5) (x1,(rd (τ:=(.pair (.int .i64) .bool)) x0 x5).2)).length))then(letB ((x0.set (Int.toNat x5) (x1,(rd (τ:=(.pair (.int .i64) .bool)) x0 x5).2)).set (Int.toNat x5) ((rd (τ:=(.pair (.int .i64) .bool)) (x0.set (Int.toNat x5) (x1,(rd (τ:=(.pair (.int .i64) .bool)) x0 x5).2)) x5).1,(decide (((IntKind.wrap .i64 (x1+1)).tmod 3)=0)))) fun r1=>DW.a r1 (IntKind.wrap .i64 ((IntKind.wrap .i64 (x1+1))+1)) (IntKind.wrap .i64 (x5+1)))else none)else none)else some (x1,x0):=
 (ak cfg 80 _ _ _).trans (by kernel_rfl)
noncomputable def DX (a0:List (Int×Int)) (a1:Int):Option R9:=au cfg 82 [.v (.list Y9 a0),.v (.int .i64 a1)]
noncomputable def DX.a (x0:List (Int×Int)) (x1 x5:Int):Option R9:=LA 82 Tryz.f82 [1,0,1,0] ⟨27,af [(0,.v (.own 64)),vI 1 x1,vI 5 x5],ai [(64,.rows 217 Y9 .no x0)]⟩
theorem Of (a0:List (Int×Int)) (a1:Int):DX a0 a1=DX.a a0 a1 0:=
 (aa cfg 82 _).trans (by kernel_rfl)
theorem DX.a_eq (x0:List (Int×Int)) (x1 x5:Int):DX.a x0 x1 x5=bif (decide (x5< (x0.length:Int)))then(bif (ao x5 (x0.length))then(bif (ao x5 ((x0.set (Int.toNat x5) (x1,(rd (τ:=Y9) x0 x5).2)).length))then(letB ((x0.set (Int.toNat x5) (x1,(rd (τ:=Y9) x0 x5).2)).set (Int.toNat x5) ((rd (τ:=Y9) (x0.set (Int.toNat x5) (x1,(rd (τ:=Y9) x0 x5).2)) x5).1,(IntKind.wrap .i64 (x1+1)))) fun r1=>DX.a r1 (IntKind.wrap .i64 ((IntKind.wrap .i64 (x1+1))+1)) (IntKind.wrap .i64 (x5+1)))else none)else none)else some (x1,x0):=
 (ak cfg 82 _ _ _).trans (by kernel_rfl)
noncomputable def DY (a0:List cV) (a1:Int):Option (Int×List cV):=au cfg 35 [.v (.list bl a0),.v (.int .i64 a1)]
noncomputable def DY.a (x0:List cV) (x1 x5:Int):Option (Int×List cV):=LA 35 Tryz.f35 [1,0,1,0] ⟨101,af [(0,.v (.own 64)),vI 1 x1,vI 5 x5],ai [(64,.rows 104 bl (.pair (.pair .no (.pair .no (.pair (.own 106 .no) (.pair (.own 108 .no) (.pair (.own 229 .no) (.own 231 .no)))))) (.pair (.pair (.own 3 .no) (.pair (.own 9 .no) (.pair (.own 3 .no) (.own 9 .no)))) (.own 217 .no))) x0)]⟩
theorem Og (a0:List cV) (a1:Int):DY a0 a1=DY.a a0 a1 0:=
 (aa cfg 35 _).trans (by kernel_rfl)
theorem DY.a_eq (x0:List cV) (x1 x5:Int):DY.a x0 x1 x5=bif (decide (x5< (x0.length:Int)))then((qJ x1).bind fun r1=>bif (ao x5 (x0.length))then(letB (x0.set (Int.toNat x5) ((r1,(rd (τ:=bl) x0 x5).1.2),(rd (τ:=bl) x0 x5).2)) fun r2=>bif (ao x5 (r2.length))then(letB (r2.set (Int.toNat x5) (((rd (τ:=bl) r2 x5).1.1,(IntKind.wrap .i64 (x1+1)),(rd (τ:=bl) r2 x5).1.2.2),(rd (τ:=bl) r2 x5).2)) fun r3=>bif (ao x5 (r3.length))then((DT ((rd (τ:=bl) r3 x5).1.2.2.1) (IntKind.wrap .i64 ((IntKind.wrap .i64 (x1+1))+1))).bind fun r4=>bif (ao x5 (r3.length))then(bif (decide (x5=x5))then((DU ((rd (τ:=bl) r3 x5).1.2.2.2.1) r4.1).bind fun r5=>bif (ao x5 (r3.length))then(bif (decide (x5=x5))then((DV ((rd (τ:=bl) r3 x5).1.2.2.2.2.1) r5.1).bind fun r6=>bif (ao x5 (r3.length))then(bif (decide (x5=x5))then((DW ((rd (τ:=bl) r3 x5).1.2.2.2.2.2) r6.1).bind fun r7=>bif (ao x5 (r3.length))then(bif (decide (x5=x5))then((Ap ((rd (τ:=bl) r3 x5).2.1.1) r7.1).bind fun r8=>bif (ao x5 (r3.length))then(bif (decide (x5=x5))then((uu ((rd (τ:=bl) r3 x5).2.1.2.1) r8.1).bind fun r9=>bif (ao x5 (r3.length))then(bif (decide (x5=x5))then((Ap ((rd (τ:=bl) r3 x5).2.1.2.2.1) r9.1).bind fun r10=>bif (ao x5 (r3.length))then(bif (decide (x5=x5))then((uu ((rd (τ:=bl) r3 x5).2.1.2.2.2) r10.1).bind fun r11=>bif (ao x5 (r3.length))then(bif (decide (x5=x5))then((DX ((rd (τ:=bl) r3 x5).2.2) r11.1).bind fun r12=>DY.a (r3.set (Int.toNat x5) (((rd (τ:=bl) r3 x5).1.1,(rd (τ:=bl) r3 x5).1.2.1,r4.2,r5.2,r6.2,r7.2),(r8.2,r9.2,r10.2,r11.2),r12.2)) r12.1 (IntKind.wrap .i64 (x5+1)))else none)else none)else none)else none)else none)else none)else none)else none)else none)else none)else none)else none)else none)else none)else none)else none)else none)else none)else none)else some (x1,x0):=
 (ak cfg 35 _ _ _).trans (by kernel_rfl)
noncomputable def PT (a0:mh) (a1:Int):Option SE:=au cfg 12 [.agg [.str a0.1.1,.str a0.1.2.1,.list Y4 a0.1.2.2,.list Y0 a0.2.1.1,.list Y3 a0.2.1.2.1,.list Y1 a0.2.1.2.2.1,.list aV a0.2.1.2.2.2,.list bl a0.2.2],.v (.int .i64 a1)]
theorem Oh (a0:mh) (a1:Int):PT a0 a1=(QV a0.1 a1).bind fun r1=>(QX a0.2.1 r1.1).bind fun r2=>(DY a0.2.2 r2.1).bind fun r3=>some (r3.1,((),(),r1.2.2.2),r2.2,r3.2):=
 (aa cfg 12 _).trans (by kernel_rfl)
noncomputable def Aq (a0:List ByteArray) (a1:Int):Option Int:=au cfg 14 [.v (.list .str a0),.v (.int .i64 a1)]
noncomputable def Aq.a (x0:List ByteArray) (x1 x5:Int):Option Int:=LA 14 Tryz.f14 [1,0,1,0] ⟨22,af [vL 0 .str x0,vI 1 x1,vI 5 x5],ai []⟩
theorem Oi (a0:List ByteArray) (a1:Int):Aq a0 a1=Aq.a a0 a1 0:=
 (aa cfg 14 _).trans (by kernel_rfl)
theorem Aq.a_eq (x0:List ByteArray) (x1 x5:Int):Aq.a x0 x1 x5=bif (decide (x5< (x0.length:Int)))then(bif (ao x5 (x0.length))then((qJ x1).bind fun r1=>bif (!bo (rd (τ:= .str) x0 x5) r1)then some (-1)else Aq.a x0 (IntKind.wrap .i64 (x1+1)) (IntKind.wrap .i64 (x5+1)))else none)else some x1:=
 (ak cfg 14 _ _ _).trans (by kernel_rfl)
noncomputable def Ss (a0:mh):Option Bool:=au cfg 3 [.agg [.str a0.1.1,.str a0.1.2.1,.list Y4 a0.1.2.2,.list Y0 a0.2.1.1,.list Y3 a0.2.1.2.1,.list Y1 a0.2.1.2.2.1,.list aV a0.2.1.2.2.2,.list bl a0.2.2]]
theorem Oj (a0:mh):Ss a0=(Zw a0 1048576).bind fun r1=>bif (decide (r1<0))then some true else((GI a0).bind fun r2=>(Rx r2).bind fun r3=>(GI a0).bind fun r4=>(CW r4).bind fun r5=>av (fun kr27=>(qI r5.1 r3.1).bind fun r6=>bif (!r6)then kr27 true else kr27 (!decide (r5.2=r3.2))) fun(r8:Bool)=>bif r8 then some false else((GI a0).bind fun r9=>(PS r4 r9).bind fun r10=>bif (!r10)then some false else((PT r4 1).bind fun r11=>av (fun kr26=>bif (decide (r11.1<0))then kr26 true else((qI r5.1 r3.1).bind fun r12=>bif (!r12)then kr26 true else kr26 (!decide (r5.2=r3.2)))) fun(r16:Bool)=>bif r16 then some false else((uu r5.1 1).bind fun r17=>(Aq r17.2 1).bind fun r18=>bif (decide (r18<0))then some false else(bif (!decide (r18=r17.1))then some false else((GI a0).bind fun r19=>(CW r19).bind fun r20=>av (fun kr25=>(qI r20.1 r3.1).bind fun r21=>bif (!r21)then kr25 true else kr25 (!decide (r20.2=r3.2))) fun(r23:Bool)=>bif r23 then some false else((Aq r17.2 1).bind fun r24=>bif (decide (r24<0))then some false else(bif (!decide (r24=r17.1))then some false else some true)))))))):=
 (aa cfg 3 _).trans (by kernel_rfl)
noncomputable def Su (a0:mh):Option Bool:=au cfg 37 [.agg [.str a0.1.1,.str a0.1.2.1,.list Y4 a0.1.2.2,.list Y0 a0.2.1.1,.list Y3 a0.2.1.2.1,.list Y1 a0.2.1.2.2.1,.list aV a0.2.1.2.2.2,.list bl a0.2.2]]
theorem Ok (a0:mh):Su a0=(PJ a0).bind fun r1=>some r1.2:=
 (aa cfg 37 _).trans (by kernel_rfl)
noncomputable def kO (a0:List cV):Option (List ByteArray):=au cfg 38 [.v (.list bl a0)]
noncomputable def kO.a (x0:List cV) (x3:List ByteArray) (x4:Int):Option (List ByteArray):=LA 38 Tryz.f38 [1,1,0,1,0] ⟨81,af [vL 0 bl x0,(3,.v (.own 416)),vI 4 x4],ai [(416,.rows 9 .str .no x3)]⟩
noncomputable def kO.b (x0:List cV) (x3:List ByteArray) (x4:Int) (x5:D9) (x6:ByteArray) (x7:Int):Option (List ByteArray):=LA 38 Tryz.f38 [1,1,0,1,0,0,1,0,0,1,1,0,1,0] ⟨81,af [vL 0 bl x0,(3,.v (.own 416)),vI 4 x4,vP 5 703,(6,.v (.str x6)),vI 7 x7],ai [(416,.rows 9 .str .no x3),(703,.box [.str x5.1,.int .i64 x5.2.1,.list Y5 x5.2.2.1,.list (.pair .str .str) x5.2.2.2.1,.list Y6 x5.2.2.2.2.1,.list (.pair (.int .i64) .bool) x5.2.2.2.2.2])]⟩
noncomputable def kO.c (x0:List cV) (x3:List ByteArray) (x4:Int) (x5:D9) (x6:ByteArray) (x8:Int):Option (List ByteArray):=LA 38 Tryz.f38 [1,1,0,1,0,0,1,0,0,1,1,1,0,1,0] ⟨81,af [vL 0 bl x0,(3,.v (.own 416)),vI 4 x4,vP 5 703,(6,.v (.str x6)),vI 8 x8],ai [(416,.rows 9 .str .no x3),(703,.box [.str x5.1,.int .i64 x5.2.1,.list Y5 x5.2.2.1,.list (.pair .str .str) x5.2.2.2.1,.list Y6 x5.2.2.2.2.1,.list (.pair (.int .i64) .bool) x5.2.2.2.2.2])]⟩
theorem Ol (a0:List cV):kO a0=kO.a a0 [] 0:=
 (aa cfg 38 _).trans (by kernel_rfl)
theorem kO.a_eq (x0:List cV) (x3:List ByteArray) (x4:Int):kO.a x0 x3 x4=bif (decide (x4< (x0.length:Int)))then(bif (ao x4 (x0.length))then((G6 (IntKind.wrap .i64 (x4+1))).bind fun r1=>bif (decide ((⟨#[112,97,116,99,104,32]⟩:ByteArray).size+r1.size≤9223372036854775807))then(bif (decide (((⟨#[112,97,116,99,104,32]⟩:ByteArray)++r1).size+(⟨#[32]⟩:ByteArray).size≤9223372036854775807))then(bif (decide ((((⟨#[112,97,116,99,104,32]⟩:ByteArray)++r1)++(⟨#[32]⟩:ByteArray)).size+((rd (τ:=bl) x0 x4).1.1).size≤9223372036854775807))then kO.b x0 x3 x4 ((rd (τ:=bl) x0 x4).1) ((((⟨#[112,97,116,99,104,32]⟩:ByteArray)++r1)++(⟨#[32]⟩:ByteArray))++((rd (τ:=bl) x0 x4).1.1)) 0 else none)else none)else none)else none)else some x3:=
 (ak cfg 38 _ _ _).trans (by kernel_rfl)
theorem kO.b_eq (x0:List cV) (x3:List ByteArray) (x4:Int) (x5:D9) (x6:ByteArray) (x7:Int):kO.b x0 x3 x4 x5 x6 x7=bif (decide (x7< (x5.2.2.1.length:Int)))then(bif (ao x7 (x5.2.2.1.length))then(bif (rd (τ:=Y5) x5.2.2.1 x7).2.1 then(bif (ao x7 (x5.2.2.1.length))then(bif (decide ((⟨#[32,114,101,112,108,97,99,101,115,32]⟩:ByteArray).size+((rd (τ:=Y5) x5.2.2.1 x7).1).size≤9223372036854775807))then(bif (decide (x6.size+((⟨#[32,114,101,112,108,97,99,101,115,32]⟩:ByteArray)++((rd (τ:=Y5) x5.2.2.1 x7).1)).size≤9223372036854775807))then kO.b x0 x3 x4 x5 (x6++((⟨#[32,114,101,112,108,97,99,101,115,32]⟩:ByteArray)++((rd (τ:=Y5) x5.2.2.1 x7).1))) (IntKind.wrap .i64 (x7+1))else none)else none)else none)else(bif (ao x7 (x5.2.2.1.length))then(bif (decide ((⟨#[32,97,100,100,115,32]⟩:ByteArray).size+((rd (τ:=Y5) x5.2.2.1 x7).1).size≤9223372036854775807))then(bif (decide (x6.size+((⟨#[32,97,100,100,115,32]⟩:ByteArray)++((rd (τ:=Y5) x5.2.2.1 x7).1)).size≤9223372036854775807))then kO.b x0 x3 x4 x5 (x6++((⟨#[32,97,100,100,115,32]⟩:ByteArray)++((rd (τ:=Y5) x5.2.2.1 x7).1))) (IntKind.wrap .i64 (x7+1))else none)else none)else none))else none)else kO.c x0 x3 x4 x5 x6 0:=
 (ak cfg 38 _ _ _).trans (by kernel_rfl)
theorem kO.c_eq (x0:List cV) (x3:List ByteArray) (x4:Int) (x5:D9) (x6:ByteArray) (x8:Int):kO.c x0 x3 x4 x5 x6 x8=bif (decide (x8< (x5.2.2.2.1.length:Int)))then(bif (ao x8 (x5.2.2.2.1.length))then(bif (decide ((⟨#[32,97,100,100,115,32]⟩:ByteArray).size+((rd (τ:=(.pair .str .str)) x5.2.2.2.1 x8).1).size≤9223372036854775807))then(bif (decide (x6.size+((⟨#[32,97,100,100,115,32]⟩:ByteArray)++((rd (τ:=(.pair .str .str)) x5.2.2.2.1 x8).1)).size≤9223372036854775807))then kO.c x0 x3 x4 x5 (x6++((⟨#[32,97,100,100,115,32]⟩:ByteArray)++((rd (τ:=(.pair .str .str)) x5.2.2.2.1 x8).1))) (IntKind.wrap .i64 (x8+1))else none)else none)else none)else(bif (ar ((x3.length)+([x6].length)) 16)then kO.a x0 (x3++[x6]) (IntKind.wrap .i64 (x4+1))else none):=
 (ak cfg 38 _ _ _).trans (by kernel_rfl)
noncomputable def RX (a0:mh):Option IO:=au cfg 15 [.agg [.str a0.1.1,.str a0.1.2.1,.list Y4 a0.1.2.2,.list Y0 a0.2.1.1,.list Y3 a0.2.1.2.1,.list Y1 a0.2.1.2.2.1,.list aV a0.2.1.2.2.2,.list bl a0.2.2]]
theorem Om (a0:mh):RX a0=(Su a0).bind fun r1=>bif (!r1)then some ([],1)else((kO a0.2.2).bind fun r2=>some (r2,0)):=
 (aa cfg 15 _).trans (by kernel_rfl)
noncomputable def Sw (a0:mh):Option Bool:=au cfg 39 [.agg [.str a0.1.1,.str a0.1.2.1,.list Y4 a0.1.2.2,.list Y0 a0.2.1.1,.list Y3 a0.2.1.2.1,.list Y1 a0.2.1.2.2.1,.list aV a0.2.1.2.2.2,.list bl a0.2.2]]
theorem On (a0:mh):Sw a0=(PR a0).bind fun r1=>some r1.2:=
 (aa cfg 39 _).trans (by kernel_rfl)
noncomputable def ko (a0:mh):Option IO:=au cfg 16 [.agg [.str a0.1.1,.str a0.1.2.1,.list Y4 a0.1.2.2,.list Y0 a0.2.1.1,.list Y3 a0.2.1.2.1,.list Y1 a0.2.1.2.2.1,.list aV a0.2.1.2.2.2,.list bl a0.2.2]]
noncomputable def ko.a (x4:List ByteArray) (x16:List cV) (x17 x18:Int):Option IO:=LA 16 Tryz.f16 [1,1,1,0,1,0] ⟨73,af [(4,.v (.own 544)),vL 16 bl x16,vI 17 x17,vI 18 x18],ai [(544,.rows 9 .str .no x4)]⟩
noncomputable def ko.b (x4:List ByteArray) (x6:cV) (x7:ByteArray) (x16:List cV) (x17 x18:Int) (x34:List D6) (x35 x36:Int):Option IO:=LA 16 Tryz.f16 [1,1,1,0,1,0,0,1,1,0,0,1,1,0,1,0] ⟨73,af [(4,.v (.own 544)),vP 6 831,(7,.v (.str x7)),vL 16 bl x16,vI 17 x17,vI 18 x18,vL 34 Y5 x34,vI 35 x35,vI 36 x36],ai [(544,.rows 9 .str .no x4),(831,.box [.str x6.1.1,.int .i64 x6.1.2.1,.list Y5 x6.1.2.2.1,.list (.pair .str .str) x6.1.2.2.2.1,.list Y6 x6.1.2.2.2.2.1,.list (.pair (.int .i64) .bool) x6.1.2.2.2.2.2,.list (.int .i64) x6.2.1.1,.list .str x6.2.1.2.1,.list (.int .i64) x6.2.1.2.2.1,.list .str x6.2.1.2.2.2,.list Y9 x6.2.2])]⟩
noncomputable def ko.c (x4:List ByteArray) (x7:ByteArray) (x16:List cV) (x17 x18:Int) (x55:List D7) (x56 x57:Int):Option IO:=LA 16 Tryz.f16 [1,1,1,0,1,0,0,1,1,0,0,1,1,1,0,1,0] ⟨73,af [(4,.v (.own 544)),(7,.v (.str x7)),vL 16 bl x16,vI 17 x17,vI 18 x18,vL 55 (.pair .str .str) x55,vI 56 x56,vI 57 x57],ai [(544,.rows 9 .str .no x4)]⟩
theorem Oo (a0:mh):ko a0=(Sw a0).bind fun r1=>bif (!r1)then some ([],1)else ko.a [] a0.2.2 (a0.2.2.length:Int) 0:=
 (aa cfg 16 _).trans (by kernel_rfl)
theorem ko.a_eq (x4:List ByteArray) (x16:List cV) (x17 x18:Int):ko.a x4 x16 x17 x18=bif (decide (x18<x17))then(bif (ao x18 (x16.length))then((QD (IntKind.wrap .i64 (x18+1))).bind fun r2=>bif (decide ((⟨#[112,97,116,99,104,32]⟩:ByteArray).size+r2.size≤9223372036854775807))then(bif (decide (((⟨#[112,97,116,99,104,32]⟩:ByteArray)++r2).size+(⟨#[32]⟩:ByteArray).size≤9223372036854775807))then(bif (decide ((((⟨#[112,97,116,99,104,32]⟩:ByteArray)++r2)++(⟨#[32]⟩:ByteArray)).size+((rd (τ:=bl) x16 x18).1.1).size≤9223372036854775807))then ko.b x4 (rd (τ:=bl) x16 x18) ((((⟨#[112,97,116,99,104,32]⟩:ByteArray)++r2)++(⟨#[32]⟩:ByteArray))++((rd (τ:=bl) x16 x18).1.1)) x16 x17 x18 ((rd (τ:=bl) x16 x18).1.2.2.1) (((rd (τ:=bl) x16 x18).1.2.2.1).length:Int) 0 else none)else none)else none)else none)else some (x4,0):=
 (ak cfg 16 _ _ _).trans (by kernel_rfl)
theorem ko.b_eq (x4:List ByteArray) (x6:cV) (x7:ByteArray) (x16:List cV) (x17 x18:Int) (x34:List D6) (x35 x36:Int):ko.b x4 x6 x7 x16 x17 x18 x34 x35 x36=bif (decide (x36<x35))then(bif (ao x36 (x34.length))then(bif (rd (τ:=Y5) x34 x36).2.1 then(bif (decide ((⟨#[32,114,101,112,108,97,99,101,115,32]⟩:ByteArray).size+((rd (τ:=Y5) x34 x36).1).size≤9223372036854775807))then(bif (decide (x7.size+((⟨#[32,114,101,112,108,97,99,101,115,32]⟩:ByteArray)++((rd (τ:=Y5) x34 x36).1)).size≤9223372036854775807))then ko.b x4 x6 (x7++((⟨#[32,114,101,112,108,97,99,101,115,32]⟩:ByteArray)++((rd (τ:=Y5) x34 x36).1))) x16 x17 x18 x34 x35 (IntKind.wrap .i64 (x36+1))else none)else none)else(bif (decide ((⟨#[32,97,100,100,115,32]⟩:ByteArray).size+((rd (τ:=Y5) x34 x36).1).size≤9223372036854775807))then(bif (decide (x7.size+((⟨#[32,97,100,100,115,32]⟩:ByteArray)++((rd (τ:=Y5) x34 x36).1)).size≤9223372036854775807))then ko.b x4 x6 (x7++((⟨#[32,97,100,100,115,32]⟩:ByteArray)++((rd (τ:=Y5) x34 x36).1))) x16 x17 x18 x34 x35 (IntKind.wrap .i64 (x36+1))else none)else none))else none)else ko.c x4 x7 x16 x17 x18 x6.1.2.2.2.1 (x6.1.2.2.2.1.length:Int) 0:=
 (ak cfg 16 _ _ _).trans (by kernel_rfl)
theorem ko.c_eq (x4:List ByteArray) (x7:ByteArray) (x16:List cV) (x17 x18:Int) (x55:List D7) (x56 x57:Int):ko.c x4 x7 x16 x17 x18 x55 x56 x57=bif (decide (x57<x56))then(bif (ao x57 (x55.length))then(bif (decide ((⟨#[32,97,100,100,115,32]⟩:ByteArray).size+((rd (τ:=(.pair .str .str)) x55 x57).1).size≤9223372036854775807))then(bif (decide (x7.size+((⟨#[32,97,100,100,115,32]⟩:ByteArray)++((rd (τ:=(.pair .str .str)) x55 x57).1)).size≤9223372036854775807))then ko.c x4 (x7++((⟨#[32,97,100,100,115,32]⟩:ByteArray)++((rd (τ:=(.pair .str .str)) x55 x57).1))) x16 x17 x18 x55 x56 (IntKind.wrap .i64 (x57+1))else none)else none)else none)else(bif (ar ((x4.length)+([x7].length)) 16)then ko.a (x4++[x7]) x16 x17 (IntKind.wrap .i64 (x18+1))else none):=
 (ak cfg 16 _ _ _).trans (by kernel_rfl)
noncomputable def Sx (a0:mh):Option Bool:=au cfg 4 [.agg [.str a0.1.1,.str a0.1.2.1,.list Y4 a0.1.2.2,.list Y0 a0.2.1.1,.list Y3 a0.2.1.2.1,.list Y1 a0.2.1.2.2.1,.list aV a0.2.1.2.2.2,.list bl a0.2.2]]
theorem Oq (a0:mh):Sx a0=(Zw a0 1048576).bind fun r1=>bif (decide (r1<0))then some true else((GI a0).bind fun r2=>(RX r2).bind fun r3=>(GI a0).bind fun r4=>(ko r4).bind fun r5=>av (fun kr27=>(qI r5.1 r3.1).bind fun r6=>bif (!r6)then kr27 true else kr27 (!decide (r5.2=r3.2))) fun(r8:Bool)=>bif r8 then some false else((GI a0).bind fun r9=>(PS r4 r9).bind fun r10=>bif (!r10)then some false else((PT r4 1).bind fun r11=>av (fun kr26=>bif (decide (r11.1<0))then kr26 true else((qI r5.1 r3.1).bind fun r12=>bif (!r12)then kr26 true else kr26 (!decide (r5.2=r3.2)))) fun(r16:Bool)=>bif r16 then some false else((uu r5.1 1).bind fun r17=>(Aq r17.2 1).bind fun r18=>bif (decide (r18<0))then some false else(bif (!decide (r18=r17.1))then some false else((GI a0).bind fun r19=>(ko r19).bind fun r20=>av (fun kr25=>(qI r20.1 r3.1).bind fun r21=>bif (!r21)then kr25 true else kr25 (!decide (r20.2=r3.2))) fun(r23:Bool)=>bif r23 then some false else((Aq r17.2 1).bind fun r24=>bif (decide (r24<0))then some false else(bif (!decide (r24=r17.1))then some false else some true)))))))):=
 (aa cfg 4 _).trans (by kernel_rfl)
end Go.Proofs.YtiahcgampoehdaaGreatDoor.S
