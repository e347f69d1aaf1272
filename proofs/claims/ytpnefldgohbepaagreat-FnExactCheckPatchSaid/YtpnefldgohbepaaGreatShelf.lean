import Derived.Shelf.Sort.Plain
import Derived.Shelf.Strings.Repeat
import Derived.Ground.Names2Prog
import Derived.Shelf.Slices.CompactI
import Derived.Shelf.Slices.In.SortNone
import Derived.Ground.SlgnProg
import Derived.Shelf.SlicesE.Clone
import Derived.Test.YtpnefldgohbepaaGreatProg
namespace Go.Proofs
open Go.Shelf
def Tryz.lays189_ren : Go.Shelf.Ren:=⟨fun|189=>266|125=>332|257=>331|128=>378|129=>379|294=>369|295=>370|296=>371|297=>372|298=>373|299=>374|216=>375|300=>376|301=>377|328=>396|329=>397|330=>398|331=>399|332=>400|215=>362|343=>410|n=>n,fun|28=>86|3=>3|46=>268|0=>0|51=>438|53=>266|4=>4|183=>431|182=>430|131=>318|5=>5|9=>9|218=>453|222=>457|228=>465|229=>230|n=>n,fun|n=>n⟩
theorem Tryz.lays189 : Go.Proofs.Lays.n189 Tryz.prog Tryz.lays189_ren:={
 mixed:=by kernel_rfl
 f125:=Tryz.func332.trans (congrArg some (by kernel_rfl))
 f128:=Tryz.func378.trans (congrArg some (by kernel_rfl))
 f129:=Tryz.func379.trans (congrArg some (by kernel_rfl))
 f189:=Tryz.func266.trans (congrArg some (by kernel_rfl))
 f215:=Tryz.func362.trans (congrArg some (by kernel_rfl))
 f216:=Tryz.func375.trans (congrArg some (by kernel_rfl))
 f257:=Tryz.func331.trans (congrArg some (by kernel_rfl))
 f294:=Tryz.func369.trans (congrArg some (by kernel_rfl))
 f295:=Tryz.func370.trans (congrArg some (by kernel_rfl))
 f296:=Tryz.func371.trans (congrArg some (by kernel_rfl))
 f297:=Tryz.func372.trans (congrArg some (by kernel_rfl))
 f298:=Tryz.func373.trans (congrArg some (by kernel_rfl))
 f299:=Tryz.func374.trans (congrArg some (by kernel_rfl))
 f300:=Tryz.func376.trans (congrArg some (by kernel_rfl))
 f301:=Tryz.func377.trans (congrArg some (by kernel_rfl))
 f328:=Tryz.func396.trans (congrArg some (by kernel_rfl))
 f329:=Tryz.func397.trans (congrArg some (by kernel_rfl))
 f330:=Tryz.func398.trans (congrArg some (by kernel_rfl))
 f331:=Tryz.func399.trans (congrArg some (by kernel_rfl))
 f332:=Tryz.func400.trans (congrArg some (by kernel_rfl))
 f343:=Tryz.func410.trans (congrArg some (by kernel_rfl))
 t0:=Tryz.underlying0
 a0:=Tryz.isAgg0
 z0:=Tryz.sizeOf0
 v0:=Tryz.zeroValue0
 t3:=Tryz.underlying3
 a3:=Tryz.isAgg3
 z3:=Tryz.sizeOf3
 v3:=Tryz.zeroValue3
 t4:=Tryz.underlying4
 a4:=Tryz.isAgg4
 z4:=Tryz.sizeOf4
 v4:=Tryz.zeroValue4
 t5:=Tryz.underlying5
 a5:=Tryz.isAgg5
 z5:=Tryz.sizeOf5
 v5:=Tryz.zeroValue5
 t9:=Tryz.underlying9
 a9:=Tryz.isAgg9
 z9:=Tryz.sizeOf9
 v9:=Tryz.zeroValue9
 t28:=Tryz.underlying86
 a28:=Tryz.isAgg86
 z28:=Tryz.sizeOf86
 v28:=Tryz.zeroValue86
 t46:=Tryz.underlying268
 a46:=Tryz.isAgg268
 z46:=Tryz.sizeOf268
 v46:=Tryz.zeroValue268
 t51:=Tryz.underlying438
 a51:=Tryz.isAgg438
 z51:=Tryz.sizeOf438
 v51:=Tryz.zeroValue438
 t53:=Tryz.underlying266
 a53:=Tryz.isAgg266
 z53:=Tryz.sizeOf266
 v53:=Tryz.zeroValue266
 t131:=Tryz.underlying318
 a131:=Tryz.isAgg318
 z131:=Tryz.sizeOf318
 v131:=Tryz.zeroValue318
 t182:=Tryz.underlying430
 a182:=Tryz.isAgg430
 z182:=Tryz.sizeOf430
 v182:=Tryz.zeroValue430
 t183:=Tryz.underlying431
 a183:=Tryz.isAgg431
 z183:=Tryz.sizeOf431
 v183:=Tryz.zeroValue431
 t218:=Tryz.underlying453
 a218:=Tryz.isAgg453
 z218:=Tryz.sizeOf453
 v218:=Tryz.zeroValue453
 t222:=Tryz.underlying457
 a222:=Tryz.isAgg457
 z222:=Tryz.sizeOf457
 v222:=Tryz.zeroValue457
 t228:=Tryz.underlying465
 a228:=Tryz.isAgg465
 z228:=Tryz.sizeOf465
 v228:=Tryz.zeroValue465
 t229:=Tryz.underlying230
 a229:=Tryz.isAgg230
 z229:=Tryz.sizeOf230
 v229:=Tryz.zeroValue230 }
open Go.Sort Go.RowKit in
theorem Tryz.slices_Sort_int (blk off cap : Nat) (zs : List Int) (w : World) (hH : Holds (Value.int .i64) w blk off zs.toArray) (hblk : blk < w.heap.size) (hsz : zs.length < 4611686018427387904) :
 Calls Tryz.prog 266 #[.slice (some ⟨blk,off,none⟩) zs.length cap] w fun e w' =>
 e = .returned (.tuple #[])∧∃ n os,w' = grow (putRow (Value.int .i64) (Sort.ahead w n) blk off (zs.mergeSort fun x y=>decide (x ≤ y)).toArray) os:=Any.slices_Sort_int Tryz.lays189 blk off cap zs w hH hblk hsz
def Tryz.lays105_ren : Go.Shelf.Ren:=⟨fun|105=>352|212=>387|99=>324|165=>388|166=>389|170=>390|169=>391|263=>403|264=>404|206=>363|240=>405|241=>406|276=>412|277=>413|n=>n,fun|9=>9|3=>3|4=>4|20=>20|0=>0|46=>268|109=>441|5=>5|72=>445|76=>449|51=>438|146=>460|53=>266|148=>462|70=>443|37=>267|75=>448|127=>464|164=>467|80=>321|n=>n,fun|n=>n⟩
theorem Tryz.lays105 : Go.Proofs.Lays.n105 Tryz.prog Tryz.lays105_ren:={
 mixed:=by kernel_rfl
 f99:=Tryz.func324.trans (congrArg some (by kernel_rfl))
 f105:=Tryz.func352.trans (congrArg some (by kernel_rfl))
 f165:=Tryz.func388.trans (congrArg some (by kernel_rfl))
 f166:=Tryz.func389.trans (congrArg some (by kernel_rfl))
 f169:=Tryz.func391.trans (congrArg some (by kernel_rfl))
 f170:=Tryz.func390.trans (congrArg some (by kernel_rfl))
 f206:=Tryz.func363.trans (congrArg some (by kernel_rfl))
 f212:=Tryz.func387.trans (congrArg some (by kernel_rfl))
 f240:=Tryz.func405.trans (congrArg some (by kernel_rfl))
 f241:=Tryz.func406.trans (congrArg some (by kernel_rfl))
 f263:=Tryz.func403.trans (congrArg some (by kernel_rfl))
 f264:=Tryz.func404.trans (congrArg some (by kernel_rfl))
 f276:=Tryz.func412.trans (congrArg some (by kernel_rfl))
 f277:=Tryz.func413.trans (congrArg some (by kernel_rfl))
 t0:=Tryz.underlying0
 a0:=Tryz.isAgg0
 z0:=Tryz.sizeOf0
 v0:=Tryz.zeroValue0
 t3:=Tryz.underlying3
 a3:=Tryz.isAgg3
 z3:=Tryz.sizeOf3
 v3:=Tryz.zeroValue3
 t4:=Tryz.underlying4
 a4:=Tryz.isAgg4
 z4:=Tryz.sizeOf4
 v4:=Tryz.zeroValue4
 t5:=Tryz.underlying5
 a5:=Tryz.isAgg5
 z5:=Tryz.sizeOf5
 v5:=Tryz.zeroValue5
 t9:=Tryz.underlying9
 a9:=Tryz.isAgg9
 z9:=Tryz.sizeOf9
 v9:=Tryz.zeroValue9
 t20:=Tryz.underlying20
 a20:=Tryz.isAgg20
 z20:=Tryz.sizeOf20
 v20:=Tryz.zeroValue20
 t37:=Tryz.underlying267
 a37:=Tryz.isAgg267
 z37:=Tryz.sizeOf267
 v37:=Tryz.zeroValue267
 t46:=Tryz.underlying268
 a46:=Tryz.isAgg268
 z46:=Tryz.sizeOf268
 v46:=Tryz.zeroValue268
 t51:=Tryz.underlying438
 a51:=Tryz.isAgg438
 z51:=Tryz.sizeOf438
 v51:=Tryz.zeroValue438
 t53:=Tryz.underlying266
 a53:=Tryz.isAgg266
 z53:=Tryz.sizeOf266
 v53:=Tryz.zeroValue266
 t70:=Tryz.underlying443
 a70:=Tryz.isAgg443
 z70:=Tryz.sizeOf443
 v70:=Tryz.zeroValue443
 t72:=Tryz.underlying445
 a72:=Tryz.isAgg445
 z72:=Tryz.sizeOf445
 v72:=Tryz.zeroValue445
 t75:=Tryz.underlying448
 a75:=Tryz.isAgg448
 z75:=Tryz.sizeOf448
 v75:=Tryz.zeroValue448
 t76:=Tryz.underlying449
 a76:=Tryz.isAgg449
 z76:=Tryz.sizeOf449
 v76:=Tryz.zeroValue449
 t109:=Tryz.underlying441
 a109:=Tryz.isAgg441
 z109:=Tryz.sizeOf441
 v109:=Tryz.zeroValue441
 t127:=Tryz.underlying464
 a127:=Tryz.isAgg464
 z127:=Tryz.sizeOf464
 v127:=Tryz.zeroValue464
 t146:=Tryz.underlying460
 a146:=Tryz.isAgg460
 z146:=Tryz.sizeOf460
 v146:=Tryz.zeroValue460
 t148:=Tryz.underlying462
 a148:=Tryz.isAgg462
 z148:=Tryz.sizeOf462
 v148:=Tryz.zeroValue462
 t164:=Tryz.underlying467
 a164:=Tryz.isAgg467
 z164:=Tryz.sizeOf467
 v164:=Tryz.zeroValue467 }
theorem Tryz.Builder_Extra_105 : Builder.Extra Tryz.prog Tryz.lays105_ren:={
 sizeBuilder:=by kernel_rfl
 liesBuilder:=by kernel_rfl
 t5:=Tryz.underlying5
 a5:=Tryz.isAgg5
 z5:=Tryz.sizeOf5
 v5:=Tryz.zeroValue5
 infoByte:=by kernel_rfl
 cellsByte:=by kernel_rfl
 sizeByte:=by kernel_rfl
 neB5:=by decide }
open Go.RowKit Go.Lib in
theorem Tryz.strings_Repeat (s : ByteArray) (c : Nat) (w : World) (hc : c ≤ 9223372036854775807) (hlen : s.size * c ≤ 140737488355328) :
 Calls Tryz.prog 352 #[.string s,.int .i64 c] w fun e w'=>e = .returned (.string ⟨(Lib.repeatL s.data.toList c).toArray⟩)∧Below w.heap.size w w':=Any.strings_Repeat Tryz.lays105 Tryz.Builder_Extra_105 s c w hc hlen
def Tryz.laysNm220_ren : Go.Shelf.Ren:=⟨fun|20=>267|n=>n,fun|22=>86|3=>3|4=>4|0=>0|n=>n,fun|n=>n⟩
theorem Tryz.laysNm220 : Go.Proofs.Lays2.n20 Tryz.prog Tryz.laysNm220_ren:={
 mixed:=by kernel_rfl
 f20:=Tryz.func267.trans (congrArg some (by kernel_rfl))
 t0:=Tryz.underlying0
 a0:=Tryz.isAgg0
 z0:=Tryz.sizeOf0
 v0:=Tryz.zeroValue0
 t3:=Tryz.underlying3
 a3:=Tryz.isAgg3
 z3:=Tryz.sizeOf3
 v3:=Tryz.zeroValue3
 t4:=Tryz.underlying4
 a4:=Tryz.isAgg4
 z4:=Tryz.sizeOf4
 v4:=Tryz.zeroValue4
 t22:=Tryz.underlying86
 a22:=Tryz.isAgg86
 z22:=Tryz.sizeOf86
 v22:=Tryz.zeroValue86
 i3:=by kernel_rfl }
open Go.RowKit Go.Lib Go.Sort in
theorem Tryz.slices_Compact_int (blk off cap : Nat) (zs : List Int) (w : World) (hH : Holds (Value.int .i64) w blk off zs.toArray) (hsz : zs.length ≤ 9223372036854775807) (hcap : zs.length ≤ cap) :
 Calls Tryz.prog 267 #[.slice (some ⟨blk,off,none⟩) zs.length cap] w fun e w'=>e = .returned (.slice (some ⟨blk,off,none⟩) (Lib.compact zs).length cap)∧∃ q,w' = putRow (Value.int .i64) (Sort.ahead w q) blk off (Lib.compact zs ++ List.replicate (zs.length - (Lib.compact zs).length) 0).toArray:=Any.slices_Compact_int Tryz.laysNm220 blk off cap zs w hH hsz hcap
open Go.RowKit Go.Lib Go.Sort in
theorem Tryz.slices_Compact_int_empty (a : Option Addr) (cap : Nat) (w : World) :
 Calls Tryz.prog 267 #[.slice a 0 cap] w fun e w'=>e = .returned (.slice a 0 cap)∧w' = w:=Any.slices_Compact_int_empty Tryz.laysNm220 a cap w
open Go.RowKit Go.Sort in
theorem Tryz.slices_Sort_int_none (p : Option Addr) (cap : Nat) (w : World) :
 Calls Tryz.prog 266 #[.slice p 0 cap] w fun e w'=>e = .returned (.tuple #[])∧w' = w:=Any.slices_Sort_int_none Tryz.lays189 p cap w
end Go.Proofs
