import Derived.Test.YtpnefldgohbepaaGreatSxIa
import Derived.Test.YtpnefldgohbepaaGreatPsZg
import Derived.Test.YtpnefldgohbepaaGreatShelf
import Derived.Below
import Derived.Deep.Draws
import Derived.Deep.AppendLies
import Derived.Maps.AppendAt
import Derived.OwnWalk
import Derived.Laws.MakeOwn
import Derived.Laws.OwnMore
import Derived.Deep.OwnRows
import Derived.Tactics
import Derived.Laws.Slices
import Derived.WalkKit
import Derived.KernelRfl
import Derived.RowKit3
import Derived.Deep.LoopGhost
import Derived.Deep.QuietTactic
import Derived.BigQuiet
import Derived.WideLaws
import Derived.Deep.DeepCutAuto
import Derived.Deep.CutBlock
import Derived.Deep.RegionHeld3
import Derived.Laws.Rows
import Derived.ArgAppend
import Derived.Laws.IdiomCopy
import Derived.OrdersHeld
import Derived.RowKit
import Derived.Shelf.RegionOpenPlain
import Derived.Lib.Walk
import Derived.Lib.SliceRun
namespace Go.Proofs.YtpnefldgohbepaaGreat.S
open Go.Ps Go.RowKit Go.Lib Go.Shelf Go.Proofs
set_option linter.unusedVariables false
structure eQ (p:Prop):Prop where
 out:p
theorem L100:SlLaysE0.n41 Tryz.prog (rn 100 60 210):=⟨by kernel_rfl,⟨Tryz.f100.name,by decide,Tryz.func100.trans (congrArg some (by kernel_rfl))⟩,Tryz.underlying4,Tryz.isAgg4,Tryz.sizeOf4,Tryz.zeroValue4,Tryz.underlying60,Tryz.isAgg60,Tryz.sizeOf60,Tryz.zeroValue60⟩
theorem L106:SlLaysE0.n41 Tryz.prog (rn 106 45 168):=⟨by kernel_rfl,⟨Tryz.f106.name,by decide,Tryz.func106.trans (congrArg some (by kernel_rfl))⟩,Tryz.underlying4,Tryz.isAgg4,Tryz.sizeOf4,Tryz.zeroValue4,Tryz.underlying45,Tryz.isAgg45,Tryz.sizeOf45,Tryz.zeroValue45⟩
theorem L172:SlLaysE0.n41 Tryz.prog (rn 172 38 192):=⟨by kernel_rfl,⟨Tryz.f172.name,by decide,Tryz.func172.trans (congrArg some (by kernel_rfl))⟩,Tryz.underlying4,Tryz.isAgg4,Tryz.sizeOf4,Tryz.zeroValue4,Tryz.underlying38,Tryz.isAgg38,Tryz.sizeOf38,Tryz.zeroValue38⟩
theorem L175:SlLaysE0.n41 Tryz.prog (rn 175 46 198):=⟨by kernel_rfl,⟨Tryz.f175.name,by decide,Tryz.func175.trans (congrArg some (by kernel_rfl))⟩,Tryz.underlying4,Tryz.isAgg4,Tryz.sizeOf4,Tryz.zeroValue4,Tryz.underlying46,Tryz.isAgg46,Tryz.sizeOf46,Tryz.zeroValue46⟩
theorem L177:SlLaysE0.n41 Tryz.prog (rn 177 109 183):=⟨by kernel_rfl,⟨Tryz.f177.name,by decide,Tryz.func177.trans (congrArg some (by kernel_rfl))⟩,Tryz.underlying4,Tryz.isAgg4,Tryz.sizeOf4,Tryz.zeroValue4,Tryz.underlying109,Tryz.isAgg109,Tryz.sizeOf109,Tryz.zeroValue109⟩
theorem L178:SlLaysE0.n41 Tryz.prog (rn 178 86 3):=⟨by kernel_rfl,⟨Tryz.f178.name,by decide,Tryz.func178.trans (congrArg some (by kernel_rfl))⟩,Tryz.underlying4,Tryz.isAgg4,Tryz.sizeOf4,Tryz.zeroValue4,Tryz.underlying86,Tryz.isAgg86,Tryz.sizeOf86,Tryz.zeroValue86⟩
theorem L179:SlLaysE0.n41 Tryz.prog (rn 179 87 9):=⟨by kernel_rfl,⟨Tryz.f179.name,by decide,Tryz.func179.trans (congrArg some (by kernel_rfl))⟩,Tryz.underlying4,Tryz.isAgg4,Tryz.sizeOf4,Tryz.zeroValue4,Tryz.underlying87,Tryz.isAgg87,Tryz.sizeOf87,Tryz.zeroValue87⟩
theorem L251:SlLaysE0.n41 Tryz.prog (rn 251 41 170):=⟨by kernel_rfl,⟨Tryz.f251.name,by decide,Tryz.func251.trans (congrArg some (by kernel_rfl))⟩,Tryz.underlying4,Tryz.isAgg4,Tryz.sizeOf4,Tryz.zeroValue4,Tryz.underlying41,Tryz.isAgg41,Tryz.sizeOf41,Tryz.zeroValue41⟩
theorem L252:SlLaysE0.n41 Tryz.prog (rn 252 44 158):=⟨by kernel_rfl,⟨Tryz.f252.name,by decide,Tryz.func252.trans (congrArg some (by kernel_rfl))⟩,Tryz.underlying4,Tryz.isAgg4,Tryz.sizeOf4,Tryz.zeroValue4,Tryz.underlying44,Tryz.isAgg44,Tryz.sizeOf44,Tryz.zeroValue44⟩
theorem L253:SlLaysE0.n41 Tryz.prog (rn 253 98 177):=⟨by kernel_rfl,⟨Tryz.f253.name,by decide,Tryz.func253.trans (congrArg some (by kernel_rfl))⟩,Tryz.underlying4,Tryz.isAgg4,Tryz.sizeOf4,Tryz.zeroValue4,Tryz.underlying98,Tryz.isAgg98,Tryz.sizeOf98,Tryz.zeroValue98⟩
theorem L254:SlLaysE0.n41 Tryz.prog (rn 254 99 190):=⟨by kernel_rfl,⟨Tryz.f254.name,by decide,Tryz.func254.trans (congrArg some (by kernel_rfl))⟩,Tryz.underlying4,Tryz.isAgg4,Tryz.sizeOf4,Tryz.zeroValue4,Tryz.underlying99,Tryz.isAgg99,Tryz.sizeOf99,Tryz.zeroValue99⟩
theorem L255:SlLaysE0.n41 Tryz.prog (rn 255 100 252):=⟨by kernel_rfl,⟨Tryz.f255.name,by decide,Tryz.func255.trans (congrArg some (by kernel_rfl))⟩,Tryz.underlying4,Tryz.isAgg4,Tryz.sizeOf4,Tryz.zeroValue4,Tryz.underlying100,Tryz.isAgg100,Tryz.sizeOf100,Tryz.zeroValue100⟩
theorem L256:SlLaysE0.n41 Tryz.prog (rn 256 101 245):=⟨by kernel_rfl,⟨Tryz.f256.name,by decide,Tryz.func256.trans (congrArg some (by kernel_rfl))⟩,Tryz.underlying4,Tryz.isAgg4,Tryz.sizeOf4,Tryz.zeroValue4,Tryz.underlying101,Tryz.isAgg101,Tryz.sizeOf101,Tryz.zeroValue101⟩
set_option maxHeartbeats 8000000 in
set_option maxRecDepth 100000 in
theorem Aa (v:Value) (n:Nat) (us:List Value) (p:Option Addr) (m c:Nat) (news:List Value) (w:World) (hown:w.ownsRow 0 170 3 v n us) (hs:cN w p m c news 3) (h1:n+m≤maxLen) (h2:(n+m)*32≤140737488355328):
  Calls Tryz.prog 386 #[v,.int .i64 n,.slice p m c] w fun x w'=>∃v':Value,x= .returned v'∧w'.ownsRow 0 170 3 v' (n+m) (us++news)∧w.grownBy w' v.ownBlock∧(∀k,v'.ownBlock=some k→w.heap.size≤k∨v.ownBlock=some k)∧(∀k,v.ownBlock=some k→fb w w' k):=by
 obtain⟨⟨i0,z,hi,hz1,hz2,hz0,_,hzs⟩,_⟩:=eS.ti 170 _ rfl
 have HA:=eQ.mk hs
 have HB:=eQ.mk hown
 have hl:=hs.len
 have hn:=hown.1
 by_cases hm:(m:Int)=0
 ·have hm0:m=0:=by omega
  subst hm0
  have hnw:news=[]:=List.eq_nil_of_length_eq_zero (by simpa using hl)
  subst hnw
  rcases hown.2 with⟨rfl,rfl⟩|⟨g,cap,cur,rfl,hrest⟩
  ·clear hs hown
   go_enter Tryz.func386,Tryz.ntmps386
   go_wp2
   all_goals go_ret
   all_goals (refine⟨_,rfl, ?_,⟨rfl,rfl,rfl,Nat.le_refl _,fun _ _ _=>rfl⟩,fun k hk=> .inr hk,fun k _ o=>⟨rfl,rfl⟩⟩;first|exact HB.out|simpa using HB.out|(rename_i h;subst h;exact HB.out)|(rename_i h;subst h;simpa using HB.out))
  ·obtain⟨_,hg,hcap,hmax,_⟩:=hrest
   clear hs hown
   go_enter Tryz.func386,Tryz.ntmps386
   go_wp2
   all_goals go_ret
   all_goals (refine⟨_,rfl, ?_,⟨rfl,rfl,rfl,Nat.le_refl _,fun _ _ _=>rfl⟩,fun k hk=> .inr hk,fun k _ o=>⟨rfl,rfl⟩⟩;first|exact HB.out|simpa using HB.out|(rename_i h;subst h;exact HB.out)|(rename_i h;subst h;simpa using HB.out))
 ·have hmb:decide ((m:Int)=0)=false:=ak hm
  rcases hown.2 with⟨rfl,rfl⟩|⟨g,cap,cur,rfl,hrest⟩
  ·clear hs hown
   go_enter Tryz.func386,Tryz.ntmps386
   go_wp2_with (at_builtin;refine i4 rfl _ _ 41 rfl Tryz.underlying41 hi hz0 hz1 hz2 hzs (by decide) rfl HB.out rfl HA.out h1 h2 ?_)
   all_goals (intro v' w1 hown hgrow hloc hshape;go_wp2;go_ret;exact⟨v',rfl,by simpa using hown,hgrow,hloc,hshape⟩)
  ·obtain⟨_,hg,hcap,hmax,_⟩:=hrest
   clear hs hown
   go_enter Tryz.func386,Tryz.ntmps386
   go_wp2_with (at_builtin;refine i4 rfl _ _ 41 rfl Tryz.underlying41 hi hz0 hz1 hz2 hzs (by decide) rfl HB.out rfl HA.out h1 h2 ?_)
   all_goals (intro v' w1 hown hgrow hloc hshape;go_wp2;go_ret;exact⟨v',rfl,by simpa using hown,hgrow,hloc,hshape⟩)
theorem Kd:G4 cfg:=by
 intro f p hp
 simp only[cfg,LB,mW]at hp
 rcases ah hp with⟨hf,hp⟩|⟨_,hp⟩
 ·have hf:=aM hf
  subst hf
  cases hp
  exact bO (C:=cfg) (T:=210) (by decide) (by kernel_rfl) (cl_at (C:=cfg) eS L100 rfl (by decide))
 rcases ah hp with⟨hf,hp⟩|⟨_,hp⟩
 ·have hf:=aM hf
  subst hf
  cases hp
  exact bO (C:=cfg) (T:=168) (by decide) (by kernel_rfl) (cl_at (C:=cfg) eS L106 rfl (by decide))
 rcases ah hp with⟨hf,hp⟩|⟨_,hp⟩
 ·have hf:=aM hf
  subst hf
  cases hp
  exact bO (C:=cfg) (T:=192) (by decide) (by kernel_rfl) (cl_at (C:=cfg) eS L172 rfl (by decide))
 rcases ah hp with⟨hf,hp⟩|⟨_,hp⟩
 ·have hf:=aM hf
  subst hf
  cases hp
  exact bO (C:=cfg) (T:=198) (by decide) (by kernel_rfl) (cl_at (C:=cfg) eS L175 rfl (by decide))
 rcases ah hp with⟨hf,hp⟩|⟨_,hp⟩
 ·have hf:=aM hf
  subst hf
  cases hp
  exact bO (C:=cfg) (T:=183) (by decide) (by kernel_rfl) (cl_at (C:=cfg) eS L177 rfl (by decide))
 rcases ah hp with⟨hf,hp⟩|⟨_,hp⟩
 ·have hf:=aM hf
  subst hf
  cases hp
  exact bO (C:=cfg) (T:=3) (by decide) (by kernel_rfl) (cl_at (C:=cfg) eS L178 rfl (by decide))
 rcases ah hp with⟨hf,hp⟩|⟨_,hp⟩
 ·have hf:=aM hf
  subst hf
  cases hp
  exact bO (C:=cfg) (T:=9) (by decide) (by kernel_rfl) (cl_at (C:=cfg) eS L179 rfl (by decide))
 rcases ah hp with⟨hf,hp⟩|⟨_,hp⟩
 ·have hf:=aM hf
  subst hf
  cases hp
  exact bO (C:=cfg) (T:=170) (by decide) (by kernel_rfl) (cl_at (C:=cfg) eS L251 rfl (by decide))
 rcases ah hp with⟨hf,hp⟩|⟨_,hp⟩
 ·have hf:=aM hf
  subst hf
  cases hp
  exact bO (C:=cfg) (T:=158) (by decide) (by kernel_rfl) (cl_at (C:=cfg) eS L252 rfl (by decide))
 rcases ah hp with⟨hf,hp⟩|⟨_,hp⟩
 ·have hf:=aM hf
  subst hf
  cases hp
  exact bO (C:=cfg) (T:=177) (by decide) (by kernel_rfl) (cl_at (C:=cfg) eS L253 rfl (by decide))
 rcases ah hp with⟨hf,hp⟩|⟨_,hp⟩
 ·have hf:=aM hf
  subst hf
  cases hp
  exact bO (C:=cfg) (T:=190) (by decide) (by kernel_rfl) (cl_at (C:=cfg) eS L254 rfl (by decide))
 rcases ah hp with⟨hf,hp⟩|⟨_,hp⟩
 ·have hf:=aM hf
  subst hf
  cases hp
  exact bO (C:=cfg) (T:=252) (by decide) (by kernel_rfl) (cl_at (C:=cfg) eS L255 rfl (by decide))
 rcases ah hp with⟨hf,hp⟩|⟨_,hp⟩
 ·have hf:=aM hf
  subst hf
  cases hp
  exact bO (C:=cfg) (T:=245) (by decide) (by kernel_rfl) (cl_at (C:=cfg) eS L256 rfl (by decide))
 rcases ah hp with⟨hf,hp⟩|⟨_,hp⟩
 ·have hf:=aM hf
  subst hf
  cases hp
  exact wj (C:=cfg) (T:=3) (by kernel_rfl) (fun v zs w h hz=>GF (T:=3) (fun b o c zs w h1 h2 h3=>Tryz.slices_Sort_int b o c zs w h1 h2 h3) (fun p c w=>Tryz.slices_Sort_int_none p c w) v zs w h hz)
 rcases ah hp with⟨hf,hp⟩|⟨_,hp⟩
 ·have hf:=aM hf
  subst hf
  cases hp
  exact qh (C:=cfg) (T:=3) (by kernel_rfl) (fun v zs w h hz=>GG (T:=3) (fun b o c zs w h1 h2 h3=>Tryz.slices_Compact_int b o c zs w h1 h2 h3) (fun p c w=>Tryz.slices_Compact_int_empty p c w) v zs w h hz)
 rcases ah hp with⟨hf,hp⟩|⟨_,hp⟩
 ·have hf:=aM hf
  subst hf
  cases hp
  exact s8 (C:=cfg) (by kernel_rfl) (fun s c w h1 h2=>Tryz.strings_Repeat s c w h1 h2)
 rcases ah hp with⟨hf,hp⟩|⟨_,hp⟩
 ·have hf:=aM hf
  subst hf
  cases hp
  exact sV (C:=cfg) (T:=170) (by decide) (by kernel_rfl) (fun v n us p m c news w h1 h2 h3 h4=>Aa v n us p m c news w h1 h2 h3 h4)
 simp at hp
end Go.Proofs.YtpnefldgohbepaaGreat.S
