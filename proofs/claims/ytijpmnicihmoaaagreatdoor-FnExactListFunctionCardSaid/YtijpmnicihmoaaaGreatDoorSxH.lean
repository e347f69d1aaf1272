import Derived.Test.YtijpmnicihmoaaaGreatDoorSxIa
import Derived.Test.YtijpmnicihmoaaaGreatDoorShelf
import Derived.Below
import Derived.Deep.Draws
import Derived.Deep.AppendLies
import Derived.Maps.AppendAt
import Derived.OwnWalk
import Derived.Laws.MakeOwn
import Derived.Laws.OwnMore
import Derived.Deep.OwnRows
import Derived.Tactics
import Derived.Laws.Slices
import Derived.WalkKit
import Derived.KernelRfl
import Derived.RowKit3
import Derived.Deep.LoopGhost
import Derived.Deep.QuietTactic
import Derived.BigQuiet
import Derived.WideLaws
import Derived.Deep.DeepCutAuto
import Derived.Deep.CutBlock
import Derived.Deep.RegionHeld3
import Derived.Laws.Rows
import Derived.ArgAppend
import Derived.Laws.IdiomCopy
import Derived.OrdersHeld
import Derived.RowKit
import Derived.Shelf.RegionOpenPlain
import Derived.Lib.Walk
import Derived.Lib.SliceRun
namespace Go.Proofs.YtijpmnicihmoaaaGreatDoor.S
open Go.Ps Go.RowKit Go.Lib
set_option linter.unusedVariables false
structure uU (p:Prop):Prop where
 out:p
set_option maxHeartbeats 8000000 in
set_option maxRecDepth 100000 in
theorem zg (n c:Nat) (w:World):Calls Tryz.prog 349 #[.slice none n c] w fun x w'=>x= .returned (.slice none 0 0)∧w'=w:=by
 have q:∀(w:World) (a:Option Addr) (n c n' c':Nat),(binOp .eql 47 (.slice a n c) (.slice none n' c')).run Tryz.prog w= .ok (.bool a.isNone) w:=fun w a n c n' c'=>Lib.run_eql_slice_nil w _ _ a n c n' c' Tryz.underlying47
 go_enter Tryz.func349,Tryz.ntmps349
 go_wp2
 go_ret
 exact⟨rfl,rfl⟩
set_option maxHeartbeats 8000000 in
set_option maxRecDepth 100000 in
theorem xb (ad:Addr) (n c:Nat) (news:List Value) (w:World) (hl:news.length=n*6) (hn:n≤maxLen) (hbig:n*56≤140737488355328)
  (hc:∀j u,news[j]? =some u→w.cell? (ad.add j)=some u) (h1:∀u∈news,u.oneCell'=true):
  Calls Tryz.prog 349 #[.slice (some ad) n c] w fun x w'=>∃v:Value,x= .returned v∧w'.ownsRow w.heap.size 98 6 v n news∧Below w.heap.size w w':=by
 have q:∀(w:World) (a:Option Addr) (n c n' c':Nat),(binOp .eql 47 (.slice a n c) (.slice none n' c')).run Tryz.prog w= .ok (.bool a.isNone) w:=fun w a n c n' c'=>Lib.run_eql_slice_nil w _ _ a n c n' c' Tryz.underlying47
 obtain⟨⟨i0,z,hi,hz1,hz2,hz0,_,hzs⟩,_⟩:=uW.ti 98 _ rfl
 have HA:=uU.mk hc
 clear hc
 go_enter Tryz.func349,Tryz.ntmps349
 go_wp2_with (at_builtin;refine wpList_append_own _ rfl _ _ 47 rfl w.heap.size 98 i0 z 6 56 Tryz.underlying47 hi hz0 hz1 hz2 hzs (by decide) _ _ _ rfl (World.ownsRow_made w #[] 0 (Nat.le_refl _) (Nat.zero_le _) (by simp)) ad n c news rfl ?qc1 ?qc2 ?qc3 ?qc4 ?qc5 ?qc6 ?_)
 any_goals (first|exact hl|exact h1|(rw[Nat.zero_add];first|exact hn|exact hbig)|(intro j u hj;exact Lib.cell?_alloc_some _ (HA.out j u hj)))
 intro v' w1 hown hgrow hnil
 go_wp2
 go_ret
 refine⟨v',rfl,by simpa using hown, ?_⟩
 exact((Below.refl _ w).alloc (Nat.le_refl _) _).grown hgrow (by simp) (by intro k hk;simp[Value.ownBlock]at hk;omega)
theorem Oc (p:Option Addr) (m c:Nat) (news:List Value) (w:World) (h:je w p m c news 6) (h1:m≤maxLen) (h2:m*56≤140737488355328):
  Calls Tryz.prog 349 #[.slice p m c] w fun x w'=>∃v:Value,x= .returned v∧w'.ownsRow w.heap.size 98 6 v m news∧Below w.heap.size w w':=by
 cases p with
 |none=>
  obtain⟨rfl,rfl⟩:=h.nil rfl
  have hn:news=[]:=List.eq_nil_of_length_eq_zero (by simpa using h.len)
  subst hn
  refine(zg 0 0 w).mono ?_
  rintro x w' ⟨rfl,rfl⟩
  exact⟨_,rfl,World.ownsRow_nil _ _ _ _,Below.refl _ _⟩
 |some ad=>exact xb ad m c news w h.len h1 h2 (h.cells ad rfl) h.one
set_option maxHeartbeats 8000000 in
set_option maxRecDepth 100000 in
theorem zh (v:Value) (n:Nat) (us:List Value) (p:Option Addr) (m c:Nat) (news:List Value) (w:World) (hown:w.ownsRow 0 206 3 v n us) (hs:je w p m c news 3) (h1:n+m≤maxLen) (h2:(n+m)*32≤140737488355328):
  Calls Tryz.prog 370 #[v,.int .i64 n,.slice p m c] w fun x w'=>∃v':Value,x= .returned v'∧w'.ownsRow 0 206 3 v' (n+m) (us++news)∧w.grownBy w' v.ownBlock∧(∀k,v'.ownBlock=some k→w.heap.size≤k∨v.ownBlock=some k)∧(∀k,v.ownBlock=some k→jc w w' k):=by
 obtain⟨⟨i0,z,hi,hz1,hz2,hz0,_,hzs⟩,_⟩:=uW.ti 206 _ rfl
 have HA:=uU.mk hs
 have HB:=uU.mk hown
 have hl:=hs.len
 have hn:=hown.1
 by_cases hm:(m:Int)=0
 ·have hm0:m=0:=by omega
  subst hm0
  have hnw:news=[]:=List.eq_nil_of_length_eq_zero (by simpa using hl)
  subst hnw
  rcases hown.2 with⟨rfl,rfl⟩|⟨g,cap,cur,rfl,hrest⟩
  ·clear hs hown
   go_enter Tryz.func370,Tryz.ntmps370
   go_wp2
   all_goals go_ret
   all_goals (refine⟨_,rfl, ?_,⟨rfl,rfl,rfl,Nat.le_refl _,fun _ _ _=>rfl⟩,fun k hk=> .inr hk,fun k _ o=>⟨rfl,rfl⟩⟩;first|exact HB.out|simpa using HB.out|(rename_i h;subst h;exact HB.out)|(rename_i h;subst h;simpa using HB.out))
  ·obtain⟨_,hg,hcap,hmax,_⟩:=hrest
   clear hs hown
   go_enter Tryz.func370,Tryz.ntmps370
   go_wp2
   all_goals go_ret
   all_goals (refine⟨_,rfl, ?_,⟨rfl,rfl,rfl,Nat.le_refl _,fun _ _ _=>rfl⟩,fun k hk=> .inr hk,fun k _ o=>⟨rfl,rfl⟩⟩;first|exact HB.out|simpa using HB.out|(rename_i h;subst h;exact HB.out)|(rename_i h;subst h;simpa using HB.out))
 ·have hmb:decide ((m:Int)=0)=false:=am hm
  rcases hown.2 with⟨rfl,rfl⟩|⟨g,cap,cur,rfl,hrest⟩
  ·clear hs hown
   go_enter Tryz.func370,Tryz.ntmps370
   go_wp2_with (at_builtin;refine iG rfl _ _ 43 rfl Tryz.underlying43 hi hz0 hz1 hz2 hzs (by decide) rfl HB.out rfl HA.out h1 h2 ?_)
   all_goals (intro v' w1 hown hgrow hloc hshape;go_wp2;go_ret;exact⟨v',rfl,by simpa using hown,hgrow,hloc,hshape⟩)
  ·obtain⟨_,hg,hcap,hmax,_⟩:=hrest
   clear hs hown
   go_enter Tryz.func370,Tryz.ntmps370
   go_wp2_with (at_builtin;refine iG rfl _ _ 43 rfl Tryz.underlying43 hi hz0 hz1 hz2 hzs (by decide) rfl HB.out rfl HA.out h1 h2 ?_)
   all_goals (intro v' w1 hown hgrow hloc hshape;go_wp2;go_ret;exact⟨v',rfl,by simpa using hown,hgrow,hloc,hshape⟩)
set_option maxHeartbeats 8000000 in
set_option maxRecDepth 100000 in
theorem zi (n c:Nat) (w:World):Calls Tryz.prog 371 #[.slice none n c] w fun x w'=>x= .returned (.slice none 0 0)∧w'=w:=by
 have q:∀(w:World) (a:Option Addr) (n c n' c':Nat),(binOp .eql 43 (.slice a n c) (.slice none n' c')).run Tryz.prog w= .ok (.bool a.isNone) w:=fun w a n c n' c'=>Lib.run_eql_slice_nil w _ _ a n c n' c' Tryz.underlying43
 go_enter Tryz.func371,Tryz.ntmps371
 go_wp2
 go_ret
 exact⟨rfl,rfl⟩
set_option maxHeartbeats 8000000 in
set_option maxRecDepth 100000 in
theorem xc (ad:Addr) (n c:Nat) (news:List Value) (w:World) (hl:news.length=n*3) (hn:n≤maxLen) (hbig:n*32≤140737488355328)
  (hc:∀j u,news[j]? =some u→w.cell? (ad.add j)=some u) (h1:∀u∈news,u.oneCell'=true):
  Calls Tryz.prog 371 #[.slice (some ad) n c] w fun x w'=>∃v:Value,x= .returned v∧w'.ownsRow w.heap.size 206 3 v n news∧Below w.heap.size w w':=by
 have q:∀(w:World) (a:Option Addr) (n c n' c':Nat),(binOp .eql 43 (.slice a n c) (.slice none n' c')).run Tryz.prog w= .ok (.bool a.isNone) w:=fun w a n c n' c'=>Lib.run_eql_slice_nil w _ _ a n c n' c' Tryz.underlying43
 obtain⟨⟨i0,z,hi,hz1,hz2,hz0,_,hzs⟩,_⟩:=uW.ti 206 _ rfl
 have HA:=uU.mk hc
 clear hc
 go_enter Tryz.func371,Tryz.ntmps371
 go_wp2_with (at_builtin;refine wpList_append_own _ rfl _ _ 43 rfl w.heap.size 206 i0 z 3 32 Tryz.underlying43 hi hz0 hz1 hz2 hzs (by decide) _ _ _ rfl (World.ownsRow_made w #[] 0 (Nat.le_refl _) (Nat.zero_le _) (by simp)) ad n c news rfl ?qc1 ?qc2 ?qc3 ?qc4 ?qc5 ?qc6 ?_)
 any_goals (first|exact hl|exact h1|(rw[Nat.zero_add];first|exact hn|exact hbig)|(intro j u hj;exact Lib.cell?_alloc_some _ (HA.out j u hj)))
 intro v' w1 hown hgrow hnil
 go_wp2
 go_ret
 refine⟨v',rfl,by simpa using hown, ?_⟩
 exact((Below.refl _ w).alloc (Nat.le_refl _) _).grown hgrow (by simp) (by intro k hk;simp[Value.ownBlock]at hk;omega)
theorem Od (p:Option Addr) (m c:Nat) (news:List Value) (w:World) (h:je w p m c news 3) (h1:m≤maxLen) (h2:m*32≤140737488355328):
  Calls Tryz.prog 371 #[.slice p m c] w fun x w'=>∃v:Value,x= .returned v∧w'.ownsRow w.heap.size 206 3 v m news∧Below w.heap.size w w':=by
 cases p with
 |none=>
  obtain⟨rfl,rfl⟩:=h.nil rfl
  have hn:news=[]:=List.eq_nil_of_length_eq_zero (by simpa using h.len)
  subst hn
  refine(zi 0 0 w).mono ?_
  rintro x w' ⟨rfl,rfl⟩
  exact⟨_,rfl,World.ownsRow_nil _ _ _ _,Below.refl _ _⟩
 |some ad=>exact xc ad m c news w h.len h1 h2 (h.cells ad rfl) h.one
end Go.Proofs.YtijpmnicihmoaaaGreatDoor.S
