import Derived.Test.YtpnefldgohbepaaGreatPsZ
import Derived.Sort.OwnSortedInts
import Derived.Lib.OwnBridge
namespace Go.Ps
set_option linter.unusedVariables false
variable {S S':Nat→Prop} {w w':World}
abbrev ie:Int→Value:=Value.int .i64
def iX (l:List Int):List Int:=l.mergeSort fun x y=>decide (x≤y)
def gG (l:List Int):List Int:=Lib.compact l
def qg:List SV→Option (List PV)
 | [.v (.list (.int .i64) xs)]=>bif decide (List.length xs≤1048576)then some [.list (.int .i64) (iX xs)]else none
 |_=>none
def ko:List SV→Option (List PV)
 | [.v (.list (.int .i64) xs)]=>bif decide (List.length xs≤1048576)then some [.list (.int .i64) (gG xs)]else none
 |_=>none
theorem nG:∀{l:List Int} {vs:List Value},ax (aJ S w (.int .i64)) l vs↔vs=l.map ie
 | [],vs=>Iff.rfl
 |x::l,vs=>by
  constructor
  ·rintro⟨u,v,rfl,h,k⟩
   rw[show u=[ie x] from h,nG.1 k];rfl
  ·rintro rfl
   exact⟨[ie x],l.map ie,rfl,rfl,nG.2 rfl⟩
theorem mG {g n:Nat} {os:Array Obj} {d:Array Int} {cur:Array Value} {e:TypeId} {fr:Nat×Nat} (hb:w.heap[g]? =some (.cells cur e fr)):fb w (Sort.grow (Sort.putRow ie (Sort.ahead w n) g 0 d) os) g:=by
 intro o
 have h:=heap_sortedI (n:=n) (os:=os) d hb
 have hs:(Sort.putCells ie 0 d cur).size=cur.size:=by simp[Sort.putCells]
 constructor
 ·simp only[World.cell?]
  rw[h,hb]
  simp only[Option.isSome_none,Bool.false_eq_true,if_false]
  by_cases ho:o<cur.size
  ·simp[ho,hs]
  ·simp[ho,hs]
 ·simp only[World.frozen?]
  rw[h,hb]
theorem GF {P:Program} {f:FuncId} {T:TypeId} (Hs:∀(blk off cap:Nat) (zs:List Int) (w:World),Sort.Holds ie w blk off zs.toArray→blk<w.heap.size→zs.length<4611686018427387904→
   Calls P f #[.slice (some ⟨blk,off,none⟩) zs.length cap] w fun e w'=>e= .returned (.tuple #[])∧∃n os,w'=Sort.grow (Sort.putRow ie (Sort.ahead w n) blk off (zs.mergeSort fun x y=>decide (x≤y)).toArray) os)
  (Hn:∀(p:Option Addr) (cap:Nat) (w:World),Calls P f #[.slice p 0 cap] w fun e w'=>e= .returned (.tuple #[])∧w'=w)
  (v:Value) (zs:List Int) (w:World) (h:w.ownsRow 0 T 1 v zs.length (zs.map ie)) (hz:zs.length≤1048576):
  Calls P f #[v] w fun x w'=>x= .returned (.tuple #[])∧w'.ownsRow 0 T 1 v zs.length ((iX zs).map ie)∧w.grownBy w' v.ownBlock∧∀k,v.ownBlock=some k→fb w w' k:=by
 rcases h.2 with⟨rfl,hn⟩|⟨g,cap,cur,rfl,hb,hg,h1,h2,h3,h4⟩
 ·refine(Hn none 0 w).mono ?_
  rintro e w' ⟨rfl,rfl⟩
  have:zs=[]:=List.eq_nil_of_length_eq_zero hn
  subst this
  exact⟨rfl,by rw[show iX []=[] by simp[iX]];exact h,⟨rfl,rfl,rfl,Nat.le_refl _,fun _ _ _=>rfl⟩,fun k hk=>by cases hk⟩
 ·obtain⟨g',cap',hv,_,hlt,_,_,_,hH⟩:=Lib.holds_of_ownsRow h (by simp)
  simp only[Value.slice.injEq,aa,Addr.mk.injEq,and_true]at hv
  obtain⟨rfl,_,rfl⟩:=hv
  refine(Hs g 0 cap zs w hH hlt (by omega)).mono ?_
  rintro e w' ⟨rfl,n,os,rfl⟩
  refine⟨rfl,ownsRow_sortedI (ts:=zs.mergeSort fun x y=>decide (x≤y)) (List.length_mergeSort zs) hb hg h1 h2 h3,grownBy_sortedI _,fun k hk=> ?_⟩
  simp only[Value.ownBlock,aa]at hk
  subst hk
  exact mG hg
theorem GG {P:Program} {f:FuncId} {T:TypeId} (Hs:∀(blk off cap:Nat) (zs:List Int) (w:World),Sort.Holds ie w blk off zs.toArray→zs.length≤9223372036854775807→zs.length≤cap→
   Calls P f #[.slice (some ⟨blk,off,none⟩) zs.length cap] w fun e w'=>e= .returned (.slice (some ⟨blk,off,none⟩) (Lib.compact zs).length cap)∧∃q,w'=Sort.putRow ie (Sort.ahead w q) blk off (Lib.compact zs++List.replicate (zs.length-(Lib.compact zs).length) 0).toArray)
  (Hn:∀(p:Option Addr) (cap:Nat) (w:World),Calls P f #[.slice p 0 cap] w fun e w'=>e= .returned (.slice p 0 cap)∧w'=w)
  (v:Value) (zs:List Int) (w:World) (h:w.ownsRow 0 T 1 v zs.length (zs.map ie)) (hz:zs.length≤1048576):
  Calls P f #[v] w fun x w'=>∃v',x= .returned v'∧w'.ownsRow 0 T 1 v' (gG zs).length ((gG zs).map ie)∧w.grownBy w' v.ownBlock∧v'.ownBlock=v.ownBlock∧∀k,v.ownBlock=some k→fb w w' k:=by
 rcases h.2 with⟨rfl,hn⟩|⟨g,cap,cur,rfl,hb,hg,h1,h2,h3,h4⟩
 ·refine(Hn none 0 w).mono ?_
  rintro e w' ⟨rfl,rfl⟩
  have:zs=[]:=List.eq_nil_of_length_eq_zero hn
  subst this
  exact⟨_,rfl,h,⟨rfl,rfl,rfl,Nat.le_refl _,fun _ _ _=>rfl⟩,rfl,fun k hk=>by cases hk⟩
 ·obtain⟨g',cap',hv,_,hlt,_,_,_,hH⟩:=Lib.holds_of_ownsRow h (by simp)
  simp only[Value.slice.injEq,aa,Addr.mk.injEq,and_true]at hv
  obtain⟨rfl,_,rfl⟩:=hv
  refine(Hs g 0 cap zs w hH (by omega) h1).mono ?_
  rintro e w' ⟨rfl,q,rfl⟩
  have hle:=Lib.compact_length_le zs
  have hc:=Lib.ownsRow_putRow (q:=q) (k:=(Lib.compact zs).length) (ys:=Lib.compact zs++List.replicate (zs.length-(Lib.compact zs).length) 0) h (by simp;omega) hle
  rw[List.take_left]at hc
  have hgr:=grownBy_sortedI (w:=w) (g:=g) (n:=q) (os:= #[]) (Lib.compact zs++List.replicate (zs.length-(Lib.compact zs).length) 0).toArray
  rw[Sort.grow_empty]at hgr
  refine⟨_,rfl,hc,hgr,rfl,fun k hk=> ?_⟩
  simp only[Value.ownBlock,aa]at hk
  subst hk
  have:=mG (n:=q) (os:= #[]) (d:=(Lib.compact zs++List.replicate (zs.length-(Lib.compact zs).length) 0).toArray) hg
  rwa [Sort.grow_empty]at this
theorem wj {C:cv} {f T:Nat} (hsig:C.sig f=some ⟨[.lend (.list (.int .i64)) (.own T .no)],[],[]⟩)
  (H:∀(v:Value) (zs:List Int) (w:World),w.ownsRow 0 T 1 v zs.length (zs.map ie)→zs.length≤1048576→
   Calls C.P (C.real f) #[v] w fun x w'=>x= .returned (.tuple #[])∧w'.ownsRow 0 T 1 v zs.length ((iX zs).map ie)∧w.grownBy w' v.ownBlock∧∀k,v.ownBlock=some k→fb w w' k):
  ∀args (r:C.Res f),(qg args).bind (bn (C.resTy f))=some r→kt C f args r:=by
 intro args r hr sg hsg S w vals K B hS hA hOB hOK
 rw[hsig]at hsg
 simp only[aa]at hsg
 subst hsg
 have hT:C.resTy f= .list (.int .i64):=by unfold cv.resTy;rw[hsig];rfl
 have hF:(⟨[.lend (.list (.int .i64)) (.own T .no)],[],[]⟩:ki).resFl= .own T .no:=rfl
 rw[hF]
 change Ty.den (C.resTy f)at r
 change _=some r at hr
 generalize C.resTy f=τ at*
 subst hT
 unfold qg at hr
 split at hr
 ·rename_i xs
  cases hc:decide (List.length xs≤1048576)with
  |false=>rw[hc]at hr;simp at hr
  |true=>
   rw[hc]at hr
   simp only[ae,af]at hr
   have h0:=eV (τ:= .list (.int .i64)) (d:=iX xs) hr
   subst h0
   have hc:=of_decide_eq_true hc
   cases hA with
   |plain hp _ _=>cases hp
   |lend hd hf t=>
    cases t
    rename_i v1 us0 B1 d0
    rcases hd with⟨hd,_⟩|⟨c0,hd,hinj,hw,hus⟩
    ·cases hd
    cases hd
    have hd0:d0=xs:=by
     have:inj (.list (.int .i64)) d0=[PV.list _ d0]:=rfl
     rw[this]at hinj
     simp only[aC,PV.list.injEq,heq_eq_eq,true_and,and_true]at hinj
     exact hinj
    subst hd0
    obtain⟨_,v,us,B2,h4,h5,hrow,hrowsB⟩:=hf
    rw[hus]at h4
    simp only[aC,and_true]at h4
    subst h4
    obtain⟨hrows,hB2⟩:=cJ.1 hrowsB
    subst hB2
    have hus':=nG.1 hrows
    subst hus'
    have hrow:w.ownsRow 0 T 1 v1 (List.length d0) (List.map ie d0):=hrow.elim id (fun h=>by cases h.1)
    refine(H v1 d0 w hrow hc).mono ?_
    rintro x w' ⟨rfl,ho,hg,hshape⟩
    have hslv:∃p n c,v1= .slice p n c:=by
     rcases hrow.2 with⟨hh,_⟩|⟨g,cap,cur,hh,_⟩<;>exact⟨_,_,_,hh⟩
    have hB:B1=(aU v1).toList:=by rw[h5,List.append_nil]
    have hlen:(iX d0).length=List.length d0:=List.length_mergeSort d0
    refine⟨.tuple #[],[],[],[v1],S,(aU v1).toList,rfl,rfl, ?_, ?_, ?_,fun _ x=>x,fun _=> .inl,⟨?_,fun k hk=> ?_⟩,
     ⟨by decide,v1,(iX d0).map ie,[],rfl,by simp,.inl (by rw[hlen];exact ho),cJ.2 ⟨nG.2 rfl,rfl⟩⟩⟩
    ·exact⟨rfl,rfl⟩
    ·exact⟨[],by rw[hus];rfl,rfl⟩
    ·refine(c8.refl w _).change hg.os hg.tape hg.output hg.size fun q hq=> ?_
     by_cases hk:v1.ownBlock=some q
     ·refine .inr ⟨fun o=> .inl ?_,hshape q hk⟩
      rw[←bG v1 hslv]at hk
      rw[hB];simp[hk]
     ·exact .inl (hg.block q hq (Ne.symm hk))
    ·cases aU v1<;>simp
    ·have hk:aU v1=some k:=by simpa using hk
     have hkB:k∈B1:=by rw[hB];simp[hk]
     rw[bG v1 hslv]at hk
     have hlt:=(ho.lt k hk).2
     exact⟨(hOB.2 k (by simp[hkB])).1,.inr (by simp[hkB]),hlt⟩
 ·simp at hr
theorem qh {C:cv} {f T:Nat} (hsig:C.sig f=some ⟨[.give (.list (.int .i64)) (.own T .no)],[(.list (.int .i64),false)],[.own T .no]⟩)
  (H:∀(v:Value) (zs:List Int) (w:World),w.ownsRow 0 T 1 v zs.length (zs.map ie)→zs.length≤1048576→
   Calls C.P (C.real f) #[v] w fun x w'=>∃v',x= .returned v'∧w'.ownsRow 0 T 1 v' (gG zs).length ((gG zs).map ie)∧w.grownBy w' v.ownBlock∧v'.ownBlock=v.ownBlock∧∀k,v.ownBlock=some k→fb w w' k):
  ∀args (r:C.Res f),(ko args).bind (bn (C.resTy f))=some r→kt C f args r:=by
 intro args r hr sg hsg S w vals K B hS hA hOB hOK
 rw[hsig]at hsg
 simp only[aa]at hsg
 subst hsg
 have hT:C.resTy f= .list (.int .i64):=by unfold cv.resTy;rw[hsig];rfl
 have hF:(⟨[.give (.list (.int .i64)) (.own T .no)],[(.list (.int .i64),false)],[.own T .no]⟩:ki).resFl= .own T .no:=rfl
 rw[hF]
 change Ty.den (C.resTy f)at r
 change _=some r at hr
 generalize C.resTy f=τ at*
 subst hT
 unfold ko at hr
 split at hr
 ·rename_i xs
  cases hc:decide (List.length xs≤1048576)with
  |false=>rw[hc]at hr;simp at hr
  |true=>
   rw[hc]at hr
   simp only[ae,af]at hr
   have h0:=eV (τ:= .list (.int .i64)) (d:=gG xs) hr
   subst h0
   have hc:=of_decide_eq_true hc
   cases hA with
   |plain hp _ _=>cases hp
   |give hd hf t=>
    cases t
    rename_i v1 us0 B1 d0
    rcases hd with⟨hd,_⟩|⟨c0,hd,hinj,hw,hus⟩
    ·cases hd
    cases hd
    have hd0:d0=xs:=by
     have:inj (.list (.int .i64)) d0=[PV.list _ d0]:=rfl
     rw[this]at hinj
     simp only[aC,PV.list.injEq,heq_eq_eq,true_and,and_true]at hinj
     exact hinj
    subst hd0
    obtain⟨_,v,us,B2,h4,h5,hrow,hrowsB⟩:=hf
    rw[hus]at h4
    simp only[aC,and_true]at h4
    subst h4
    obtain⟨hrows,hB2⟩:=cJ.1 hrowsB
    subst hB2
    have hus':=nG.1 hrows
    subst hus'
    have hrow:w.ownsRow 0 T 1 v1 (List.length d0) (List.map ie d0):=hrow.elim id (fun h=>by cases h.1)
    refine(H v1 d0 w hrow hc).mono ?_
    rintro x w' ⟨v',rfl,ho,hg,hvv,hshape⟩
    have hslv:∃p n c,v1= .slice p n c:=by
     rcases hrow.2 with⟨hh,_⟩|⟨g,cap,cur,hh,_⟩<;>exact⟨_,_,_,hh⟩
    have hslv':∃p n c,v'= .slice p n c:=by
     rcases ho.2 with⟨hh,_⟩|⟨g,cap,cur,hh,_⟩<;>exact⟨_,_,_,hh⟩
    have hB:B1=(aU v1).toList:=by rw[h5,List.append_nil]
    refine⟨v',[v'],[v'],[],S,(aU v').toList,rfl,rfl,⟨[v'],[],v',[],rfl,rfl,rfl,fun h=>(by cases h),fun _=>rfl,rfl,rfl⟩,rfl, ?_,fun _ x=>x,fun _=> .inl,⟨?_,fun k hk=> ?_⟩,
     ⟨by decide,v',(gG d0).map ie,[],rfl,by simp,.inl ho,cJ.2 ⟨nG.2 rfl,rfl⟩⟩⟩
    ·refine(c8.refl w _).change hg.os hg.tape hg.output hg.size fun q hq=> ?_
     by_cases hk:v1.ownBlock=some q
     ·refine .inr ⟨fun o=> .inl ?_,hshape q hk⟩
      rw[←bG v1 hslv]at hk
      rw[hB];simp[hk]
     ·exact .inl (hg.block q hq (Ne.symm hk))
    ·cases aU v'<;>simp
    ·have hk:aU v'=some k:=by simpa using hk
     rw[bG v' hslv']at hk
     have hlt:=(ho.lt k hk).2
     rw[hvv,←bG v1 hslv]at hk
     have hkB:k∈B1:=by rw[hB];simp[hk]
     exact⟨(hOB.2 k (by simp[hkB])).1,.inr (by simp[hkB]),hlt⟩
 ·simp at hr
end Go.Ps
