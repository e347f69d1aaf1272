import Derived.Test.YtfgjcohcpehcjaaGreatPsY
namespace Go.Ps
open Go.RowKit
set_option linter.unusedVariables false
def mh (e:Ty) (b:Nat):List SV→Option (List PV)
 | [.v (.list e' xs)]=>match decEq e' e with
  | .isTrue h=>bif aD xs.length b then some [.list e (bQ h xs)]else none
  | .isFalse _=>none
 |_=>none
structure rU (w:World) (p:Option Addr) (m c:Nat) (news:List Value) (z:Nat):Prop where
 len:news.length=m*z
 nil:p=none→m=0∧c=0
 cells:∀ad,p=some ad→∀j u,news[j]? =some u→w.cell? (ad.add j)=some u
 one:∀u∈news,u.oneCell'=true
theorem tz {S:Nat→Prop} {w:World} {e:Ty} {xs:List e.den} {vs:List Value} (h:aw S w (.list e) xs vs):∃p c news,vs=[.slice p xs.length c]∧rU w p xs.length c news e.size∧an (aw S w e) xs news:=by
 obtain⟨p,c,hv,hc,hh⟩:=h
 rcases hh with⟨rfl,hp⟩|⟨b,o,us,rfl,hS,hr,hrows⟩
 ·exact⟨p,c,[],hv,⟨by simp,fun hn=>⟨rfl,hp hn⟩,by simp,by simp⟩,rfl⟩
 ·refine⟨_,c,us,hv,⟨an.length (aw.length e) hrows,fun hn=>by simp at hn,fun ad had j u hu=> ?_,an.one (aw.one e) hrows⟩,hrows⟩
  simp only[aa]at had
  subst had
  rw[Addr.add_mid];exact hr j u hu
theorem lm {w':World} {k T z n:Nat} {v:Value} {us:List Value} (ho:w'.ownsRow k T z v n us):w'.ownsRow 0 T z v n us:=
 ⟨ho.1,ho.2.imp id fun⟨g,cap,cur,h1,h2,h3⟩=>⟨g,cap,cur,h1,Nat.zero_le _,h3⟩⟩
theorem rV {C:b9} {f T b:Nat} {e:Ty} (he:0<e.size) (hsig:C.sig f=some ⟨[.val (.list e)],[(.list e,false)],[.own T .no]⟩)
  (H:∀(p:Option Addr) (m c:Nat) (news:List Value) (w:World),rU w p m c news e.size→m≤maxLen→m*b≤140737488355328→
   Calls C.P (C.real f) #[.slice p m c] w fun x w'=>∃v:Value,x= .returned v∧w'.ownsRow w.heap.size T e.size v m news∧Below w.heap.size w w'):
  ∀args (r:C.Res f),(mh e b args).bind (be (C.resTy f))=some r→oC C f args r:=by
 intro args r hr sg hsg S w vals K B hS hA hOB hOK
 rw[hsig]at hsg
 simp only[aa]at hsg
 subst hsg
 have hT:C.resTy f= .list e:=by unfold b9.resTy;rw[hsig];rfl
 have hF:(⟨[.val (.list e)],[(.list e,false)],[.own T .no]⟩:ki).resFl= .own T .no:=rfl
 rw[hF]
 change Ty.den (C.resTy f)at r
 change _=some r at hr
 generalize C.resTy f=τ at*
 subst hT
 unfold mh at hr
 split at hr
 ·rename_i e' xs
  split at hr
  ·rename_i h0 _
   subst h0
   cases hc:aD xs.length b with
   |false=>rw[hc]at hr;simp at hr
   |true=>
    rw[hc]at hr
    simp only[ac,ae]at hr
    have h0:=m8 (τ:= .list e') (d:=bQ rfl xs) hr
    subst h0
    obtain⟨hb1,hb2⟩:=yq hc
    cases hA with
    |plain _ h1 t=>
     cases t
     have e1:=aC.of_v h1 (by simp)
     simp only[aP]at e1
     obtain⟨p,c,news,hv,hsl,hrows⟩:=tz e1
     simp only[ay,and_true]at hv
     subst hv
     refine(H p _ c news w hsl (by simp only[maxLen];omega) hb1).mono ?_
     rintro x w' ⟨v,rfl,ho,hb⟩
     have hown:=lm ho
     refine⟨v,[v],[v],[],S,(aF v).toList,rfl,rfl,⟨[v],[],v,[],rfl,rfl,rfl,fun h=>(by cases h),fun _=>rfl,rfl,rfl⟩,rfl,oU hb,fun _ x=>x,fun _=> .inl,⟨?_,fun k hk=> ?_⟩,
      ⟨he,v,news,[],rfl,by simp,.inl hown,cC.2 ⟨an.imp (aw.keep (fun _ x=>x) (fun q hq=>hb.block q (hS q hq)) _) _ _ hrows,rfl⟩⟩⟩
     ·cases aF v<;>simp
     ·have hk:aF v=some k:=by simpa using hk
      rcases ho.2 with⟨rfl,_⟩|⟨g,cap,cur,rfl,hg,hh,_⟩
      ·simp[aF]at hk
      ·simp only[aF,aa]at hk
       subst hk
       have hlt:=(Array.getElem?_eq_some_iff.1 hh).1
       exact⟨fun hSk=>by have:=hS _ hSk;omega,.inl hg,hlt⟩
  ·simp at hr
 ·simp at hr
end Go.Ps
