import Derived.Test.YtfgjcohcpehcjaaGreatPsI
namespace Go.Ps
set_option linter.unusedVariables false
variable {S S':Nat→Prop} {σ σ':Sg} {w w':World} {E:En} {G:Gh} {s s':St} {a:Act} {C:b9} {R:Type} {r:R}
theorem oE.length:∀{sh:List (Nat×Bool)} {us xs:List Value},oE sh us xs→us.length=(sh.map (·.1)).foldr (· + ·) 0∧xs.length=sh.length:=by
 intro sh
 induction sh with
 |nil=>intro us xs h;obtain⟨rfl,rfl⟩:=h;exact⟨rfl,rfl⟩
 |cons q sh ih=>
  intro us xs h
  obtain⟨u,v,y,ys,rfl,rfl,hl,_,_,h⟩:=h
  obtain⟨h1,h2⟩:=ih h
  refine⟨?_,by simp[h2]⟩
  rw[List.length_append,h1,hl];rfl
theorem yb {sg:ki} {cs:List PV} {us ms xs:List Value} {x:SV} (hc:aj S σ w cs (us++ms)) (ht:oE sg.shape us xs) (e:t6 sg.res cs=some x):aC S σ w x (kn xs):=by
 have hlen:=ht.length.1
 unfold t6 at e
 split at e
 ·rename_i hres
  simp only[ki.shape,hres,List.map_nil]at ht
  obtain⟨rfl,rfl⟩:=ht
  simp only[aa]at e
  subst e
  exact⟨[],rfl,[],rfl,rfl,rfl⟩
 ·rename_i τ hres
  simp only[ki.shape,hres,List.map_cons,List.map_nil]at ht
  obtain⟨u,v,y,ys,rfl,rfl,hl,h1,_,rfl,rfl⟩:=ht
  split at e
  ·rename_i c hc'
   simp only[aa]at e
   subst e
   have:=(aj.take hc hc').1
   rw[List.append_nil,List.take_append_of_le_length (by omega),List.take_of_length_le (by omega)]at this
   exact⟨u,h1 rfl,this⟩
  ·simp at e
 ·rename_i τ hres
  simp only[ki.shape,hres,List.map_cons,List.map_nil]at ht
  obtain⟨u,v,y,ys,rfl,rfl,hl,_,h2,rfl,rfl⟩:=ht
  split at e
  ·rename_i c hc'
   simp only[aa]at e
   subst e
   have:=(aj.take hc hc').1
   rw[List.append_nil,List.take_append_of_le_length (by omega),List.take_of_length_le (by omega),h2 rfl]at this
   obtain⟨p,q,e1,hp,hq⟩:=this
   cases hq
   simp only[List.append_nil]at e1
   subst e1
   exact aC.v hp
  ·simp at e
 ·rename_i h1 h2 h3
  split at e
  ·rename_i c hc'
   simp only[aa]at e
   subst e
   have h4:=(aj.take hc hc').1
   have hsum:(sg.res.map (·.1.size)).foldr (· + ·) 0=us.length:=by rw[hlen];simp[ki.shape,List.map_map,Function.comp_def]
   rw[hsum,List.take_left]at h4
   have hx:kn xs= .tuple xs.toArray:=by
    have hl2:=ht.length.2
    match xs,hl2 with
    | [],_=>rfl
    | [y],hl2=>
     exfalso
     simp only[ki.shape,List.length_map,List.length_singleton]at hl2
     match hr:sg.res,hl2 with
     | [(τ,true)],_=>exact h2 τ hr
     | [(τ,false)],_=>exact h3 τ hr
    |y::z::xs,_=>rfl
   rw[hx]
   exact⟨xs,rfl,us,h4,ht⟩
  ·simp at e
theorem aK.addB (h:aK E G s a w) {id:Nat} {b:cj} {L:yN} {B:List Nat} (hm:s.mem id=none∨s.mem id=some .dead) (hσ:(G.σ id=none∧(id%128<64∨L.v=E.par id))∨G.σ id=some L) (hβ:G.β id=[])
  (hB:kg G.S (cc G.σ id L) w L b B) (hnd:B.Nodup) (hk:∀k∈B,¬G.S k∧k<w.heap.size∧∀i,k∉G.β i)
  (hmine:∀k∈B,E.W.heap.size≤k∨E.O k∨(id%128=127∧∃cs o,b= .box cs∧L.v= .pointer (some ⟨k,o,none⟩)∧∀j,j<bq cs→E.M k (o+j))):aK E ⟨G.S,cc G.σ id L,az G.β id B⟩ (s.upd (.set id b)) a w:=by
 have hle:b8 G.σ (cc G.σ id L):=fun i L' hL=>by
  by_cases e:i=id
  ·subst e
   rcases hσ with⟨h0,_⟩|h0
   ·rw[h0]at hL;simp at hL
   ·rw[h0]at hL;simp only[aa]at hL;subst hL;exact bK _ _ _
  ·simp[cc,e,hL]
 refine h.change (fU _ _) (oH _ _) hle (fun _ x=>x) (fun _ _=>rfl) h.kept (fun i c hc=> ?_) (fun i hi=> ?_) (fun i j hij k hk'=> ?_) (fun i=> ?_) (fun i k hk'=> ?_) (fun q hq=> .inl hq) (fun i k hk'=> ?_) (fun i L' hi hL'=> ?_) (Nat.le_refl _)
 ·by_cases e:i=id
  ·subst e
   rw[bd]at hc
   simp only[aa]at hc
   subst hc
   exact .inr ⟨L,bK _ _ _,by simpa[az]using hB⟩
  ·rw[ax _ _ e]at hc
   exact .inl ⟨hc,by simp[az,e],fun _ _=>rfl⟩
 ·by_cases e:i=id
  ·subst e;rw[bd]at hi;simp at hi
  ·rw[ax _ _ e]at hi
   exact⟨hi,by simp[cc,e],by simp[az,e]⟩
 ·by_cases e1:i=id
  ·have e2:j≠id:=fun x=>hij (e1.trans x.symm)
   simp only[az,av e1]at hk'
   simp only[az,ak e2]
   exact(hk k hk').2.2 j
  ·simp only[az,ak e1]at hk'
   by_cases e2:j=id
   ·simp only[az,av e2];exact fun x=>(hk k x).2.2 i hk'
   ·simp only[az,ak e2];exact h.apart i j hij k hk'
 ·by_cases e1:i=id
  ·simp only[az,av e1];exact hnd
  ·simp only[az,ak e1];exact h.nodup i
 ·by_cases e1:i=id
  ·simp only[az,av e1]at hk';exact⟨(hk k hk').1,(hk k hk').2.1⟩
  ·simp only[az,ak e1]at hk';exact h.off i k hk'
 ·by_cases e1:i=id
  ·subst e1
   simp only[az,if_true]at hk'
   refine(hmine k hk').imp (fun x=>x) fun x=>x.imp (fun x=>x) fun⟨g1,cs,o,g2,g3,g4⟩=>⟨g1,cs,L,o,by rw[bd,g2],bK _ _ _,g3,g4⟩
  ·simp only[az,ak e1]at hk'
   refine(h.mine i k hk').imp (fun x=>x) fun x=>x.imp (fun x=>x) fun⟨g1,cs,L',o,g2,g3,g4⟩=>⟨g1,cs,L',o, ?_,hle _ _ g3,g4⟩
   rw[ax _ _ e1];exact g2
 ·by_cases e1:i=id
  ·subst e1
   rcases hσ with⟨_,h0⟩|h0
   ·have hL2:cc G.σ i L i=some L':=hL'
    rw[bK]at hL2;simp only[aa]at hL2;subst hL2
    exact .inr (h0.resolve_left (by omega))
   ·have hL2:cc G.σ i L i=some L':=hL'
    rw[bK]at hL2;simp only[aa]at hL2;subst hL2;exact .inl h0
  ·refine .inl ?_
   simpa[cc,e1]using hL'
theorem b8.trans {σ'':Sg} (h:b8 σ σ') (h':b8 σ' σ''):b8 σ σ'':=fun i L e=>h' i L (h i L e)
theorem cq:∀{l:List (Nat×cj)} {s:St} {i:Nat},(∀p∈l,p.1≠i)→(s.upds (cJ l)).mem i=s.mem i
 | [],_,_,_=>rfl
 |p::l,s,i,h=>by
  simp only[cJ,List.map_cons,St.upds]
  rw[show(List.map (fun p=>bJ.set p.1 p.2) l)=cJ l from rfl,cq (fun q hq=>h q (by simp[hq])),ax _ _ (fun e=>h p (by simp) e.symm)]
theorem jf (l l':List (Nat×cj)):cJ (l++l')=cJ l++cJ l':=List.map_append ..
theorem Ah {id:Nat}:∀(τ:Ty) (f:Fl) (x:τ.den) (j:Nat) (k:List PV→List (Nat×cj)→Nat→Option R),AK id τ f x j k=k (aL id τ f x j).1 (aL id τ f x j).2.1 (aL id τ f x j).2.2:=by
 intro τ
 induction τ with
 |list e ih=>intro f x j k;cases f<;>rfl
 |opt e ih=>
  intro f x j k
  cases f with
  |box=>cases x<;>rfl
  |_=>rfl
 |pair a b iha ihb=>
  intro f x j k
  cases f with
  |pair f g=>simp only[AK,iha,ihb,aL]
  |_=>rfl
 |_=>intro f x j k;cases f<;>rfl
theorem dW {id:Nat}:∀(τ:Ty) (f:Fl) (x:τ.den) (j:Nat),j≤(aL id τ f x j).2.2∧∀p∈(aL id τ f x j).2.1,id+j≤p.1∧p.1<id+(aL id τ f x j).2.2:=by
 intro τ
 induction τ with
 |list e ih=>intro f x j;cases f<;>simp[aL]
 |opt e ih=>
  intro f x j
  cases f with
  |box=>cases x<;>simp[aL]
  |_=>simp[aL]
 |pair a b iha ihb=>
  intro f x j
  cases f with
  |pair f g=>
   simp only[aL]
   have h1:=iha f x.1 j
   have h2:=ihb g x.2 (aL id a f x.1 j).2.2
   refine⟨by omega,fun p hp=> ?_⟩
   rcases List.mem_append.1 hp with hp|hp
   ·have:=h1.2 p hp;omega
   ·have:=h2.2 p hp;omega
  |_=>simp[aL]
 |_=>intro f x j;cases f<;>simp[aL]
def bX (id:Nat):(τ:Ty)→Fl→List Value→Nat→List (Nat×Value)×Nat
 | .list _,.own _ _,us,j=>(us.head?.toList.map fun v=>(id+j,v),j+1)
 | .opt _,.box,us,j=>(us.head?.toList.map fun v=>(id+j,v),j+1)
 | .pair a b,.pair f g,us,j=>((bX id a f (us.take a.size) j).1++(bX id b g (us.drop a.size) (bX id a f (us.take a.size) j).2).1,(bX id b g (us.drop a.size) (bX id a f (us.take a.size) j).2).2)
 |_,_,_,j=>([],j)
theorem dq {id:Nat}:∀(τ:Ty) (f:Fl) (x:τ.den) (us:List Value) (j:Nat),(bX id τ f us j).2=(aL id τ f x j).2.2:=by
 intro τ
 induction τ with
 |list e ih=>intro f x us j;cases f<;>rfl
 |opt e ih=>intro f x us j;cases f<;>first|rfl|(cases x<;>rfl)
 |pair a b iha ihb=>
  intro f x us j
  cases f with
  |pair f g=>simp only[bX,aL];rw[ihb g x.2,iha f x.1]
  |_=>rfl
 |_=>intro f x us j;cases f<;>rfl
theorem cA {id:Nat}:∀(τ:Ty) (f:Fl) (us:List Value) (j:Nat),j≤(bX id τ f us j).2∧∀p∈(bX id τ f us j).1,id+j≤p.1∧p.1<id+(bX id τ f us j).2:=by
 intro τ
 induction τ with
 |list e ih=>intro f us j;cases f<;>simp[bX]
 |opt e ih=>intro f us j;cases f<;>simp[bX]
 |pair a b iha ihb=>
  intro f us j
  cases f with
  |pair f g=>
   simp only[bX]
   have h1:=iha f (us.take a.size) j
   have h2:=ihb g (us.drop a.size) (bX id a f (us.take a.size) j).2
   refine⟨by omega,fun p hp=> ?_⟩
   rcases List.mem_append.1 hp with hp|hp
   ·have:=h1.2 p hp;omega
   ·have:=h2.2 p hp;omega
  |_=>simp[bX]
 |_=>intro f us j;cases f<;>simp[bX]
theorem iK {id:Nat}:∀(τ:Ty) (f:Fl) (x:τ.den) (us:List Value) (B:List Nat) (j:Nat) {G:Gh} {s:St},aK E G s a w→aU G.S w τ f x us B→B.Nodup→
  (∀q∈B,¬G.S q∧q<w.heap.size∧(∀i,q∉G.β i)∧(E.W.heap.size≤q∨E.O q))→(∀p∈(aL id τ f x j).2.1,s.mem p.1=none)→(∀p∈(bX id τ f us j).1,p.1%128<64∨p.2=E.par p.1)→
   ∃G',aK E G' (s.upds (cJ (aL id τ f x j).2.1)) a w∧G'.S=G.S∧b8 G.σ G'.σ∧aj G'.S G'.σ w (aL id τ f x j).1 us∧(∀i k,k∈G'.β i→k∈G.β i∨k∈B)∧(∀i,(∀p∈(aL id τ f x j).2.1,p.1≠i)→G'.β i=G.β i):=by
 have dt:∀(τ:Ty) (x:τ.den) (us:List Value) (B:List Nat) {G:Gh} {s:St},aK E G s a w→(aw G.S w τ x us∧B=[])→
    ∃G',aK E G' (s.upds (cJ [])) a w∧G'.S=G.S∧b8 G.σ G'.σ∧aj G'.S G'.σ w (inj τ x) us∧(∀i k,k∈G'.β i→k∈G.β i∨k∈B)∧(∀i,(∀p∈([]:List (Nat×cj)),p.1≠i)→G'.β i=G.β i):=
  fun τ x us B G s h hr=>⟨G,h,rfl,b8.refl _,cD _ _ _ hr.1,fun _ _=> .inl,fun _ _=>rfl⟩
 intro τ
 induction τ with
 |list e ih=>
  intro f x us B j G s h hr hnd hB hn hj
  cases f with
  |own T g=>
   simp only[aL]at hn⊢
   have hn:=hn (id+j,.rows T e g x) (by simp)
   have hr':=hr
   obtain⟨hp,v,vs,B2,rfl,hBe,ho,_⟩:=hr'
   have hm:=hj (id+j,v) (by simp[bX])
   simp only at hm
   obtain⟨hs0,hb0⟩:=h.dom _ hn
   have hsim:=h.addB (id:=id+j) (b:= .rows T e g x) (L:=⟨v,e.size⟩) (B:=B) (.inl hn) (.inl ⟨hs0,hm⟩) hb0 ⟨hr,rfl⟩ hnd (fun q hq=>⟨(hB q hq).1,(hB q hq).2.1,(hB q hq).2.2.1⟩) (fun q hq=>(hB q hq).2.2.2.imp (fun x=>x) .inl)
   refine⟨_,hsim,rfl,ep hs0,aj.one (p:= .own (id+j)) ?_,fun i q hq=> ?_,fun i hi=> ?_⟩
   ·rcases yz.ofF ho with⟨rfl,_⟩|⟨_,_,rfl⟩<;>exact fJ
   ·by_cases e1:i=id+j
    ·simp only[az,av e1]at hq;exact .inr hq
    ·simp only[az,ak e1]at hq;exact .inl hq
   ·have:=hi _ (List.mem_singleton.2 rfl)
    simp only[az,ak (Ne.symm this)]
  |_=>exact dt _ _ _ _ h hr
 |opt e ih=>
  intro f x us B j G s h hr hnd hB hn hj
  cases f with
  |box=>
   rcases hr with⟨rfl,rfl,rfl⟩|⟨y,b,o,vs,rfl,rfl,rfl,hrg,hth,hy⟩
   ·exact⟨G,h,rfl,b8.refl _,⟨_,[],rfl,rfl,rfl⟩,fun _ _=> .inl,fun _ _=>rfl⟩
   ·simp only[aL]at hn⊢
    have hn:=hn (id+j,.box (inj e y)) (by simp)
    have hm:=hj (id+j,.pointer (some ⟨b,o,none⟩)) (by simp[bX])
    simp only at hm
    obtain⟨hs0,hb0⟩:=h.dom _ hn
    have hsim:=h.addB (id:=id+j) (b:= .box (inj e y)) (L:=⟨.pointer (some ⟨b,o,none⟩),0⟩) (B:=[b]) (.inl hn) (.inl ⟨hs0,hm⟩) hb0 ⟨b,o,vs,rfl,cD _ _ _ hy,hrg,hth,rfl⟩ hnd (fun q hq=>⟨(hB q hq).1,(hB q hq).2.1,(hB q hq).2.2.1⟩) (fun q hq=>(hB q hq).2.2.2.imp (fun x=>x) .inl)
    refine⟨_,hsim,rfl,ep hs0,aj.one (p:= .ptr (id+j) (.at 0)) ⟨_,b,o,bK _ _ _,rfl,trivial,by simp[dK.off]⟩,fun i q hq=> ?_,fun i hi=> ?_⟩
    ·by_cases e1:i=id+j
     ·simp only[az,av e1]at hq;exact .inr hq
     ·simp only[az,ak e1]at hq;exact .inl hq
    ·have:=hi _ (List.mem_singleton.2 rfl)
     simp only[az,ak (Ne.symm this)]
  |_=>exact dt _ _ _ _ h hr
 |pair τa τb iha ihb=>
  intro f x us B j G s h hr hnd hB hn hj
  cases f with
  |pair f g=>
   simp only[aL]at hn⊢
   obtain⟨u,v,B1,B2,rfl,rfl,h1,h2⟩:=hr
   have hlu:=aU.length _ _ _ _ _ h1
   simp only[bX,←hlu,List.take_left,List.drop_left]at hj
   rw[dq τa f x.1]at hj
   obtain⟨n1,n2,n3⟩:=List.nodup_append.1 hnd
   have r1:=dW (id:=id) τa f x.1 j
   have r2:=dW (id:=id) τb g x.2 (aL id τa f x.1 j).2.2
   obtain⟨G1,hs1,gS,gσ,gc,gβ,gβ'⟩:=iha f x.1 u B1 j h h1 n1 (fun q hq=>hB q (by simp[hq])) (fun p hp=>hn p (by simp[hp])) (fun p hp=>hj p (by simp[hp]))
   obtain⟨G2,hs2,fS,fσ,fc,fβ,fβ'⟩:=ihb g x.2 v B2 (aL id τa f x.1 j).2.2 hs1 (by rw[gS];exact h2) n2 (fun q hq=>by
     have:=hB q (by simp[hq])
     refine⟨by rw[gS];exact this.1,this.2.1,fun i hi=> ?_,this.2.2.2⟩
     rcases gβ i q hi with x|x
     ·exact this.2.2.1 i x
     ·exact n3 q x q hq rfl) (fun p hp=>by
      rw[cq fun q hq=> ?_]
      ·exact hn p (by simp[hp])
      ·have:=r1.2 q hq;have:=r2.2 p hp;omega) (fun p hp=>hj p (by simp[hp]))
   refine⟨G2, ?_,fS.trans gS,gσ.trans fσ,an.append (aj.keep (fun b hb=>by rw[fS];exact hb) (fun _ _=>rfl) fσ gc) fc,fun i q hq=> ?_,fun i hi=> ?_⟩
   ·rw[jf,bb];exact hs2
   ·rcases fβ i q hq with x|x
    ·exact(gβ i q x).imp (fun x=>x) fun x=>by simp[x]
    ·exact .inr (by simp[x])
   ·rw[fβ' i fun p hp=>hi p (by simp[hp]),gβ' i fun p hp=>hi p (by simp[hp])]
  |_=>exact dt _ _ _ _ h hr
 |_=>intro f x us B j G s h hr hnd hB hn hj;cases f<;>exact dt _ _ _ _ h hr
theorem rM (hC:C.OK) {g:Nat} {sg:ki} (hsg:C.sig g=some sg) (args:Array Value):(callFunc (C.real g) args).run C.P w= .ok (.enter (C.real g) args) w:=by
 obtain⟨F,h1,h2,h3⟩:=hC.call g sg hsg
 simp only[callFunc,program,Sem.run_bind]
 have:(Sem.program Sem.pure:Sem Program).run C.P w= .ok C.P w:=rfl
 rw[this]
 simp only[Result.andThen_ok,h1,h3,Bool.false_eq_true,if_false]
 have:F.body.isNone=false:=by cases hb:F.body<;>simp_all
 simp[this]
end Go.Ps
