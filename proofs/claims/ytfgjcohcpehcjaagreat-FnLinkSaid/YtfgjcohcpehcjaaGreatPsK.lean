import Derived.Test.YtfgjcohcpehcjaaGreatPsJ
namespace Go.Ps
set_option linter.unusedVariables false
variable {S S':Nat→Prop} {σ σ':Sg} {w w' w0:World} {E:En} {G G0:Gh} {s s' s0:St} {a:Act} {C:b9} {R:Type} {r:R}
theorem cM.trans {W:World} {M M':Nat→Nat→Prop} (h:cM W w M) (hk:cM w w' M') (hM:∀b o,b<W.heap.size→M' b o→M b o):cM W w' M where
 os:=hk.os.trans h.os
 tape:=hk.tape.trans h.tape
 output:=hk.output.trans h.output
 size:=Nat.le_trans h.size hk.size
 block b hb hno:=(hk.block b (Nat.lt_of_lt_of_le hb h.size) fun o ho=>hno o (hM b o hb ho)).trans (h.block b hb hno)
 cells b hb o hno:=⟨(hk.cells b (Nat.lt_of_lt_of_le hb h.size) o fun ho=>hno (hM b o hb ho)).1.trans (h.cells b hb o hno).1,trivial⟩
 frozen b hb o:=(hk.frozen b (Nat.lt_of_lt_of_le hb h.size) o).trans (h.frozen b hb o)
 there b hb o:=(hk.there b (Nat.lt_of_lt_of_le hb h.size) o).trans (h.there b hb o)
theorem eU:∀{ids:List Nat} {s:St} {i:Nat},(s.upds (ids.map (.set · .dead))).mem i=if i∈ids then some .dead else s.mem i
 | [],_,_=>rfl
 |j::ids,s,i=>by
  simp only[List.map_cons,St.upds]
  rw[eU]
  by_cases h:i∈ids
  ·simp[h]
  ·simp only[ak h]
   by_cases e:i=j
   ·subst e;simp[bd]
   ·rw[ax _ _ e];simp[h,e]
theorem aK.dead (h:aK E G s a w) {ids:List Nat} {S'':Nat→Prop} {M':Nat→Nat→Prop} (hm:∀i∈ids,∃b,s.mem i=some b) (hk:cM w w' M')
  (hM:∀b o,M' b o→∃i∈ids,b∈G.β i∧(E.W.heap.size≤b∨E.M b o))
  (hS1:∀b,G.S b→S'' b) (hS2:∀b,S'' b→G.S b∨(w.heap.size≤b∧b<w'.heap.size)∨(∃i∈ids,b∈G.β i∧(E.W.heap.size≤b∨E.O b))):
  aK E ⟨S'',G.σ,fun i=>if i∈ids then[]else G.β i⟩ (s.upds (ids.map (.set · .dead))) a w':=by
 have hno:∀b,(∀i∈ids,b∉G.β i)→b<w.heap.size→w'.heap[b]? =w.heap[b]? :=fun b hb hlt=>hk.block b hlt fun o ho=>by
  obtain⟨i,hi,h1,_⟩:=hM b o ho
  exact hb i hi h1
 refine h.change (du _ _) (fV _ _) (b8.refl _) hS1 (fun q hq=>hno q (fun i _ x=>(h.off i q x).1 hq) (h.old q hq)) (h.kept.trans hk fun b o hb ho=> ?_) (fun i c hc=> ?_) (fun i hi=> ?_) (fun i j hij k hk'=> ?_) (fun i=> ?_) (fun i k hk'=> ?_) (fun b hb=> ?_) (fun i k hk'=> ?_) (fun i L _ hL=> .inl hL) hk.size
 ·obtain⟨i,_,_,h1⟩:=hM b o ho
  exact h1.elim (fun x=>by omega) (fun x=>x)
 ·rw[eU]at hc
  by_cases e:i∈ids
  ·rw[av e]at hc
   simp only[aa]at hc
   subst hc
   obtain⟨b,hb⟩:=hm i e
   obtain⟨L,hL,_⟩:=h.mem i b hb
   exact .inr ⟨L,hL,by simp[kg,e]⟩
  ·rw[ak e]at hc
   exact .inl ⟨hc,by simp[e],fun k hk'=>hno k (fun j hj x=>h.apart i j (fun z=>e (z▸hj)) k hk' x) (h.off i k hk').2⟩
 ·rw[eU]at hi
  by_cases e:i∈ids
  ·rw[av e]at hi;simp at hi
  ·rw[ak e]at hi;exact⟨hi,rfl,by simp[e]⟩
 ·by_cases e1:i∈ids
  ·simp[e1]at hk'
  ·simp only[ak e1]at hk'
   by_cases e2:j∈ids
   ·simp[e2]
   ·simp only[ak e2];exact h.apart i j hij k hk'
 ·by_cases e1:i∈ids
  ·simp[e1]
  ·simp only[ak e1];exact h.nodup i
 ·by_cases e1:i∈ids
  ·simp[e1]at hk'
  ·simp only[ak e1]at hk'
   have:=h.off i k hk'
   refine⟨fun hS=> ?_,Nat.lt_of_lt_of_le this.2 hk.size⟩
   rcases hS2 k hS with x|x|⟨j,hj,x,_⟩
   ·exact this.1 x
   ·omega
   ·exact h.apart i j (fun z=>e1 (z▸hj)) k hk' x
 ·rcases hS2 b hb with x|x|⟨j,hj,x,y⟩
  ·exact .inl x
  ·exact .inr ⟨x.2,.inl (Nat.le_trans h.kept.size x.1)⟩
  ·exact .inr ⟨Nat.lt_of_lt_of_le (h.off j b x).2 hk.size,y⟩
 ·by_cases e1:i∈ids
  ·simp[e1]at hk'
  ·simp only[ak e1]at hk'
   refine(h.mine i k hk').imp (fun x=>x) fun x=>x.imp (fun x=>x) fun⟨g1,cs,L',o,g2,g3⟩=>⟨g1,cs,L',o, ?_,g3⟩
   rw[eU,ak e1];exact g2
theorem kK:∀{cs t:List PV} {n:Nat},bm cs n=some t→aM t<:+aM cs
 |cs,t,0,h=>by simp only[bm,aa]at h;subst h;exact List.suffix_refl _
 | [],t,n+1,h=>by simp[bm]at h
 |p::cs,t,n+1,h=>by
  simp only[bm]at h
  rcases ab h with⟨_,h⟩|⟨_,h⟩
  ·refine(kK h).trans ?_
   simp only[aM,List.flatMap_cons]
   exact List.suffix_append _ _
  ·simp at h
def mU (nw:List (Nat×cj)) (s:St) (cs:List PV):Prop:=(aM cs).Nodup∧∀j∈aM cs,∀T e g xs,ao nw j=some (.rows T e g xs)→s.mem j=some (.rows T e g xs)
theorem mU.suffix {nw:List (Nat×cj)} {cs t:List PV} (h:mU nw s cs) (ht:aM t<:+aM cs):mU nw s t:=⟨h.1.sublist ht.sublist,fun j hj=>h.2 j (ht.subset hj)⟩
theorem tr {nw:List (Nat×cj)}:∀(τ:Ty) (f:Fl) (old new old' new':List PV) (vo vn:List Value) (us:List bJ) {G:Gh} {s:St},aK E G s a w→qP nw τ f old new=some (us,old',new')→aj G.S G.σ w old vo→τ.size≤vo.length→ko G.σ τ f old→
  aj G.S G.σ w new (jj τ f (vo.take τ.size)++vn)→mU nw s new→(∀i∈jv τ f old,s.mem i=some .dead∧G.β i=[])→(jv τ f old).Nodup→
  ∃G',aK E G' (s.upds us) a w∧G'.S=G.S∧G'.σ=G.σ∧bm old τ.size=some old'∧aj G.S G.σ w new' vn∧mU nw (s.upds us) new'∧(∀i k,k∈G'.β i→∃j,k∈G.β j)∧(∀i,i∉jv τ f old→s.mem i=some .dead→G.β i=[]→(s.upds us).mem i=some .dead∧G'.β i=[]):=by
 have dt:∀(τ:Ty) (old new old' new':List PV) (vo vn:List Value) (us:List bJ) {G:Gh} {s:St},aK E G s a w→(match bm old τ.size with
   |some old=>some (([]:List bJ),old,new)
   |none=>none)=some (us,old',new')→aj G.S G.σ w new ([]++vn)→mU nw s new→
   ∃G',aK E G' (s.upds us) a w∧G'.S=G.S∧G'.σ=G.σ∧bm old τ.size=some old'∧aj G.S G.σ w new' vn∧mU nw (s.upds us) new'∧(∀i k,k∈G'.β i→∃j,k∈G.β j)∧(∀i,i∉([]:List Nat)→s.mem i=some .dead→G.β i=[]→(s.upds us).mem i=some .dead∧G'.β i=[]):=by
  intro τ old new old' new' vo vn us G s h e hn hN
  split at e
  ·rename_i t ht
   simp only[aa,ar]at e
   obtain⟨rfl,rfl,rfl⟩:=e
   exact⟨G,h,rfl,rfl,ht,hn,hN,fun i k hk=>⟨i,hk⟩,fun i _ h1 h2=>⟨h1,h2⟩⟩
  ·simp at e
 have one:∀(p:PV) (cs:List PV),p.width=1→bm (p::cs) 1=some cs:=by
  intro p cs hp
  simp only[bm,hp]
  cases cs<;>rfl
 intro τ
 induction τ with
 |list e ih=>
  intro f old new old' new' vo vn us G s h e' ho hle hz hn hN hd hnd
  cases f with
  |own T g=>
   simp only[qP]at e'
   split at e'
   ·rename_i i old1 j new1
    split at e'
    ·rename_i T' e1 g' xs hm0
     split at e'
     ·rename_i he _
      simp only[aa,ar]at e'
      obtain⟨rfl,rfl,rfl⟩:=e'
      subst he
      have hcons:aM (.own j::new1)=j::aM new1:=rfl
      have hm:=hN.2 j (by rw[hcons];simp) _ _ _ _ hm0
      have hNn:=hN.1
      rw[hcons,List.nodup_cons]at hNn
      obtain⟨u,v,rfl,⟨L,p,n,c,hL,hv,hu⟩,hv'⟩:=ho
      subst hu
      obtain⟨u2,v2,e2,⟨L2,p2,n2,c2,hL2,hv2,hu2⟩,hv2'⟩:=hn
      subst hu2
      simp only[jj,Ty.size,List.take_one,List.cons_append,List.nil_append,List.head?_cons,Option.toList_some,ay]at e2
      obtain⟨hvv,rfl⟩:=e2
      obtain⟨L3,hL3,hzz⟩:=hz i _ rfl
      rw[hL]at hL3;simp only[aa]at hL3;subst hL3
      obtain⟨L4,hL4,hB,hz4⟩:=h.mem j _ hm
      rw[hL2]at hL4;simp only[aa]at hL4;subst hL4
      have hLL:L=L2:=by
       cases L;cases L2
       simp only[yN.mk.injEq]
       exact⟨hvv,by simp only at hzz hz4;rw[hzz,hz4]⟩
      subst hLL
      have hdi:=hd i (by simp[jv])
      have hij:i≠j:=fun z=>by subst z;rw[hdi.1]at hm;simp at hm
      have hk:=h.kill hm
      have hadd:=hk.addB (id:=i) (b:= .rows T' e1 g' xs) (L:=L) (B:=G.β j) (.inr (by rw[ax _ _ hij];exact hdi.1)) (.inr hL) (by simp[az,hij,hdi.2]) ⟨hB,hz4⟩ (h.nodup j) (fun k hk'=>⟨(h.off j k hk').1,(h.off j k hk').2,fun q hq=>by
       by_cases e:q=j
       ·simp[az,e]at hq
       ·simp only[az,ak e]at hq;exact h.apart q j e k hq hk'⟩) (fun k hk'=>(h.mine j k hk').imp (fun x=>x) fun x=>x.imp (fun x=>x) fun⟨_,cs0,L0,o0,g1,_⟩=>by rw[hm]at g1;simp at g1)
      have hσ:cc G.σ i L=G.σ:=by
       funext q
       by_cases e:q=i
       ·subst e;rw[bK,hL]
       ·simp[cc,e]
      refine⟨_,hadd,rfl,hσ,one _ _ rfl,hv2',⟨hNn.2,fun q hq T0 e0 g0 xs0 hq0=> ?_⟩,fun q k hq=> ?_,fun q hq h1 h2=> ?_⟩
      ·have hqm:=hN.2 q (by rw[hcons];simp[hq]) _ _ _ _ hq0
       have e1':q≠i:=fun e=>by subst e;rw[hdi.1]at hqm;simp at hqm
       have e2':q≠j:=fun e=>hNn.1 (e▸hq)
       simp only[St.upds]
       rw[ax _ _ e1',ax _ _ e2'];exact hqm
      ·by_cases e:q=i
       ·simp only[az,av e]at hq;exact⟨j,hq⟩
       ·simp only[az,ak e]at hq
        by_cases e2:q=j
        ·simp[e2]at hq
        ·simp only[ak e2]at hq;exact⟨q,hq⟩
      ·have e1':q≠i:=fun e=>hq (by simp[jv,e])
       have e2':q≠j:=fun e=>by subst e;rw[hm]at h1;simp at h1
       refine⟨?_,by simp[az,e1',e2',h2]⟩
       simp only[St.upds]
       rw[ax _ _ e1',ax _ _ e2'];exact h1
     ·simp at e'
    ·simp at e'
   ·rename_i old1 j new1
    simp only[aa,ar]at e'
    obtain⟨rfl,rfl,rfl⟩:=e'
    obtain⟨u,v,rfl,hu,hv'⟩:=ho
    obtain⟨u2,v2,e2,⟨L2,p2,n2,c2,hL2,hv2,hu2⟩,hv2'⟩:=hn
    have hu:u=[.slice none 0 0]:=hu
    subst hu hu2
    simp only[jj,Ty.size,List.take_one,List.cons_append,List.nil_append,List.head?_cons,Option.toList_some,ay]at e2
    obtain⟨_,rfl⟩:=e2
    exact⟨G,h,rfl,rfl,one _ _ rfl,hv2',hN.suffix (List.suffix_cons _ _),fun i k hk=>⟨i,hk⟩,fun i _ h1 h2=>⟨h1,h2⟩⟩
   ·simp at e'
  |_=>exact dt _ _ _ _ _ vo _ _ h e' hn hN
 |pair τa τb iha ihb=>
  intro f old new old' new' vo vn us G s h e' ho hle hz hn hN hd hnd
  cases f with
  |pair f g=>
   simp only[qP]at e'
   split at e'
   ·rename_i u1 old1 new1 h1
    split at e'
    ·rename_i u2 old2 new2 h2
     simp only[aa,ar]at e'
     obtain⟨rfl,rfl,rfl⟩:=e'
     simp only[Ty.size]at hle hn
     simp only[jj,aZ,List.take_take,List.drop_take]at hn
     rw[show min τa.size (τa.size+τb.size)=τa.size by omega,show τa.size+τb.size-τa.size=τb.size by omega]at hn
     have hI:jv (.pair τa τb) (.pair f g) old=jv τa f old++(match bm old τa.size with|some cs=>jv τb g cs|none=>[]):=rfl
     rw[hI]at hd hnd
     obtain⟨n1,n2,n3⟩:=List.nodup_append.1 hnd
     obtain⟨G1,s1,gS,gσ,gd,gn,gN,gβ,gi⟩:=iha f _ _ _ _ vo _ _ h h1 ho (by omega) hz.1 hn hN (fun i hi=>hd i (by simp[hi])) n1
     rw[gd]at hd n2 n3 hnd
     simp only at hd n2 n3 hnd
     have hod:=aj.drop ho gd
     obtain⟨G2,s2,fS,fσ,fd,fn,fN,fβ,fi⟩:=ihb g _ _ _ _ (vo.drop τa.size) _ _ s1 h2 (by rw[gS,gσ];exact hod) (by simp;omega) (by rw[gσ];exact hz.2 _ gd) (by rw[gS,gσ];exact gn) gN (fun i hi=>gi i (fun x=>n3 i x i hi rfl) (hd i (by simp[hi])).1 (hd i (by simp[hi])).2) n2
     refine⟨G2,by rw[bb];exact s2,fS.trans gS,fσ.trans gσ,mi gd fd,by rw[gS,gσ]at fn;exact fn,by rw[bb];exact fN,fun i k hk=> ?_,fun i hi h1' h2'=> ?_⟩
     ·obtain⟨j,hj⟩:=fβ i k hk
      exact gβ j k hj
     ·rw[hI,gd]at hi
      simp only[List.mem_append,not_or]at hi
      obtain⟨q1,q2⟩:=gi i hi.1 h1' h2'
      rw[bb]
      exact fi i hi.2 q1 q2
    ·simp at e'
   ·simp at e'
  |_=>exact dt _ _ _ _ _ vo _ _ h e' hn hN
 |_=>intro f old new old' new' vo vn us G s h e' ho hle hz hn hN hd hnd;cases f<;>exact dt _ _ _ _ _ vo _ _ h e' hn hN
theorem ko.mono (hσ:b8 σ σ'):∀{τ:Ty} {f:Fl} {cs:List PV},ko σ τ f cs→ko σ' τ f cs:=by
 intro τ
 induction τ with
 |list e ih=>
  intro f cs h
  cases f with
  |own T g=>exact fun i t e=>let⟨L,h1,h2⟩:=h i t e;⟨L,hσ _ _ h1,h2⟩
  |_=>trivial
 |pair a b iha ihb=>
  intro f cs h
  cases f with
  |pair f g=>exact⟨iha h.1,fun t ht=>ihb (h.2 t ht)⟩
  |_=>trivial
 |_=>intro f cs h;cases f<;>trivial
theorem iM:∀(τ:Ty) (f:Fl) (cs cs':List PV) (x:τ.den) (U V:List Nat),bN s τ f cs=some (x,cs',U,V)→∀i∈U,∃b,s.mem i=some b∧(∀bs,b= .box bs→i%128≠127):=by
 have dt:∀(τ:Ty) (cs cs':List PV) (x:τ.den) (U V:List Nat),(match d9 cs τ.size,bm cs τ.size with
   |some a,some b=>match be τ (a.map s.dat)with
    |some x=>some (x,b,([]:List Nat),aM a)
    |none=>none
   |_,_=>none)=some (x,cs',U,V)→∀i∈U,∃b,s.mem i=some b∧(∀bs,b= .box bs→i%128≠127):=by
  intro τ cs cs' x U V e
  split at e
  ·split at e
   ·simp only[aa,ar]at e
    rw[←e.2.2.1];simp
   ·simp at e
  ·simp at e
 intro τ
 induction τ with
 |list e ih=>
  intro f cs cs' x U V e'
  cases f with
  |own T g=>
   simp only[bN]at e'
   split at e'
   ·split at e'
    ·rename_i hm
     rcases ab e' with⟨hb,e2⟩|⟨_,e2⟩
     ·split at e2
      ·simp only[aa,ar]at e2
       rw[←e2.2.2.1]
       intro i hi
       simp only[List.mem_singleton]at hi
       subst hi
       exact⟨_,hm,fun bs e=>by simp at e⟩
      ·simp at e2
     ·simp at e2
    ·simp at e'
   ·rcases ab e' with⟨hb,e2⟩|⟨_,e2⟩
    ·simp only[aa,ar]at e2
     rw[←e2.2.2.1];simp
    ·simp at e2
   ·simp at e'
  |_=>exact dt _ _ _ _ _ _ e'
 |opt e ih=>
  intro f cs cs' x U V e'
  cases f with
  |box=>
   simp only[bN]at e'
   split at e'
   ·simp only[aa,ar]at e'
    rw[←e'.2.2.1];simp
   ·split at e'
    ·rename_i hm
     rcases ab e' with⟨hb,e2⟩|⟨_,e2⟩
     ·split at e2
      ·simp only[aa,ar]at e2
       rw[←e2.2.2.1]
       intro i hi
       simp only[List.mem_singleton]at hi
       subst hi
       have hb:i%128<127:=bi hb
       exact⟨_,hm,fun bs e=>by omega⟩
      ·simp at e2
     ·simp at e2
    ·simp at e'
   ·simp at e'
  |_=>exact dt _ _ _ _ _ _ e'
 |pair τa τb iha ihb=>
  intro f cs cs' x U V e'
  cases f with
  |pair f g=>
   simp only[bN]at e'
   split at e'
   ·rename_i x1 cs1 U1 V1 h1
    split at e'
    ·rename_i x2 cs2 U2 V2 h2
     simp only[aa,ar]at e'
     rw[←e'.2.2.1]
     intro i hi
     rcases List.mem_append.1 hi with hi|hi
     ·exact iha f _ _ _ _ _ h1 i hi
     ·exact ihb g _ _ _ _ _ h2 i hi
    ·simp at e'
   ·simp at e'
  |_=>exact dt _ _ _ _ _ _ e'
 |_=>intro f cs cs' x U V e';cases f<;>exact dt _ _ _ _ _ _ e'
theorem As {p:PK} {x:SV} {A:Ar} (e:ee s p x=some A):(∀i∈A.U,∃b,s.mem i=some b∧(∀bs,b= .box bs→i%128≠127))∧(∀i∈A.P,∃cs,s.mem i=some (.box cs)):=by
 cases p<;>simp only[ee]at e
 case raw=>split at e<;>simp at e;subst e;exact⟨by simp,by simp⟩
 case val=>split at e<;>(try split at e)<;>(try split at e)<;>simp at e;subst e;exact⟨by simp,by simp⟩
 case give=>
  split at e
  ·split at e
   ·rename_i hd
    split at e
    ·simp only[aa]at e;subst e;exact⟨iM _ _ _ _ _ _ _ hd,by simp⟩
    ·simp at e
   ·simp at e
  ·simp at e
 case lend=>
  split at e
  ·split at e
   ·rename_i hd
    split at e
    ·simp only[aa]at e;subst e;exact⟨iM _ _ _ _ _ _ _ hd,by simp⟩
    ·simp at e
   ·simp at e
  ·simp at e
 case ro=>split at e<;>(try split at e)<;>simp at e;subst e;exact⟨by simp,by simp⟩
 case var=>
  split at e
  ·split at e
   ·rename_i hm
    split at e
    ·split at e
     ·rename_i hd
      simp only[aa]at e;subst e
      exact⟨iM _ _ _ _ _ _ _ hd,fun i hi=>by simp only[List.mem_singleton]at hi;subst hi;exact⟨_,hm⟩⟩
     ·simp at e
    ·simp at e
   ·simp at e
  ·simp at e
 case dvar=>
  split at e
  ·split at e
   ·split at e
    ·rename_i hm
     split at e
     ·split at e
      ·rename_i hd
       simp only[aa]at e;subst e
       exact⟨iM _ _ _ _ _ _ _ hd,fun i hi=>by simp only[List.mem_singleton]at hi;subst hi;exact⟨_,hm⟩⟩
      ·simp at e
     ·simp at e
    ·simp at e
   ·simp at e
  ·simp at e
theorem me:∀{ps:List PK} {xs:List SV} {A:Ar},cx s ps xs=some A→(∀i∈A.U,∃b,s.mem i=some b∧(∀bs,b= .box bs→i%128≠127))∧(∀i∈A.P,∃cs,s.mem i=some (.box cs))
 | [],[],A,e=>by simp only[cx,aa]at e;subst e;exact⟨by simp,by simp⟩
 | [],_::_,A,e=>by simp[cx]at e
 |_::_,[],A,e=>by simp[cx]at e
 |p::ps,x::xs,A,e=>by
  simp only[cx]at e
  split at e
  ·rename_i A1 A2 h1 h2
   simp only[aa]at e;subst e
   have g1:=As h1
   have g2:=me h2
   exact⟨fun i hi=>(List.mem_append.1 hi).elim (g1.1 i) (g2.1 i),fun i hi=>(List.mem_append.1 hi).elim (g1.2 i) (g2.2 i)⟩
  ·simp at e
theorem At {ps:List PK} {xs:List SV} {A:Ar} (e:cx s ps xs=some A):∀i∈A.U,∃b,s.mem i=some b∧(∀bs,b= .box bs→i%128≠127):=(me e).1
theorem Au {ps:List PK} {xs:List SV} {A:Ar} (e:cx s ps xs=some A):∀i∈A.P,∃cs,s.mem i=some (.box cs):=(me e).2
theorem mV {nw:List (Nat×cj)}:∀{bs:List Bk} {cs:List PV},(∀i∈o3 bs,s.mem i=s'.mem i)→eN s nw bs cs=eN s' nw bs cs:=by
 intro bs
 induction bs with
 |nil=>intro cs _;cases cs<;>rfl
 |cons b bs ih=>
  intro cs h
  cases b with
  |var p τ=>
   cases p<;>try rfl
   rename_i id q
   cases q with
   | «at»o=>
    simp only[eN]
    rw[h id (by simp[o3])]
    have:∀cs,eN s nw bs cs=eN s' nw bs cs:=fun cs=>ih fun i hi=>h i (by simp[o3,hi])
    simp only[this]
   |arr _ _ _ _ _=>rfl
  |lend old τ f=>
   simp only[eN]
   have:∀cs,eN s nw bs cs=eN s' nw bs cs:=fun cs=>ih fun i hi=>h i (by simp[o3,hi])
   simp only[this]
end Go.Ps
