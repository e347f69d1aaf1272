import Derived.Test.YtegcfpicnjpihaaGreatPsP
namespace Go.Ps
set_option linter.unusedVariables false
variable {C:bP} {R:Type} {s s':St}
def iU (s s':St) (i:Nat):Prop:=s'.mem i=s.mem i∨(bq s i=false∧bq s' i=false∧(s'.mem i).map bW.frz=(s.mem i).map bW.frz)
theorem iU.frz {i:Nat} (h:iU s s' i):(s'.mem i).map bW.frz=(s.mem i).map bW.frz:=by
 rcases h with h|⟨_,_,h⟩
 ·rw[h]
 ·exact h
theorem oh (s:St) (i:Nat):s.asList (.own i)=match(s.mem i).map bW.frz with
  |some (.frows e xs)=>some ⟨e,xs⟩
  |_=>none:=by
 simp only[St.asList]
 cases s.mem i with
 |none=>rfl
 |some b=>cases b<;>rfl
theorem iU.own {i:Nat} (h:iU s s' i):s'.asList (.own i)=s.asList (.own i):=by
 rw[oh,oh,h.frz]
theorem fy {p:PV} (h:∀i∈p.owns,iU s s' i):s'.asList p=s.asList p:=by
 cases p<;>try rfl
 exact(h _ (by simp[PV.owns])).own
theorem q9 {s:St} {id:Nat} (hd:bq s id=false):s.asRow (.own id)=s.asList (.own id):=by
 unfold bq at hd
 simp only[St.asRow]
 cases hm:s.mem id with
 |none=>rfl
 |some b=>
  rw[hm]at hd
  cases b<;>first|rfl|simp at hd
theorem rb {p:PV} (h:∀i∈p.owns,iU s s' i):s'.asRow p=s.asRow p:=by
 have h1:=fy h
 cases p<;>try exact h1
 rename_i id
 rcases h id (by simp[PV.owns])with h0|⟨h2,h3,_⟩
 ·simp only[St.asRow,h0,h1]
 ·rw[q9 h2,q9 h3,h1]
theorem yC {p:PV} (h:∀i∈p.owns,iU s s' i):s'.dat p=s.dat p:=by
 cases p<;>try rfl
 simp only[St.dat,fy h]
theorem dp {cs:List PV} (h:∀i∈aE cs,iU s s' i):cs.map s'.dat=cs.map s.dat:=
 List.map_congr_left fun p hp=>yC fun i hi=>h i (List.mem_flatMap.2 ⟨p,hp,hi⟩)
theorem rc (s:St) (i:Nat):m9 s i=match(s.mem i).map bW.frz with
  |some (.fbox cs)=>some cs
  |_=>none:=by
 simp only[m9]
 cases s.mem i with
 |none=>rfl
 |some b=>cases b<;>rfl
theorem iU.box {i:Nat} (h:iU s s' i):m9 s' i=m9 s i:=by
 rw[rc,rc,h.frz]
theorem tN (s:St) (i:Nat) (q:dr) (n:Nat):s.look (.ptr i q) n=(m9 s i).bind fun cs=>gU cs q n:=by
 simp only[St.look,m9]
 cases s.mem i with
 |none=>rfl
 |some b=>cases b<;>rfl
theorem tO {s:St} {id:Nat} (h:bq s id=false) (i:Int) (q:dr) (n:Nat):s.look (.elt id i q) n=match(s.mem id).map bW.frz with
  |some (.frows e xs)=>gU (inj e (rd xs i)) q n
  |_=>none:=by
 unfold bq at h
 simp only[St.look]
 cases hm:s.mem id with
 |none=>rfl
 |some b=>
  rw[hm]at h
  cases b<;>try rfl
  rename_i T e f xs
  simp only[Bool.not_eq_false']at h
  simp only[h,Bool.true_or,cond_true,Option.map_some,bW.frz]
  cases gU (inj e (rd xs i)) q n<;>rfl
theorem tP {p:PV} {n:Nat} (h:∀i∈p.leads,iU s s' i):s'.look p n=s.look p n:=by
 cases p<;>try rfl
 case ptr id q=>rw[tN,tN,(h id (by simp[PV.leads])).box]
 case elt id i q=>
  have h:=h id (by simp[PV.leads])
  rcases h with h|⟨h3,h4,h⟩
  ·simp only[St.look,h]
  ·rw[tO h3,tO h4,h]
theorem tQ {i:Nat} (h:iU s s' i):bq s' i=bq s i:=by
 rcases h with h|⟨h1,h2,_⟩
 ·unfold bq;rw[h]
 ·rw[h1,h2]
theorem l7:∀{τ:Ty} {f:Fl} {cs:List PV} {q:τ.den×List PV×List Nat×List Nat},bw s τ f cs=some q→(∀i∈q.2.2.1,s'.mem i=s.mem i)→(∀i∈q.2.2.2,iU s s' i)→bw s' τ f cs=some q:=by
 have dt:∀{τ:Ty} {cs:List PV} {q:τ.den×List PV×List Nat×List Nat},(match dP cs τ.size,aY cs τ.size with
  |some a,some b=>match aQ τ (a.map s.dat)with
   |some x=>some (x,b,[],aE a)
   |none=>none
  |_,_=>none)=some q→(∀i∈q.2.2.2,iU s s' i)→(match dP cs τ.size,aY cs τ.size with
  |some a,some b=>match aQ τ (a.map s'.dat)with
   |some x=>some (x,b,[],aE a)
   |none=>none
  |_,_=>none)=some q:=by
  intro τ cs q e h
  split at e
  ·rename_i a b ha hb
   split at e
   ·rename_i x hx
    simp only[Option.some.injEq]at e
    subst e
    rw[dp h,hx]
   ·simp at e
  ·simp at e
 intro τ
 induction τ with
 |list e ih=>
  intro f cs q h hU hV
  cases f with
  |own T g=>
   simp only[bw]at h⊢
   split at h
   ·rename_i i cs
    split at h
    ·rename_i T' e' g' xs hm
     rcases Bool.eq_false_or_eq_true (Nat.beq T' T&&decide (g'=g))with hc|hc
     ·rw[hc,cond_true]at h
      split at h
      ·rename_i he hd
       simp only[Option.some.injEq]at h
       subst h
       simp only[hU i (by simp),hm,hc,cond_true,hd]
      ·simp at h
     ·rw[hc]at h;simp at h
    ·simp at h
   ·exact h
   ·simp at h
  |_=>exact dt h hV
 |opt e ih=>
  intro f cs q h hU hV
  cases f with
  |box=>
   simp only[bw]at h⊢
   split at h
   ·exact h
   ·rename_i i cs
    split at h
    ·rename_i bs hm
     rcases Bool.eq_false_or_eq_true (Nat.blt (i%128) 127)with hc|hc
     ·rw[hc,cond_true]at h
      split at h
      ·rename_i x hx
       simp only[Option.some.injEq]at h
       subst h
       simp only[hU i (by simp),hm,hc,cond_true,dp hV,hx]
      ·simp at h
     ·rw[hc]at h;simp at h
    ·simp at h
   ·simp at h
  |_=>exact dt h hV
 |pair a b iha ihb=>
  intro f cs q h hU hV
  cases f with
  |pair f g=>
   simp only[bw]at h⊢
   split at h
   ·rename_i x cs1 U V h1
    split at h
    ·rename_i y cs2 U' V' h2
     simp only[Option.some.injEq]at h
     subst h
     rw[iha h1 (fun i hi=>hU i (by simp;exact .inl hi)) (fun i hi=>hV i (by simp;exact .inl hi))]
     simp only[]
     rw[ihb h2 (fun i hi=>hU i (by simp;exact .inr hi)) (fun i hi=>hV i (by simp;exact .inr hi))]
    ·simp at h
   ·simp at h
  |_=>exact dt h hV
 |_=>intro f cs q h hU hV;exact dt h hV
theorem zD {p:PK} {x:SV} {A:Ar} (e:eh s p x=some A) (hU:∀i∈A.U++A.P,s'.mem i=s.mem i) (hV:∀i∈A.V,iU s s' i):eh s' p x=some A:=by
 cases p with
 |raw=>
  simp only[eh]at e⊢
  split at e
  ·simp only[Option.some.injEq]at e;subst e;rw[yC hV]
  ·simp at e
 |val τ=>
  simp only[eh]at e⊢
  split at e
  ·split at e
   ·rename_i d hd
    split at e
    ·rename_i y hy
     simp only[Option.some.injEq]at e;subst e
     rw[dp hV,hd];simp only[hy]
    ·simp at e
   ·simp at e
  ·simp at e
 |give τ f=>
  simp only[eh]at e⊢
  split at e
  ·split at e
   ·rename_i d U V hd
    split at e
    ·rename_i y hy
     simp only[Option.some.injEq]at e;subst e
     rw[l7 hd (fun i hi=>hU i (by simp;exact hi)) hV];simp only[hy]
    ·simp at e
   ·simp at e
  ·simp at e
 |lend τ f=>
  simp only[eh]at e⊢
  split at e
  ·split at e
   ·rename_i d U V hd
    split at e
    ·rename_i y hy
     simp only[Option.some.injEq]at e;subst e
     rw[l7 hd (fun i hi=>hU i (by simp;exact hi)) hV];simp only[hy]
    ·simp at e
   ·simp at e
  ·simp at e
 |ro τ=>
  simp only[eh]at e⊢
  split at e
  ·rename_i cs hcs
   split at e
   ·rename_i d hd
    simp only[Option.some.injEq]at e;subst e
    rw[tP fun i hi=>hV i (by simp;exact .inl hi),hcs]
    simp only[]
    rw[dp fun i hi=>hV i (by simp;exact .inr hi),hd]
   ·simp at e
  ·simp at e
 |var τ f=>
  simp only[eh]at e⊢
  split at e
  ·rename_i id o hx
   split at e
   ·rename_i bs hm
    split at e
    ·rename_i cs hcs
     split at e
     ·rename_i d U V hd
      simp only[Option.some.injEq]at e;subst e
      rw[hU id (by simp),hm]
      simp only[hcs]
      rw[l7 hd (fun i hi=>hU i (by simp;exact .inl hi)) hV]
     ·simp at e
    ·simp at e
   ·simp at e
  ·simp at e
theorem ol:∀{ps:List PK} {xs:List SV} {A:Ar},cg s ps xs=some A→(∀i∈A.U++A.P,s'.mem i=s.mem i)→(∀i∈A.V,iU s s' i)→cg s' ps xs=some A
 | [],[],A,e,_,_=>e
 | [],_::_,A,e,_,_=>by simp[cg]at e
 |_::_,[],A,e,_,_=>by simp[cg]at e
 |p::ps,x::xs,A,e,hU,hV=>by
  simp only[cg]at e⊢
  split at e
  ·rename_i a b ha hb
   simp only[Option.some.injEq]at e;subst e
   rw[zD ha (fun i hi=>hU i (by simp at hi⊢;rcases hi with hi|hi<;>simp[hi])) (fun i hi=>hV i (by simp;exact .inl hi)),
    ol hb (fun i hi=>hU i (by simp at hi⊢;rcases hi with hi|hi<;>simp[hi])) (fun i hi=>hV i (by simp;exact .inr hi))]
  ·simp at e
theorem zE {p:PK} {x:SV} {q:qh×List Nat} (e:rC s p x=some q) (h:∀i∈q.2,iU s s' i):rC s' p x=some q:=by
 cases p<;>simp only[rC]at e⊢ <;>try (simp at e;done)
 case val τ=>
  split at e
  ·split at e
   ·rename_i d hd
    split at e
    ·rename_i y hy
     simp only[Option.some.injEq]at e;subst e
     rw[dp h,hd];simp only[hy]
    ·simp at e
   ·simp at e
  ·simp at e
 case ro τ=>
  split at e
  ·rename_i id hx
   split at e
   ·rename_i cs hcs
    split at e
    ·rename_i d hd
     simp only[Option.some.injEq]at e;subst e
     rw[(h id (by simp)).box,hcs]
     simp only[]
     rw[dp fun i hi=>h i (by simp[hi]),hd]
    ·simp at e
   ·simp at e
  ·exact e
  ·simp at e
 case var τ f=>exact e
theorem oo:∀{ps:List PK} {xs:List SV} {q:List qh×List Nat},eW s ps xs=some q→(∀i∈q.2,iU s s' i)→eW s' ps xs=some q
 | [],[],q,e,_=>e
 | [],_::_,q,e,_=>by simp[eW]at e
 |_::_,[],q,e,_=>by simp[eW]at e
 |p::ps,x::xs,q,e,h=>by
  simp only[eW]at e⊢
  split at e
  ·rename_i c i cs is hc hcs
   simp only[Option.some.injEq]at e;subst e
   rw[zE hc fun j hj=>h j (by simp;exact .inl hj),oo hcs fun j hj=>h j (by simp;exact .inr hj)]
  ·simp at e
theorem oq {e:Ty}:∀{ps:List (Nat×SV)} {i:Nat},(∀j∈aE (bd ps),iU s s' j)→iB e s' i ps=iB e s i ps
 | [],_,_=>rfl
 |(j,x)::ps,i,h=>by
  simp only[iB]
  refine cv _ _ _ _ _ ?_ rfl
  cases hx:x.cells with
  |none=>rfl
  |some c=>
   simp only[]
   simp only[bd,hx,Option.getD_some,aE,List.flatMap_append,List.mem_append]at h
   rw[dp fun k hk=>h k (.inl hk),oq fun k hk=>h k (.inr hk)]
theorem wu {e:Ty} {y:PV} (h:∀i∈y.owns,iU s s' i):kO s' e y=kO s e y:=by
 have h1:=fy h
 unfold kO
 cases y<;>first|rfl|simp only[h1]
theorem zG {y:PV} (h:∀i∈y.owns,iU s s' i):ks s' y=ks s y:=by
 cases y<;>try rfl
 rename_i id
 have h:=h id (by simp[PV.owns])
 simp only[ks]
 rcases h with h|⟨h1,h2,_⟩
 ·rw[h]
 ·have key:∀s:St,bq s id=false→(match s.mem id with
   |some (.rows _ _ f _)=>bif f.isNo then[]else[bD.frz id]
   |_=>[])=[]:=by
   intro s hd
   unfold bq at hd
   cases hm:s.mem id with
   |none=>rfl
   |some b=>
    rw[hm]at hd
    cases b<;>try rfl
    rename_i T e f xs
    simp only[Bool.not_eq_false']at hd
    simp only[hd,cond_true]
  exact(key s' h2).trans (key s h1).symm
theorem cC {id:Nat} {x:Option R} (h:s'.mem id=s.mem id):cw s' id x=cw s id x:=by
 unfold cw;rw[h]
theorem kC {new:List PV} (h0:aE new=[]) (cs:List PV) (q:dr) (n:Nat):gt s'.dat cs q n new=gt s.dat cs q n new:=by
 have:=dp (s:=s) (s':=s') (cs:=new) fun i hi=>by rw[h0]at hi;cases hi
 unfold gt
 cases q with
 | «at»o=>rfl
 |arr o e m j q=>simp only[this]
theorem Du (s:St) (p:PV):(s.dat p).owns=[]:=by
 cases p<;>try rfl
 case own id=>simp only[St.dat];cases s.asList (.own id)<;>rfl
 case fn f caps=>simp only[St.dat];generalize List.all caps _=b;cases b<;>rfl
theorem zH (s:St) (cs:List PV):aE (cs.map s.dat)=[]:=by
 induction cs with
 |nil=>rfl
 |cons c cs ih=>simp only[List.map_cons,aE,List.flatMap_cons]at ih⊢;rw[Du,ih];rfl
theorem wv {t:TypeId} {p:PV} {x:SV} {us:List bD} {rs:List Nat} (e:gw C s t p x eS=some (us,rs)) (hw:∀i∈ba us,s'.mem i=s.mem i) (hr:∀i∈updF us++rs,iU s s' i):gw C s' t p x eS=some (us,rs):=by
 rw[←e]
 unfold gw at e⊢
 split at e
 ·rename_i I new hI hnew
  rcases ac e with⟨hc,e⟩|⟨_,e⟩
  ·simp only[hc,cond_true]
   split at e
   ·rename_i id q _
    split at e
    ·rename_i cs hm
     have hid:id∈ba us:=by
      split at e
      ·split at e
       ·simp only[eS,Option.some.injEq,Prod.mk.injEq]at e;rw[←e.1];simp[ba]
       ·simp at e
      ·rcases ac e with⟨_,e⟩|⟨_,e⟩
       ·split at e
        ·simp only[eS,Option.some.injEq,Prod.mk.injEq]at e;rw[←e.1];simp[ba]
        ·simp at e
       ·simp at e
     simp only[hw id hid,hm]
     split at e
     ·rfl
     ·rcases ac e with⟨hn,e⟩|⟨_,e⟩
      ·have:=kC (s:=s) (s':=s') (show aE new=[] by simpa using hn)
       simp only[this]
      ·simp at e
    ·simp at e
   ·rename_i id i q _
    split at e
    ·rename_i T el f xs hm
     rcases ac e with⟨hc2,e⟩|⟨hc2,e⟩
     ·split at e
      ·rename_i cs' hcs
       split at e
       ·rename_i x' hx'
        simp only[eS,Option.some.injEq,Prod.mk.injEq]at e
        have hid:id∈ba us:=by
         rw[←e.1]
         have:∀(l:List Nat) (us:List bD),ba (l.map .frz++us)=ba us:=fun l us=>by induction l with|nil=>rfl|cons _ _ ih=>simpa[ba]using ih
         simp[zZ,this,ba]
        simp only[hw id hid,hm,hc2,cond_true]
        rw[dp fun i hi=>hr i (by rw[←e.2];simp[hi]),kC (s:=s) (zH s new)];simp only[hcs,hx']
       ·simp at e
      ·simp at e
     ·have hd:(bif (aE new).isEmpty then gv el f (rd xs i) q I.size (new.map s'.dat)else none)=bif (aE new).isEmpty then gv el f (rd xs i) q I.size (new.map s.dat)else none:=by
       cases hn:(aE new).isEmpty with
       |false=>rfl
       |true=>rw[dp (s:=s) (s':=s') fun i hi=>by rw[List.isEmpty_iff.1 hn]at hi;simp at hi]
      have hid:id∈ba us:=by
       split at e
       ·simp only[eS,Option.some.injEq,Prod.mk.injEq]at e;rw[←e.1];simp[ba]
       ·split at e
        ·rcases ac e with⟨_,e⟩|⟨_,e⟩
         ·split at e
          ·simp only[eS,Option.some.injEq,Prod.mk.injEq]at e;rw[←e.1];simp[ba]
          ·simp at e
         ·simp at e
        ·simp at e
      simp only[hw id hid,hm,hc2,cond_false,hd]
    ·rename_i T el f xs i' cs0 hm
     rcases ac e with⟨hc2,e⟩|⟨_,e⟩
     ·have hid:id∈ba us:=by
       split at e
       ·split at e
        ·simp only[eS,Option.some.injEq,Prod.mk.injEq]at e;rw[←e.1];simp[ba]
        ·simp at e
       ·rcases ac e with⟨_,e⟩|⟨_,e⟩
        ·split at e
         ·simp only[eS,Option.some.injEq,Prod.mk.injEq]at e;rw[←e.1];simp[ba]
         ·simp at e
        ·simp at e
      simp only[hw id hid,hm,hc2,cond_true]
      split at e
      ·rfl
      ·rcases ac e with⟨hn,e⟩|⟨_,e⟩
       ·have:=kC (s:=s) (s':=s') (show aE new=[] by simpa using hn)
        simp only[this]
       ·simp at e
     ·simp at e
    ·simp at e
   ·simp at e
  ·simp at e
 ·simp at e
theorem ww {l:List (Nat×bW)} (h:∀p∈l,s'.mem p.1=s.mem p.1):fG s' l=fG s l:=by
 unfold fG
 induction l with
 |nil=>rfl
 |cons p l ih=>simp only[List.all_cons];rw[h p (by simp),ih fun q hq=>h q (by simp[hq])]
theorem zI {id:Nat} {t:TypeId} {p:PV} {x:SV} {us:List bD} (e:kr C s id t p eS=some (x,us)) (hw:∀i∈ba us,s'.mem i=s.mem i) (hr:∀i∈p.leads,iU s s' i):kr C s' id t p eS=some (x,us):=by
 unfold kr at e⊢
 split at e
 ·rename_i I hI
  rw[tP hr]
  split at e
  ·exact e
  ·rw[←e]
   unfold o6 at e⊢
   split at e
   ·rename_i j i q _
    split at e
    ·rename_i T e1 f xs hm
     rcases ac e with⟨hc,e⟩|⟨_,e⟩
     ·split at e
      ·rename_i cs hcs
       have hus: .set j .dead::(cp (aD id e1 f (rd xs i) 0).2.1++[.set j (.opn T e1 f xs i (aD id e1 f (rd xs i) 0).1)])=us:=by
        rcases l9 e with⟨_,e⟩|⟨_,c,_,_,e⟩
        ·simp only[eS,Option.some.injEq,Prod.mk.injEq]at e;exact e.2
        ·simp only[eS,Option.some.injEq,Prod.mk.injEq]at e;exact e.2
       have hWs:∀(l:List (Nat×bW)) (us:List bD),ba (cp l++us)=l.map (·.1)++ba us:=fun l us=>by
        induction l with
        |nil=>rfl
        |cons u a ih=>simpa[ba,cp]using ih
       rw[←hus]at hw
       simp only[ba,hWs]at hw
       simp only[hw j (by simp),hm]
       rw[ww fun p hp=>hw p.1 (List.mem_cons_of_mem _ (List.mem_append_left _ (List.mem_map.2 ⟨p,hp,rfl⟩)))]
       simp only[hcs]
      ·simp at e
     ·simp at e
    ·rename_i hm
     have hj:s'.mem j=s.mem j:=by
      rcases hr j (by simp[PV.leads])with h|⟨h,_⟩
      ·exact h
      ·unfold bq at h;rw[hm]at h;simp at h
     simp only[hj,hm]
    ·simp at e
   ·simp at e
 ·simp at e
theorem Dv {t:TypeId} {x:PV} {k:PV→Option R} (h:∀i∈x.owns,iU s s' i):qE C s' t x k=qE C s t x k:=by
 have h1:=rb h
 unfold qE
 cases x<;>first|rfl|simp only[h1]
theorem zJ {src dst:TypeId} {x:PV} {k:PV→Option R} (h:∀i∈x.owns,iU s s' i):kt C s' src dst x k=kt C s src dst x k:=by
 have h1:=fy h
 unfold kt
 cases C.ti src<;>cases C.ti dst<;>cases x<;>first|rfl|simp only[h1]
theorem ot {t:TypeId} {x i:PV} {k:PV→Option R} (h:∀j∈x.owns,iU s s' j):bZ C s' t x i k=bZ C s t x i k:=by
 unfold bZ
 cases i<;>try rfl
 cases x with
 |own id=>have h1:=rb h;simp only[h1]
 |ptr id p=>cases p<;>rfl
 |elt id j p=>cases p<;>rfl
 |_=>rfl
theorem Dw (l:List Nat) (us:List bD):ba (l.map .frz++us)=ba us:=by induction l with|nil=>rfl|cons _ _ ih=>simpa[ba]using ih
theorem k9 {x:Option PV} {d:Int} {k:Int→Option R} {r:R} (e:iC x d k=some r):∃n,k n=some r:=by
 unfold iC at e;split at e
 ·exact⟨_,e⟩
 ·exact⟨_,e⟩
 ·simp at e
theorem wx {t:TypeId} {x:PV} {lo hi:Option PV} {p:PV} {us:List bD} (e:gy C s t x lo hi eS=some (p,us)) (hr:∀i∈updF us,iU s s' i):gy C s' t x lo hi eS=some (p,us):=by
 have hx:∀i∈x.owns,iU s s' i:=by
  intro i hi
  cases x<;>simp only[PV.owns,List.not_mem_nil,List.mem_singleton]at hi
  subst hi
  refine hr i ?_
  unfold gy at e
  simp only[]at e
  split at e
  ·rcases ac e with⟨_,e⟩|⟨_,e⟩
   ·obtain⟨l,e⟩:=k9 e
    obtain⟨m,e⟩:=k9 e
    rcases ac e with⟨_,e⟩|⟨_,e⟩
    ·simp only[eS,Option.some.injEq,Prod.mk.injEq]at e;rw[←e.2];simp[PV.owns,updF]
    ·simp at e
   ·simp at e
  ·simp at e
 have h1:=fy hx
 rw[←e]
 unfold gy
 cases x<;>first|rfl|simp only[h1]
theorem ou {id:Nat} {t:TypeId} {n p:PV} {us:List bD} (e:cq C s id t n eS=some (p,us)) (hw:∀i∈ba us,s'.mem i=s.mem i):cq C s' id t n eS=some (p,us):=by
 rw[←e]
 unfold cq at e⊢
 split at e
 ·split at e
  ·split at e
   ·rcases ac e with⟨_,e⟩|⟨_,e⟩
    ·have e1:=(aN e).2
     rcases ac e1 with⟨_,e1⟩|⟨_,e1⟩
     ·simp only[eS,Option.some.injEq,Prod.mk.injEq]at e1
      rw[cC (hw id (by rw[←e1.2];simp[ba]))]
     ·simp at e1
    ·simp at e
   ·simp at e
  ·simp at e
 ·simp at e
theorem wy {id:Nat} {src dst:TypeId} {x p:PV} {us:List bD} (e:gz C s id src dst x eS=some (p,us)) (hw:∀i∈ba us,s'.mem i=s.mem i):gz C s' id src dst x eS=some (p,us):=by
 rw[←e]
 unfold gz at e⊢
 split at e
 ·rcases ac e with⟨hb,e⟩|⟨_,e⟩
  ·rw[hb,cond_true,cond_true]
   split at e
   ·have e1:=(aN e).2
    rcases ac e1 with⟨_,e1⟩|⟨_,e1⟩
    ·simp only[eS,Option.some.injEq,Prod.mk.injEq]at e1
     rw[cC (hw id (by rw[←e1.2];simp[ba]))]
    ·simp at e1
   ·simp at e
  ·simp at e
 ·simp at e
theorem Dx {id:Nat} {e:TypeId} {τ:Ty} {x y:PV} (hy:∀j∈y.owns,iU s s' j) (hx:∀l∈x.owns,s'.mem l=s.mem l):ny s' id e τ x y=ny s id e τ x y:=by
 cases y<;>try rfl
 rename_i j
 have hx':∀l,x= .own l→s'.mem l=s.mem l:=fun l hl=>hx l (by rw[hl];simp[PV.owns])
 rcases hy j (by simp[PV.owns])with h|⟨h1,h2,_⟩
 ·unfold ny
  simp only[h]
  cases x<;>try rfl
  simp only[hx' _ rfl]
 ·have key:∀s:St,bq s j=false→ny s id e τ x (.own j)=none:=by
   intro s hd
   unfold bq at hd
   unfold ny
   simp only[]
   cases hm:s.mem j with
   |none=>rfl
   |some b=>
    rw[hm]at hd
    cases b<;>first|rfl|simp at hd|skip
    rename_i T e0 f xs
    simp[hd]
  rw[key s h1,key s' h2]
theorem Dy {id m:Nat} {e:TypeId} {τ:Ty} {x y:PV} {us:List bD} (h:ny s id e τ x y=some (m,us)):(∀i∈y.owns,i∈ba us)∧(∀i∈x.owns,i∈ba us)∧id∈ba us:=by
 unfold ny at h
 split at h
 ·split at h
  ·rcases ac h with⟨_,h⟩|⟨_,h⟩
   ·split at h
    ·split at h
     ·simp only[Option.some.injEq,Prod.mk.injEq]at h;rw[←h.2];simp[PV.owns,ba]
     ·split at h
      ·rcases ac h with⟨_,h⟩|⟨_,h⟩
       ·split at h
        ·simp only[Option.some.injEq,Prod.mk.injEq]at h;rw[←h.2];simp[PV.owns,ba]
        ·simp at h
       ·simp at h
      ·simp at h
     ·simp at h
    ·simp at h
   ·simp at h
  ·rcases ac h with⟨_,h⟩|⟨_,h⟩
   ·split at h
    ·split at h
     ·split at h
      ·rcases ac h with⟨_,h⟩|⟨_,h⟩
       ·split at h
        ·simp only[Option.some.injEq,Prod.mk.injEq]at h;rw[←h.2];simp[PV.owns,ba]
        ·simp at h
       ·simp at h
      ·simp at h
     ·simp at h
    ·simp at h
   ·simp at h
  ·simp at h
 ·simp at h
theorem tR {id:Nat} {sl:TypeId} {x y p:PV} {us:List bD} (e:dB C s id sl x y eS=some (p,us)) (hw:∀i∈ba us,s'.mem i=s.mem i) (hy:∀i∈y.owns,iU s s' i):dB C s' id sl x y eS=some (p,us):=by
 rw[←e]
 have hu:=zG hy
 have hwm:∀vs:List bD,∀i∈ba vs,i∈ba (ks s y++vs):=by
  intro vs i hi
  have:∀a b:List bD,ba (a++b)=ba a++ba b:=fun a b=>by
   induction a with
   |nil=>rfl
   |cons u a ih=>cases u<;>simp[ba,ih]
  rw[this];simp[hi]
 have hwa:∀a b:List bD,ba (a++b)=ba a++ba b:=fun a b=>by
  induction a with
  |nil=>rfl
  |cons u a ih=>cases u<;>simp[ba,ih]
 have hxw:∀l∈x.owns,s'.mem l=s.mem l:=by
  intro l hl
  refine hw l ?_
  unfold dB at e
  split at e
  ·split at e
   ·rcases ac e with⟨hb,e⟩|⟨_,e⟩
    ·split at e
     ·rename_i had
      have e1:=(aN e).2
      rcases ac e1 with⟨_,e1⟩|⟨_,e1⟩
      ·simp only[eS,Option.some.injEq,Prod.mk.injEq]at e1
       rw[←e1.2];exact(Dy had).2.1 l hl
      ·simp at e1
     ·split at e
      ·split at e
       ·simp[PV.owns]at hl
       ·split at e
        ·rcases ac e with⟨_,e⟩|⟨_,e⟩
         ·split at e
          ·have e1:=(aN e).2
           rcases ac e1 with⟨_,e1⟩|⟨_,e1⟩
           ·simp only[eS,Option.some.injEq,Prod.mk.injEq]at e1
            simp only[PV.owns,List.mem_singleton]at hl
            rw[←e1.2,hwa,hl];simp[ba]
           ·simp at e1
          ·simp at e
         ·simp at e
        ·simp at e
       ·simp at e
      ·simp at e
    ·simp at e
   ·simp at e
  ·simp at e
 unfold dB at e⊢
 split at e
 ·split at e
  ·rcases ac e with⟨hb,e⟩|⟨_,e⟩
   ·rw[wu hy,Dx hy hxw]
    simp only[hb,cond_true]
    split at e
    ·rename_i had
     have e1:=(aN e).2
     rcases ac e1 with⟨_,e1⟩|⟨_,e1⟩
     ·simp only[eS,Option.some.injEq,Prod.mk.injEq]at e1
      rw[cC (hw id (by rw[←e1.2];exact(Dy had).2.2))]
     ·simp at e1
    rename_i hno0
    clear hno0
    split at e
    ·split at e
     ·have e1:=(aN e).2
      rcases ac e1 with⟨_,e1⟩|⟨_,e1⟩
      ·simp only[eS,Option.some.injEq,Prod.mk.injEq]at e1
       rw[cC (hw id (by rw[←e1.2];exact hwm _ _ (by simp[ba]))),hu]
      ·simp at e1
     ·rename_i j _
      split at e
      ·rename_i T e' f xs hm
       rcases ac e with⟨hc,e⟩|⟨_,e⟩
       ·split at e
        ·rename_i h hd
         have e1:=(aN e).2
         rcases ac e1 with⟨_,e1⟩|⟨_,e1⟩
         ·simp only[eS,Option.some.injEq,Prod.mk.injEq]at e1
          have hj:s'.mem j=s.mem j:=hw j (by rw[←e1.2];exact hwm _ _ (by simp[ba]))
          simp only[hj,hm,hc,cond_true,hd]
          rw[cC (hw id (by rw[←e1.2];exact hwm _ _ (by simp[ba]))),hu]
         ·simp at e1
        ·simp at e
       ·simp at e
      ·simp at e
     ·simp at e
    ·simp at e
   ·simp at e
  ·simp at e
 ·simp at e
theorem qv {f:FuncId} {xs:List SV} {p:PV} {us:List bD} {rs:List Nat} (e:de C s f xs iW=some (p,us,rs)) (hr:∀i∈rs,iU s s' i):de C s' f xs iW=some (p,us,rs):=by
 rw[←e]
 unfold de at e⊢
 split at e
 ·split at e
  ·split at e
   ·rename_i cs is hcs
    rcases ac e with⟨_,e⟩|⟨_,e⟩
    ·simp only[iW,Option.some.injEq,Prod.mk.injEq]at e
     rw[oo hcs fun i hi=>hr i (by rw[←e.2.2];exact hi)]
    ·simp at e
   ·simp at e
  ·simp at e
 ·rfl
theorem zK {env:C.Env} {id:Nat} {f:FuncId} {xs:List SV} {q:SV×List bD×List Nat} (hs:(C.alts f).length≤1) (e:iT C env id s f xs iW=some q) (hw:∀i∈ba q.2.1,s'.mem i=s.mem i) (hr:∀i∈updF q.2.1++q.2.2,iU s s' i):iT C env id s' f xs iW=some q:=by
 unfold iT at e⊢
 match h:C.alts f,hs with
 | [],_=>rw[h]at e;simp[jj]at e
 | [g],_=>
  rw[h]at e
  simp only[jj]at e⊢
  split at e
  ·rename_i sg hsg
   split at e
   ·rename_i A hA
    rw[lh]at e
    rcases ac e with⟨hc,e⟩|⟨_,e⟩
    ·rw[Option.bind_eq_some_iff]at e
     obtain⟨r,hr0,e⟩:=e
     have e':=e
     rw[Option.bind_eq_some_iff]at e
     obtain⟨q',hq,e⟩:=e
     have hqq:q'=q:=by simpa using e
     subst hqq
     unfold uq at hq
     generalize hj:aD id (C.resTy g) sg.resFl r 0=qq at hq
     obtain⟨cs,new,j⟩:=qq
     simp only[]at hq
     split at hq
     ·rename_i x back hx hb
      rcases ac hq with⟨hd,hq⟩|⟨_,hq⟩
      ·split at hq
       ·rename_i us hus
        simp only[Option.some.injEq]at hq
        subst hq
        simp only[]at hw hr
        have hWa:∀a b:List bD,ba (a++b)=ba a++ba b:=fun a b=>by
         induction a with
         |nil=>rfl
         |cons u a ih=>cases u<;>simp[ba,ih]
        have hWd:∀l:List Nat,ba (l.map (.set · .dead))=l:=fun l=>by
         induction l with
         |nil=>rfl
         |cons u a ih=>simpa[ba]using ih
        have hWs:∀l:List (Nat×bW),ba (cp l)=l.map (·.1):=fun l=>by
         induction l with
         |nil=>rfl
         |cons u a ih=>simpa[ba,cp]using ih
        rw[hWa,hWa,hWa,hWd,hWs]at hw
        have hUP:∀i∈A.U++A.P,s'.mem i=s.mem i:=fun i hi=>hw i (List.mem_append_left _ (List.mem_append_right _ (List.mem_append_left _ hi)))
        have hA':=ol hA hUP fun i hi=>hr i (List.mem_append_right _ hi)
        rw[hA']
        simp only[]
        rw[lh,hc,cond_true,hr0,Option.bind_some]
        unfold uq
        rw[hj]
        simp only[hx,hb]
        have hf:fG s' new=fG s new:=by
         unfold fG
         have:∀l:List (Nat×bW),(∀p∈l,s'.mem p.1=s.mem p.1)→(l.all fun p=>match s'.mem p.1 with|none=>true|some _=>false)=l.all fun p=>match s.mem p.1 with|none=>true|some _=>false:=fun l hl=>by
          induction l with
          |nil=>rfl
          |cons p l ih=>simp only[List.all_cons];rw[hl p (by simp),ih fun q hq=>hl q (by simp[hq])]
         exact this new fun p hp=>hw p.1 (List.mem_append_left _ (List.mem_append_right _ (List.mem_append_right _ (List.mem_map.2 ⟨p,hp,rfl⟩))))
        rw[hf,hd]
        simp only[yN,Bool.and_eq_true]at hc
        have hbk:∀i∈o7 A.bk,s.mem i=s'.mem i:=fun i hi=>by
         have:=List.all_eq_true.1 hc.2 i hi
         obtain⟨k,hk,hki⟩:=List.any_eq_true.1 this
         rw[Nat.eq_of_beq_eq_true hki]
         exact(hUP k hk).symm
        rw[←mU hbk,hus]
        rfl
       ·simp at hq
      ·simp at hq
     ·simp at hq
    ·simp at e
   ·simp at e
  ·simp at e
 |_::_::_,hs=>simp at hs
theorem yD {ps:List (Nat×Operand)} (h:∀x∈ps.map (·.2),s'.ev x=s.ev x):s'.evs ps=s.evs ps:=
 List.map_congr_left fun p hp=>by rw[h p.2 (List.mem_map.2 ⟨p,hp,rfl⟩)]
theorem yE {x:Option Operand} (h:∀y∈x.toArray,s'.ev y=s.ev y):(x.map fun o=>(s'.ev o).pv)=x.map fun o=>(s.ev o).pv:=by
 cases x with
 |none=>rfl
 |some o=>simp only[Option.map_some];rw[h o (by simp)]
theorem Ih {env:C.Env} {id:Nat} {op:Op} {q:SV×List bD×List Nat} (hs:hJ C op=true) (h:∀x∈op.operands,s'.ev x=s.ev x) (e:w4 C env id op s iW=some q)
  (hw:∀i∈ba q.2.1,s'.mem i=s.mem i) (hr:∀i∈updF q.2.1++q.2.2,iU s s' i):w4 C env id op s' iW=some q:=by
 cases op<;>simp only[w4]at e⊢ <;>try (simp at e;done)
 case move x=>rw[h x (by simp[Op.operands])];exact e
 case assign x=>rw[h x (by simp[Op.operands])];exact e
 case pick c x y=>rw[h c (by simp[Op.operands]),h x (by simp[Op.operands]),h y (by simp[Op.operands])];exact e
 case binOp op t x y _=>rw[h x (by simp[Op.operands]),h y (by simp[Op.operands])];exact e
 case unOp op _ x=>rw[h x (by simp[Op.operands])];exact e
 case fieldAddr t x f=>rw[h x (by simp[Op.operands])];exact e
 case field t x f=>rw[h x (by simp[Op.operands])];exact e
 case index t x i=>rw[h x (by simp[Op.operands]),h i (by simp[Op.operands])];exact e
 case nilCheck x=>rw[h x (by simp[Op.operands])];exact e
 case extract t i=>rw[h t (by simp[Op.operands])];exact e
 case build t ps=>rw[yD fun x hx=>h x (by simpa[Op.operands]using hx)];exact e
 case alloc t=>
  split at e
  ·have e1:=(aN e).2
   simp only[iW,Option.some.injEq]at e1
   rw[cC (hw id (by rw[←e1];simp[ba]))];exact e
  ·simp at e
 case box t x=>
  rw[h x (by simp[Op.operands])]
  split at e
  ·rcases ac e with⟨hb,e⟩|⟨_,e⟩
   ·have e1:=(aN e).2
    simp only[iW,Option.some.injEq]at e1
    rw[hb,cond_true,cC (hw id (by rw[←e1];simp[ba]))];exact e
   ·simp at e
  ·simp at e
 case buildSlice t n ps=>
  rw[yD fun x hx=>h x (by simpa[Op.operands]using hx)]
  split at e
  ·split at e
   ·split at e
    ·rename_i b hdp
     rcases ac e with⟨hb,e⟩|⟨_,e⟩
     ·have e1:=(aN e).2
      simp only[iW,Option.some.injEq]at e1
      simp only[hb,cond_true]
      rw[cC (hw id (by rw[←e1];simp[ba]))];exact e
     ·simp at e
    split at e
    ·rename_i xs hxs
     rcases ac e with⟨hb,e⟩|⟨_,e⟩
     ·have e1:=(aN e).2
      simp only[iW,Option.some.injEq]at e1
      have hag:∀j∈aE (bd (s.evs ps.toList)),iU s s' j:=fun j hj=>hr j (by rw[←e1];simp[hj])
      rw[oq hag,hxs]
      simp only[hb,cond_true]
      rw[cC (hw id (by rw[←e1];simp only[zZ];rw[Dw];simp[ba]))];exact e
     ·simp at e
    ·simp at e
   ·simp at e
  ·simp at e
 case makeSlice t n c=>
  rw[h n (by simp[Op.operands])]
  rcases ac e with⟨hb,e⟩|⟨_,e⟩
  ·rw[hb,cond_true]
   rw[iv,Option.bind_eq_some_iff]at e⊢
   obtain⟨⟨p,us⟩,e1,e2⟩:=e
   refine⟨(p,us),ou e1 fun i hi=>hw i ?_,e2⟩
   simp only[oO,iW,Option.some.injEq]at e2
   rw[←e2];exact hi
  ·simp at e
 case load t a=>
  rw[h a (by simp[Op.operands])]
  split at e
  ·rename_i p hp
   rw[sJ,Option.bind_eq_some_iff]at e⊢
   obtain⟨⟨x,us⟩,e1,e2⟩:=e
   simp only[oO,iW,Option.some.injEq]at e2
   exact⟨(x,us),zI e1 (fun i hi=>hw i (by rw[←e2];exact hi)) (fun i hi=>hr i (by rw[←e2];simp[hi])),by simp only[oO,iW,e2]⟩
  ·simp at e
 case store t a x=>
  rw[h a (by simp[Op.operands]),h x (by simp[Op.operands])]
  split at e
  ·rw[oP,Option.bind_eq_some_iff]at e⊢
   obtain⟨⟨us,rs⟩,e1,e2⟩:=e
   simp only[oO,iW,Option.some.injEq]at e2
   refine⟨(us,rs),wv e1 (fun i hi=>hw i ?_) (fun i hi=>hr i ?_),by simp only[oO,iW,e2]⟩
   ·rw[←e2];exact hi
   ·rw[←e2];exact hi
  ·simp at e
 case indexAddr t x i=>
  rw[h x (by simp[Op.operands]),h i (by simp[Op.operands])]
  rw[ot fun j hj=>hr j (by
   rw[iw,Option.bind_eq_some_iff]at e
   obtain⟨p,_,e2⟩:=e
   simp only[iW,Option.some.injEq]at e2
   rw[←e2];simp[hj])]
  exact e
 case slice t x lo hi mx=>
  cases mx with
  |some _=>simp at e
  |none=>
   simp only at e⊢
   rw[h x (by simp[Op.operands]),yE (s:=s) (s':=s') fun y hy=>h y (by simp[Op.operands]at hy⊢;simp[hy]),yE (s:=s) (s':=s') fun y hy=>h y (by simp[Op.operands]at hy⊢;simp[hy])]
   rw[oQ,Option.bind_eq_some_iff]at e⊢
   obtain⟨⟨p,us⟩,e1,e2⟩:=e
   simp only[oO,iW,Option.some.injEq]at e2
   exact⟨(p,us),wx e1 fun i hi=>hr i (by rw[←e2];simp[hi]),by simp only[oO,iW,e2]⟩
 case convert src dst x=>
  rw[h x (by simp[Op.operands])]
  split at e
  ·rename_i p hp
   rcases ac e with⟨hb,e⟩|⟨hb,e⟩
   ·rw[hb,cond_true]
    rw[oR,Option.bind_eq_some_iff]at e⊢
    obtain⟨⟨p,us⟩,e1,e2⟩:=e
    refine⟨(p,us),wy e1 fun i hi=>hw i ?_,e2⟩
    simp only[oO,iW,Option.some.injEq]at e2
    rw[←e2];exact hi
   ·rw[hb,cond_false]
    rw[zJ fun j hj=>hr j (by
     rw[sK,Option.bind_eq_some_iff]at e
     obtain⟨y,_,e2⟩:=e
     simp only[iW,Option.some.injEq]at e2
     rw[←e2];simp[hj])]
    exact e
  ·simp at e
 case makeFunc fn first captured=>
  cases fn<;>simp only[]at e⊢ <;>try (simp at e;done)
  split at e
  ·have:captured.toList.map s'.ev=captured.toList.map s.ev:=List.map_congr_left fun x hx=>h x (by simp only[Op.operands];exact Array.mem_append_right _ (by simpa using hx))
   rw[this,gb,Option.bind_eq_some_iff]
   rw[gb,Option.bind_eq_some_iff]at e
   obtain⟨⟨p,us,rs⟩,e1,e2⟩:=e
   simp only[Gm,iW,Option.some.injEq]at e2
   exact⟨(p,us,rs),qv e1 fun i hi=>hr i (by rw[←e2];simp[hi]),by simp only[Gm,iW,e2]⟩
  ·simp at e
 case call c=>
  obtain⟨callee,args,argTypes⟩:=c
  have hargs:args.toList.map s'.ev=args.toList.map s.ev:=List.map_congr_left fun x hx=>h x (by simp only[Op.operands,Call.operands];exact Array.mem_append_right _ (by simpa using hx))
  have harg:∀x∈args.toList,s'.ev x=s.ev x:=fun x hx=>h x (by simp only[Op.operands,Call.operands];exact Array.mem_append_right _ (by simpa using hx))
  cases callee with
  |value f=>
   cases f<;>simp only[hJ]at hs<;>try (simp at hs;done)
   rename_i f
   simp only at e⊢
   rw[hargs]
   exact zK (Nat.le_of_ble_eq_true hs) e hw hr
  |invoke _ _=>simp at e
  |builtin b=>
   cases b<;>simp only[]at e⊢ <;>try (simp at e;done)
   case len=>
    split at e
    ·rename_i x t h1 h2
     rw[harg x (by rw[h1];simp)]
     rw[Dv fun j hj=>hr j (by
      rw[wG,Option.bind_eq_some_iff]at e
      obtain⟨y,_,e2⟩:=e
      simp only[iW,Option.some.injEq]at e2
      rw[←e2];simp[hj])]
     exact e
    ·simp at e
   case append=>
    split at e
    ·rename_i x y t t' h1 h2
     rw[harg x (by rw[h1];simp),harg y (by rw[h1];simp)]
     rcases ac e with⟨hb,e⟩|⟨hb,e⟩
     ·rw[hb,cond_true]
      rw[mg,Option.bind_eq_some_iff]at e⊢
      obtain⟨⟨p,us⟩,e1,e2⟩:=e
      simp only[oO,iW,Option.some.injEq]at e2
      exact⟨(p,us),tR e1 (fun i hi=>hw i (by rw[←e2];exact hi)) (fun i hi=>hr i (by rw[←e2];simp[hi])),by simp only[oO,iW,e2]⟩
     ·simp at e
    ·simp at e
   case max=>
    have:(args.toList.map fun x=>(s'.ev x).pv)=args.toList.map fun x=>(s.ev x).pv:=List.map_congr_left fun x hx=>by rw[harg x hx]
    rw[this];exact e
   case min=>
    have:(args.toList.map fun x=>(s'.ev x).pv)=args.toList.map fun x=>(s.ev x).pv:=List.map_congr_left fun x hx=>by rw[harg x hx]
    rw[this];exact e
end Go.Ps
