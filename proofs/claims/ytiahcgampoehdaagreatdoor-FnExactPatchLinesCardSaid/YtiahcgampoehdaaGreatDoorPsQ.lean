import Derived.Test.YtiahcgampoehdaaGreatDoorPsP
namespace Go.Ps
set_option linter.unusedVariables false
variable {C:bP} {R:Type} {s s':St}
def jb (s s':St) (i:Nat):Prop:=s'.mem i=s.mem i∨(bu s i=false∧bu s' i=false∧(s'.mem i).map bV.frz=(s.mem i).map bV.frz)
theorem jb.frz {i:Nat} (h:jb s s' i):(s'.mem i).map bV.frz=(s.mem i).map bV.frz:=by
 rcases h with h|⟨_,_,h⟩
 ·rw[h]
 ·exact h
theorem oG (s:St) (i:Nat):s.asList (.own i)=match(s.mem i).map bV.frz with
  |some (.frows e xs)=>some ⟨e,xs⟩
  |_=>none:=by
 simp only[St.asList]
 cases s.mem i with
 |none=>rfl
 |some b=>cases b<;>rfl
theorem jb.own {i:Nat} (h:jb s s' i):s'.asList (.own i)=s.asList (.own i):=by
 rw[oG,oG,h.frz]
theorem fE {p:PV} (h:∀i∈p.owns,jb s s' i):s'.asList p=s.asList p:=by
 cases p<;>try rfl
 exact(h _ (by simp[PV.owns])).own
theorem rH {s:St} {id:Nat} (hd:bu s id=false):s.asRow (.own id)=s.asList (.own id):=by
 unfold bu at hd
 simp only[St.asRow]
 cases hm:s.mem id with
 |none=>rfl
 |some b=>
  rw[hm]at hd
  cases b<;>first|rfl|simp at hd
theorem rJ {p:PV} (h:∀i∈p.owns,jb s s' i):s'.asRow p=s.asRow p:=by
 have h1:=fE h
 cases p<;>try exact h1
 rename_i id
 rcases h id (by simp[PV.owns])with h0|⟨h2,h3,_⟩
 ·simp only[St.asRow,h0,h1]
 ·rw[rH h2,rH h3,h1]
theorem zl {p:PV} (h:∀i∈p.owns,jb s s' i):s'.dat p=s.dat p:=by
 cases p<;>try rfl
 simp only[St.dat,fE h]
theorem dw {cs:List PV} (h:∀i∈aF cs,jb s s' i):cs.map s'.dat=cs.map s.dat:=
 List.map_congr_left fun p hp=>zl fun i hi=>h i (List.mem_flatMap.2 ⟨p,hp,hi⟩)
theorem rK (s:St) (i:Nat):nr s i=match(s.mem i).map bV.frz with
  |some (.fbox cs)=>some cs
  |_=>none:=by
 simp only[nr]
 cases s.mem i with
 |none=>rfl
 |some b=>cases b<;>rfl
theorem jb.box {i:Nat} (h:jb s s' i):nr s' i=nr s i:=by
 rw[rK,rK,h.frz]
theorem uy (s:St) (i:Nat) (q:dA) (n:Nat):s.look (.ptr i q) n=(nr s i).bind fun cs=>hJ cs q n:=by
 simp only[St.look,nr]
 cases s.mem i with
 |none=>rfl
 |some b=>cases b<;>rfl
theorem uz {s:St} {id:Nat} (h:bu s id=false) (i:Int) (q:dA) (n:Nat):s.look (.elt id i q) n=match(s.mem id).map bV.frz with
  |some (.frows e xs)=>hJ (inj e (rd xs i)) q n
  |_=>none:=by
 unfold bu at h
 simp only[St.look]
 cases hm:s.mem id with
 |none=>rfl
 |some b=>
  rw[hm]at h
  cases b<;>try rfl
  rename_i T e f xs
  simp only[Bool.not_eq_false']at h
  simp only[h,Bool.true_or,cond_true,Option.map_some,bV.frz]
  cases hJ (inj e (rd xs i)) q n<;>rfl
theorem uA {p:PV} {n:Nat} (h:∀i∈p.leads,jb s s' i):s'.look p n=s.look p n:=by
 cases p<;>try rfl
 case ptr id q=>rw[uy,uy,(h id (by simp[PV.leads])).box]
 case elt id i q=>
  have h:=h id (by simp[PV.leads])
  rcases h with h|⟨h3,h4,h⟩
  ·simp only[St.look,h]
  ·rw[uz h3,uz h4,h]
theorem uB {i:Nat} (h:jb s s' i):bu s' i=bu s i:=by
 rcases h with h|⟨h1,h2,_⟩
 ·unfold bu;rw[h]
 ·rw[h1,h2]
theorem mm:∀{τ:Ty} {f:Fl} {cs:List PV} {q:τ.den×List PV×List Nat×List Nat},bx s τ f cs=some q→(∀i∈q.2.2.1,s'.mem i=s.mem i)→(∀i∈q.2.2.2,jb s s' i)→bx s' τ f cs=some q:=by
 have dt:∀{τ:Ty} {cs:List PV} {q:τ.den×List PV×List Nat×List Nat},(match dT cs τ.size,aY cs τ.size with
  |some a,some b=>match aQ τ (a.map s.dat)with
   |some x=>some (x,b,[],aF a)
   |none=>none
  |_,_=>none)=some q→(∀i∈q.2.2.2,jb s s' i)→(match dT cs τ.size,aY cs τ.size with
  |some a,some b=>match aQ τ (a.map s'.dat)with
   |some x=>some (x,b,[],aF a)
   |none=>none
  |_,_=>none)=some q:=by
  intro τ cs q e h
  split at e
  ·rename_i a b ha hb
   split at e
   ·rename_i x hx
    simp only[Option.some.injEq]at e
    subst e
    rw[dw h,hx]
   ·simp at e
  ·simp at e
 intro τ
 induction τ with
 |list e ih=>
  intro f cs q h hU hV
  cases f with
  |own T g=>
   simp only[bx]at h⊢
   split at h
   ·rename_i i cs
    split at h
    ·rename_i T' e' g' xs hm
     rcases Bool.eq_false_or_eq_true (Nat.beq T' T&&decide (g'=g))with hc|hc
     ·rw[hc,cond_true]at h
      split at h
      ·rename_i he hd
       simp only[Option.some.injEq]at h
       subst h
       simp only[hU i (by simp),hm,hc,cond_true,hd]
      ·simp at h
     ·rw[hc]at h;simp at h
    ·simp at h
   ·exact h
   ·simp at h
  |_=>exact dt h hV
 |opt e ih=>
  intro f cs q h hU hV
  cases f with
  |box=>
   simp only[bx]at h⊢
   split at h
   ·exact h
   ·rename_i i cs
    split at h
    ·rename_i bs hm
     rcases Bool.eq_false_or_eq_true (Nat.blt (i%128) 127)with hc|hc
     ·rw[hc,cond_true]at h
      split at h
      ·rename_i x hx
       simp only[Option.some.injEq]at h
       subst h
       simp only[hU i (by simp),hm,hc,cond_true,dw hV,hx]
      ·simp at h
     ·rw[hc]at h;simp at h
    ·simp at h
   ·simp at h
  |_=>exact dt h hV
 |pair a b iha ihb=>
  intro f cs q h hU hV
  cases f with
  |pair f g=>
   simp only[bx]at h⊢
   split at h
   ·rename_i x cs1 U V h1
    split at h
    ·rename_i y cs2 U' V' h2
     simp only[Option.some.injEq]at h
     subst h
     rw[iha h1 (fun i hi=>hU i (by simp;exact .inl hi)) (fun i hi=>hV i (by simp;exact .inl hi))]
     simp only[]
     rw[ihb h2 (fun i hi=>hU i (by simp;exact .inr hi)) (fun i hi=>hV i (by simp;exact .inr hi))]
    ·simp at h
   ·simp at h
  |_=>exact dt h hV
 |_=>intro f cs q h hU hV;exact dt h hV
theorem At {p:PK} {x:SV} {A:Ar} (e:eo s p x=some A) (hU:∀i∈A.U++A.P,s'.mem i=s.mem i) (hV:∀i∈A.V,jb s s' i):eo s' p x=some A:=by
 cases p with
 |raw=>
  simp only[eo]at e⊢
  split at e
  ·simp only[Option.some.injEq]at e;subst e;rw[zl hV]
  ·simp at e
 |val τ=>
  simp only[eo]at e⊢
  split at e
  ·split at e
   ·rename_i d hd
    split at e
    ·rename_i y hy
     simp only[Option.some.injEq]at e;subst e
     rw[dw hV,hd];simp only[hy]
    ·simp at e
   ·simp at e
  ·simp at e
 |give τ f=>
  simp only[eo]at e⊢
  split at e
  ·split at e
   ·rename_i d U V hd
    split at e
    ·rename_i y hy
     simp only[Option.some.injEq]at e;subst e
     rw[mm hd (fun i hi=>hU i (by simp;exact hi)) hV];simp only[hy]
    ·simp at e
   ·simp at e
  ·simp at e
 |lend τ f=>
  simp only[eo]at e⊢
  split at e
  ·split at e
   ·rename_i d U V hd
    split at e
    ·rename_i y hy
     simp only[Option.some.injEq]at e;subst e
     rw[mm hd (fun i hi=>hU i (by simp;exact hi)) hV];simp only[hy]
    ·simp at e
   ·simp at e
  ·simp at e
 |ro τ=>
  simp only[eo]at e⊢
  split at e
  ·rename_i cs hcs
   split at e
   ·rename_i d hd
    simp only[Option.some.injEq]at e;subst e
    rw[uA fun i hi=>hV i (by simp;exact .inl hi),hcs]
    simp only[]
    rw[dw fun i hi=>hV i (by simp;exact .inr hi),hd]
   ·simp at e
  ·simp at e
 |var τ f=>
  simp only[eo]at e⊢
  split at e
  ·rename_i id o hx
   split at e
   ·rename_i bs hm
    split at e
    ·rename_i cs hcs
     split at e
     ·rename_i d U V hd
      simp only[Option.some.injEq]at e;subst e
      rw[hU id (by simp),hm]
      simp only[hcs]
      rw[mm hd (fun i hi=>hU i (by simp;exact .inl hi)) hV]
     ·simp at e
    ·simp at e
   ·simp at e
  ·simp at e
theorem oH:∀{ps:List PK} {xs:List SV} {A:Ar},cf s ps xs=some A→(∀i∈A.U++A.P,s'.mem i=s.mem i)→(∀i∈A.V,jb s s' i)→cf s' ps xs=some A
 | [],[],A,e,_,_=>e
 | [],_::_,A,e,_,_=>by simp[cf]at e
 |_::_,[],A,e,_,_=>by simp[cf]at e
 |p::ps,x::xs,A,e,hU,hV=>by
  simp only[cf]at e⊢
  split at e
  ·rename_i a b ha hb
   simp only[Option.some.injEq]at e;subst e
   rw[At ha (fun i hi=>hU i (by simp at hi⊢;rcases hi with hi|hi<;>simp[hi])) (fun i hi=>hV i (by simp;exact .inl hi)),
    oH hb (fun i hi=>hU i (by simp at hi⊢;rcases hi with hi|hi<;>simp[hi])) (fun i hi=>hV i (by simp;exact .inr hi))]
  ·simp at e
theorem Au {p:PK} {x:SV} {q:qK×List Nat} (e:sf s p x=some q) (h:∀i∈q.2,jb s s' i):sf s' p x=some q:=by
 cases p<;>simp only[sf]at e⊢ <;>try (simp at e;done)
 case val τ=>
  split at e
  ·split at e
   ·rename_i d hd
    split at e
    ·rename_i y hy
     simp only[Option.some.injEq]at e;subst e
     rw[dw h,hd];simp only[hy]
    ·simp at e
   ·simp at e
  ·simp at e
 case ro τ=>
  split at e
  ·rename_i id hx
   split at e
   ·rename_i cs hcs
    split at e
    ·rename_i d hd
     simp only[Option.some.injEq]at e;subst e
     rw[(h id (by simp)).box,hcs]
     simp only[]
     rw[dw fun i hi=>h i (by simp[hi]),hd]
    ·simp at e
   ·simp at e
  ·exact e
  ·simp at e
 case var τ f=>exact e
theorem oI:∀{ps:List PK} {xs:List SV} {q:List qK×List Nat},fe s ps xs=some q→(∀i∈q.2,jb s s' i)→fe s' ps xs=some q
 | [],[],q,e,_=>e
 | [],_::_,q,e,_=>by simp[fe]at e
 |_::_,[],q,e,_=>by simp[fe]at e
 |p::ps,x::xs,q,e,h=>by
  simp only[fe]at e⊢
  split at e
  ·rename_i c i cs is hc hcs
   simp only[Option.some.injEq]at e;subst e
   rw[Au hc fun j hj=>h j (by simp;exact .inl hj),oI hcs fun j hj=>h j (by simp;exact .inr hj)]
  ·simp at e
theorem oJ {e:Ty}:∀{ps:List (Nat×SV)} {i:Nat},(∀j∈aF (be ps),jb s s' j)→iK e s' i ps=iK e s i ps
 | [],_,_=>rfl
 |(j,x)::ps,i,h=>by
  simp only[iK]
  refine cu _ _ _ _ _ ?_ rfl
  cases hx:x.cells with
  |none=>rfl
  |some c=>
   simp only[]
   simp only[be,hx,Option.getD_some,aF,List.flatMap_append,List.mem_append]at h
   rw[dw fun k hk=>h k (.inl hk),oJ fun k hk=>h k (.inr hk)]
theorem w7 {e:Ty} {y:PV} (h:∀i∈y.owns,jb s s' i):k7 s' e y=k7 s e y:=by
 have h1:=fE h
 unfold k7
 cases y<;>first|rfl|simp only[h1]
theorem Av {y:PV} (h:∀i∈y.owns,jb s s' i):kD s' y=kD s y:=by
 cases y<;>try rfl
 rename_i id
 have h:=h id (by simp[PV.owns])
 simp only[kD]
 rcases h with h|⟨h1,h2,_⟩
 ·rw[h]
 ·have key:∀s:St,bu s id=false→(match s.mem id with
   |some (.rows _ _ f _)=>bif f.isNo then[]else[bE.frz id]
   |_=>[])=[]:=by
   intro s hd
   unfold bu at hd
   cases hm:s.mem id with
   |none=>rfl
   |some b=>
    rw[hm]at hd
    cases b<;>try rfl
    rename_i T e f xs
    simp only[Bool.not_eq_false']at hd
    simp only[hd,cond_true]
  exact(key s' h2).trans (key s h1).symm
theorem cE {id:Nat} {x:Option R} (h:s'.mem id=s.mem id):cv s' id x=cv s id x:=by
 unfold cv;rw[h]
theorem kP {new:List PV} (h0:aF new=[]) (cs:List PV) (q:dA) (n:Nat):gz s'.dat cs q n new=gz s.dat cs q n new:=by
 have:=dw (s:=s) (s':=s') (cs:=new) fun i hi=>by rw[h0]at hi;cases hi
 unfold gz
 cases q with
 | «at»o=>rfl
 |arr o e m j q=>simp only[this]
theorem Ea (s:St) (p:PV):(s.dat p).owns=[]:=by
 cases p<;>try rfl
 case own id=>simp only[St.dat];cases s.asList (.own id)<;>rfl
 case fn f caps=>simp only[St.dat];generalize List.all caps _=b;cases b<;>rfl
theorem Aw (s:St) (cs:List PV):aF (cs.map s.dat)=[]:=by
 induction cs with
 |nil=>rfl
 |cons c cs ih=>simp only[List.map_cons,aF,List.flatMap_cons]at ih⊢;rw[Ea,ih];rfl
theorem w8 {t:TypeId} {p:PV} {x:SV} {us:List bE} {rs:List Nat} (e:gC C s t p x eX=some (us,rs)) (hw:∀i∈bb us,s'.mem i=s.mem i) (hr:∀i∈updF us++rs,jb s s' i):gC C s' t p x eX=some (us,rs):=by
 rw[←e]
 unfold gC at e⊢
 split at e
 ·rename_i I new hI hnew
  rcases ac e with⟨hc,e⟩|⟨_,e⟩
  ·simp only[hc,cond_true]
   split at e
   ·rename_i id q _
    split at e
    ·rename_i cs hm
     have hid:id∈bb us:=by
      split at e
      ·split at e
       ·simp only[eX,Option.some.injEq,Prod.mk.injEq]at e;rw[←e.1];simp[bb]
       ·simp at e
      ·rcases ac e with⟨_,e⟩|⟨_,e⟩
       ·split at e
        ·simp only[eX,Option.some.injEq,Prod.mk.injEq]at e;rw[←e.1];simp[bb]
        ·simp at e
       ·simp at e
     simp only[hw id hid,hm]
     split at e
     ·rfl
     ·rcases ac e with⟨hn,e⟩|⟨_,e⟩
      ·have:=kP (s:=s) (s':=s') (show aF new=[] by simpa using hn)
       simp only[this]
      ·simp at e
    ·simp at e
   ·rename_i id i q _
    split at e
    ·rename_i T el f xs hm
     rcases ac e with⟨hc2,e⟩|⟨hc2,e⟩
     ·split at e
      ·rename_i cs' hcs
       split at e
       ·rename_i x' hx'
        simp only[eX,Option.some.injEq,Prod.mk.injEq]at e
        have hid:id∈bb us:=by
         rw[←e.1]
         have:∀(l:List Nat) (us:List bE),bb (l.map .frz++us)=bb us:=fun l us=>by induction l with|nil=>rfl|cons _ _ ih=>simpa[bb]using ih
         simp[AO,this,bb]
        simp only[hw id hid,hm,hc2,cond_true]
        rw[dw fun i hi=>hr i (by rw[←e.2];simp[hi]),kP (s:=s) (Aw s new)];simp only[hcs,hx']
       ·simp at e
      ·simp at e
     ·have hd:(bif (aF new).isEmpty then gB el f (rd xs i) q I.size (new.map s'.dat)else none)=bif (aF new).isEmpty then gB el f (rd xs i) q I.size (new.map s.dat)else none:=by
       cases hn:(aF new).isEmpty with
       |false=>rfl
       |true=>rw[dw (s:=s) (s':=s') fun i hi=>by rw[List.isEmpty_iff.1 hn]at hi;simp at hi]
      have hid:id∈bb us:=by
       split at e
       ·simp only[eX,Option.some.injEq,Prod.mk.injEq]at e;rw[←e.1];simp[bb]
       ·split at e
        ·rcases ac e with⟨_,e⟩|⟨_,e⟩
         ·split at e
          ·simp only[eX,Option.some.injEq,Prod.mk.injEq]at e;rw[←e.1];simp[bb]
          ·simp at e
         ·simp at e
        ·simp at e
      simp only[hw id hid,hm,hc2,cond_false,hd]
    ·rename_i T el f xs i' cs0 hm
     rcases ac e with⟨hc2,e⟩|⟨_,e⟩
     ·have hid:id∈bb us:=by
       split at e
       ·split at e
        ·simp only[eX,Option.some.injEq,Prod.mk.injEq]at e;rw[←e.1];simp[bb]
        ·simp at e
       ·rcases ac e with⟨_,e⟩|⟨_,e⟩
        ·split at e
         ·simp only[eX,Option.some.injEq,Prod.mk.injEq]at e;rw[←e.1];simp[bb]
         ·simp at e
        ·simp at e
      simp only[hw id hid,hm,hc2,cond_true]
      split at e
      ·rfl
      ·rcases ac e with⟨hn,e⟩|⟨_,e⟩
       ·have:=kP (s:=s) (s':=s') (show aF new=[] by simpa using hn)
        simp only[this]
       ·simp at e
     ·simp at e
    ·simp at e
   ·simp at e
  ·simp at e
 ·simp at e
theorem w9 {l:List (Nat×bV)} (h:∀p∈l,s'.mem p.1=s.mem p.1):fM s' l=fM s l:=by
 unfold fM
 induction l with
 |nil=>rfl
 |cons p l ih=>simp only[List.all_cons];rw[h p (by simp),ih fun q hq=>h q (by simp[hq])]
theorem Ax {id:Nat} {t:TypeId} {p:PV} {x:SV} {us:List bE} (e:kC C s id t p eX=some (x,us)) (hw:∀i∈bb us,s'.mem i=s.mem i) (hr:∀i∈p.leads,jb s s' i):kC C s' id t p eX=some (x,us):=by
 unfold kC at e⊢
 split at e
 ·rename_i I hI
  rw[uA hr]
  split at e
  ·exact e
  ·rw[←e]
   unfold pr at e⊢
   split at e
   ·rename_i j i q _
    split at e
    ·rename_i T e1 f xs hm
     rcases ac e with⟨hc,e⟩|⟨_,e⟩
     ·split at e
      ·rename_i cs hcs
       have hus: .set j .dead::(cp (aE id e1 f (rd xs i) 0).2.1++[.set j (.opn T e1 f xs i (aE id e1 f (rd xs i) 0).1)])=us:=by
        rcases mo e with⟨_,e⟩|⟨_,c,_,_,e⟩
        ·simp only[eX,Option.some.injEq,Prod.mk.injEq]at e;exact e.2
        ·simp only[eX,Option.some.injEq,Prod.mk.injEq]at e;exact e.2
       have hWs:∀(l:List (Nat×bV)) (us:List bE),bb (cp l++us)=l.map (·.1)++bb us:=fun l us=>by
        induction l with
        |nil=>rfl
        |cons u a ih=>simpa[bb,cp]using ih
       rw[←hus]at hw
       simp only[bb,hWs]at hw
       simp only[hw j (by simp),hm]
       rw[w9 fun p hp=>hw p.1 (List.mem_cons_of_mem _ (List.mem_append_left _ (List.mem_map.2 ⟨p,hp,rfl⟩)))]
       simp only[hcs]
      ·simp at e
     ·simp at e
    ·rename_i hm
     have hj:s'.mem j=s.mem j:=by
      rcases hr j (by simp[PV.leads])with h|⟨h,_⟩
      ·exact h
      ·unfold bu at h;rw[hm]at h;simp at h
     simp only[hj,hm]
    ·simp at e
   ·simp at e
 ·simp at e
theorem Eb {t:TypeId} {x:PV} {k:PV→Option R} (h:∀i∈x.owns,jb s s' i):rc C s' t x k=rc C s t x k:=by
 have h1:=rJ h
 unfold rc
 cases x<;>first|rfl|simp only[h1]
theorem Ay {src dst:TypeId} {x:PV} {k:PV→Option R} (h:∀i∈x.owns,jb s s' i):kE C s' src dst x k=kE C s src dst x k:=by
 have h1:=fE h
 unfold kE
 cases C.ti src<;>cases C.ti dst<;>cases x<;>first|rfl|simp only[h1]
theorem oK {t:TypeId} {x i:PV} {k:PV→Option R} (h:∀j∈x.owns,jb s s' j):b9 C s' t x i k=b9 C s t x i k:=by
 unfold b9
 cases i<;>try rfl
 cases x with
 |own id=>have h1:=rJ h;simp only[h1]
 |ptr id p=>cases p<;>rfl
 |elt id j p=>cases p<;>rfl
 |_=>rfl
theorem Ec (l:List Nat) (us:List bE):bb (l.map .frz++us)=bb us:=by induction l with|nil=>rfl|cons _ _ ih=>simpa[bb]using ih
theorem lq {x:Option PV} {d:Int} {k:Int→Option R} {r:R} (e:iL x d k=some r):∃n,k n=some r:=by
 unfold iL at e;split at e
 ·exact⟨_,e⟩
 ·exact⟨_,e⟩
 ·simp at e
theorem xa {t:TypeId} {x:PV} {lo hi:Option PV} {p:PV} {us:List bE} (e:gD C s t x lo hi eX=some (p,us)) (hr:∀i∈updF us,jb s s' i):gD C s' t x lo hi eX=some (p,us):=by
 have hx:∀i∈x.owns,jb s s' i:=by
  intro i hi
  cases x<;>simp only[PV.owns,List.not_mem_nil,List.mem_singleton]at hi
  subst hi
  refine hr i ?_
  unfold gD at e
  simp only[]at e
  split at e
  ·rcases ac e with⟨_,e⟩|⟨_,e⟩
   ·obtain⟨l,e⟩:=lq e
    obtain⟨m,e⟩:=lq e
    rcases ac e with⟨_,e⟩|⟨_,e⟩
    ·simp only[eX,Option.some.injEq,Prod.mk.injEq]at e;rw[←e.2];simp[PV.owns,updF]
    ·simp at e
   ·simp at e
  ·simp at e
 have h1:=fE hx
 rw[←e]
 unfold gD
 cases x<;>first|rfl|simp only[h1]
theorem oL {id:Nat} {t:TypeId} {n p:PV} {us:List bE} (e:cq C s id t n eX=some (p,us)) (hw:∀i∈bb us,s'.mem i=s.mem i):cq C s' id t n eX=some (p,us):=by
 rw[←e]
 unfold cq at e⊢
 split at e
 ·split at e
  ·split at e
   ·rcases ac e with⟨_,e⟩|⟨_,e⟩
    ·have e1:=(aN e).2
     rcases ac e1 with⟨_,e1⟩|⟨_,e1⟩
     ·simp only[eX,Option.some.injEq,Prod.mk.injEq]at e1
      rw[cE (hw id (by rw[←e1.2];simp[bb]))]
     ·simp at e1
    ·simp at e
   ·simp at e
  ·simp at e
 ·simp at e
theorem xb {id:Nat} {src dst:TypeId} {x p:PV} {us:List bE} (e:gE C s id src dst x eX=some (p,us)) (hw:∀i∈bb us,s'.mem i=s.mem i):gE C s' id src dst x eX=some (p,us):=by
 rw[←e]
 unfold gE at e⊢
 split at e
 ·rcases ac e with⟨hb,e⟩|⟨_,e⟩
  ·rw[hb,cond_true,cond_true]
   split at e
   ·have e1:=(aN e).2
    rcases ac e1 with⟨_,e1⟩|⟨_,e1⟩
    ·simp only[eX,Option.some.injEq,Prod.mk.injEq]at e1
     rw[cE (hw id (by rw[←e1.2];simp[bb]))]
    ·simp at e1
   ·simp at e
  ·simp at e
 ·simp at e
theorem Ed {id:Nat} {e:TypeId} {τ:Ty} {x y:PV} (hy:∀j∈y.owns,jb s s' j) (hx:∀l∈x.owns,s'.mem l=s.mem l):nM s' id e τ x y=nM s id e τ x y:=by
 cases y<;>try rfl
 rename_i j
 have hx':∀l,x= .own l→s'.mem l=s.mem l:=fun l hl=>hx l (by rw[hl];simp[PV.owns])
 rcases hy j (by simp[PV.owns])with h|⟨h1,h2,_⟩
 ·unfold nM
  simp only[h]
  cases x<;>try rfl
  simp only[hx' _ rfl]
 ·have key:∀s:St,bu s j=false→nM s id e τ x (.own j)=none:=by
   intro s hd
   unfold bu at hd
   unfold nM
   simp only[]
   cases hm:s.mem j with
   |none=>rfl
   |some b=>
    rw[hm]at hd
    cases b<;>first|rfl|simp at hd|skip
    rename_i T e0 f xs
    simp[hd]
  rw[key s h1,key s' h2]
theorem Ee {id m:Nat} {e:TypeId} {τ:Ty} {x y:PV} {us:List bE} (h:nM s id e τ x y=some (m,us)):(∀i∈y.owns,i∈bb us)∧(∀i∈x.owns,i∈bb us)∧id∈bb us:=by
 unfold nM at h
 split at h
 ·split at h
  ·rcases ac h with⟨_,h⟩|⟨_,h⟩
   ·split at h
    ·split at h
     ·simp only[Option.some.injEq,Prod.mk.injEq]at h;rw[←h.2];simp[PV.owns,bb]
     ·split at h
      ·rcases ac h with⟨_,h⟩|⟨_,h⟩
       ·split at h
        ·simp only[Option.some.injEq,Prod.mk.injEq]at h;rw[←h.2];simp[PV.owns,bb]
        ·simp at h
       ·simp at h
      ·simp at h
     ·simp at h
    ·simp at h
   ·simp at h
  ·rcases ac h with⟨_,h⟩|⟨_,h⟩
   ·split at h
    ·split at h
     ·split at h
      ·rcases ac h with⟨_,h⟩|⟨_,h⟩
       ·split at h
        ·simp only[Option.some.injEq,Prod.mk.injEq]at h;rw[←h.2];simp[PV.owns,bb]
        ·simp at h
       ·simp at h
      ·simp at h
     ·simp at h
    ·simp at h
   ·simp at h
  ·simp at h
 ·simp at h
theorem uC {id:Nat} {sl:TypeId} {x y p:PV} {us:List bE} (e:dF C s id sl x y eX=some (p,us)) (hw:∀i∈bb us,s'.mem i=s.mem i) (hy:∀i∈y.owns,jb s s' i):dF C s' id sl x y eX=some (p,us):=by
 rw[←e]
 have hu:=Av hy
 have hwm:∀vs:List bE,∀i∈bb vs,i∈bb (kD s y++vs):=by
  intro vs i hi
  have:∀a b:List bE,bb (a++b)=bb a++bb b:=fun a b=>by
   induction a with
   |nil=>rfl
   |cons u a ih=>cases u<;>simp[bb,ih]
  rw[this];simp[hi]
 have hwa:∀a b:List bE,bb (a++b)=bb a++bb b:=fun a b=>by
  induction a with
  |nil=>rfl
  |cons u a ih=>cases u<;>simp[bb,ih]
 have hxw:∀l∈x.owns,s'.mem l=s.mem l:=by
  intro l hl
  refine hw l ?_
  unfold dF at e
  split at e
  ·split at e
   ·rcases ac e with⟨hb,e⟩|⟨_,e⟩
    ·split at e
     ·rename_i had
      have e1:=(aN e).2
      rcases ac e1 with⟨_,e1⟩|⟨_,e1⟩
      ·simp only[eX,Option.some.injEq,Prod.mk.injEq]at e1
       rw[←e1.2];exact(Ee had).2.1 l hl
      ·simp at e1
     ·split at e
      ·split at e
       ·simp[PV.owns]at hl
       ·split at e
        ·rcases ac e with⟨_,e⟩|⟨_,e⟩
         ·split at e
          ·have e1:=(aN e).2
           rcases ac e1 with⟨_,e1⟩|⟨_,e1⟩
           ·simp only[eX,Option.some.injEq,Prod.mk.injEq]at e1
            simp only[PV.owns,List.mem_singleton]at hl
            rw[←e1.2,hwa,hl];simp[bb]
           ·simp at e1
          ·simp at e
         ·simp at e
        ·simp at e
       ·simp at e
      ·simp at e
    ·simp at e
   ·simp at e
  ·simp at e
 unfold dF at e⊢
 split at e
 ·split at e
  ·rcases ac e with⟨hb,e⟩|⟨_,e⟩
   ·rw[w7 hy,Ed hy hxw]
    simp only[hb,cond_true]
    split at e
    ·rename_i had
     have e1:=(aN e).2
     rcases ac e1 with⟨_,e1⟩|⟨_,e1⟩
     ·simp only[eX,Option.some.injEq,Prod.mk.injEq]at e1
      rw[cE (hw id (by rw[←e1.2];exact(Ee had).2.2))]
     ·simp at e1
    rename_i hno0
    clear hno0
    split at e
    ·split at e
     ·have e1:=(aN e).2
      rcases ac e1 with⟨_,e1⟩|⟨_,e1⟩
      ·simp only[eX,Option.some.injEq,Prod.mk.injEq]at e1
       rw[cE (hw id (by rw[←e1.2];exact hwm _ _ (by simp[bb]))),hu]
      ·simp at e1
     ·rename_i j _
      split at e
      ·rename_i T e' f xs hm
       rcases ac e with⟨hc,e⟩|⟨_,e⟩
       ·split at e
        ·rename_i h hd
         have e1:=(aN e).2
         rcases ac e1 with⟨_,e1⟩|⟨_,e1⟩
         ·simp only[eX,Option.some.injEq,Prod.mk.injEq]at e1
          have hj:s'.mem j=s.mem j:=hw j (by rw[←e1.2];exact hwm _ _ (by simp[bb]))
          simp only[hj,hm,hc,cond_true,hd]
          rw[cE (hw id (by rw[←e1.2];exact hwm _ _ (by simp[bb]))),hu]
         ·simp at e1
        ·simp at e
       ·simp at e
      ·simp at e
     ·simp at e
    ·simp at e
   ·simp at e
  ·simp at e
 ·simp at e
theorem qV {f:FuncId} {xs:List SV} {p:PV} {us:List bE} {rs:List Nat} (e:dj C s f xs jd=some (p,us,rs)) (hr:∀i∈rs,jb s s' i):dj C s' f xs jd=some (p,us,rs):=by
 rw[←e]
 unfold dj at e⊢
 split at e
 ·split at e
  ·split at e
   ·rename_i cs is hcs
    rcases ac e with⟨_,e⟩|⟨_,e⟩
    ·simp only[jd,Option.some.injEq,Prod.mk.injEq]at e
     rw[oI hcs fun i hi=>hr i (by rw[←e.2.2];exact hi)]
    ·simp at e
   ·simp at e
  ·simp at e
 ·rfl
theorem Az {env:C.Env} {id:Nat} {f:FuncId} {xs:List SV} {q:SV×List bE×List Nat} (hs:(C.alts f).length≤1) (e:ja C env id s f xs jd=some q) (hw:∀i∈bb q.2.1,s'.mem i=s.mem i) (hr:∀i∈updF q.2.1++q.2.2,jb s s' i):ja C env id s' f xs jd=some q:=by
 unfold ja at e⊢
 match h:C.alts f,hs with
 | [],_=>rw[h]at e;simp[jw]at e
 | [g],_=>
  rw[h]at e
  simp only[jw]at e⊢
  split at e
  ·rename_i sg hsg
   split at e
   ·rename_i A hA
    rw[lA]at e
    rcases ac e with⟨hc,e⟩|⟨_,e⟩
    ·rw[Option.bind_eq_some_iff]at e
     obtain⟨r,hr0,e⟩:=e
     have e':=e
     rw[Option.bind_eq_some_iff]at e
     obtain⟨q',hq,e⟩:=e
     have hqq:q'=q:=by simpa using e
     subst hqq
     unfold uZ at hq
     generalize hj:aE id (C.resTy g) sg.resFl r 0=qq at hq
     obtain⟨cs,new,j⟩:=qq
     simp only[]at hq
     split at hq
     ·rename_i x back hx hb
      rcases ac hq with⟨hd,hq⟩|⟨_,hq⟩
      ·split at hq
       ·rename_i us hus
        simp only[Option.some.injEq]at hq
        subst hq
        simp only[]at hw hr
        have hWa:∀a b:List bE,bb (a++b)=bb a++bb b:=fun a b=>by
         induction a with
         |nil=>rfl
         |cons u a ih=>cases u<;>simp[bb,ih]
        have hWd:∀l:List Nat,bb (l.map (.set · .dead))=l:=fun l=>by
         induction l with
         |nil=>rfl
         |cons u a ih=>simpa[bb]using ih
        have hWs:∀l:List (Nat×bV),bb (cp l)=l.map (·.1):=fun l=>by
         induction l with
         |nil=>rfl
         |cons u a ih=>simpa[bb,cp]using ih
        rw[hWa,hWa,hWa,hWd,hWs]at hw
        have hUP:∀i∈A.U++A.P,s'.mem i=s.mem i:=fun i hi=>hw i (List.mem_append_left _ (List.mem_append_right _ (List.mem_append_left _ hi)))
        have hA':=oH hA hUP fun i hi=>hr i (List.mem_append_right _ hi)
        rw[hA']
        simp only[]
        rw[lA,hc,cond_true,hr0,Option.bind_some]
        unfold uZ
        rw[hj]
        simp only[hx,hb]
        have hf:fM s' new=fM s new:=by
         unfold fM
         have:∀l:List (Nat×bV),(∀p∈l,s'.mem p.1=s.mem p.1)→(l.all fun p=>match s'.mem p.1 with|none=>true|some _=>false)=l.all fun p=>match s.mem p.1 with|none=>true|some _=>false:=fun l hl=>by
          induction l with
          |nil=>rfl
          |cons p l ih=>simp only[List.all_cons];rw[hl p (by simp),ih fun q hq=>hl q (by simp[hq])]
         exact this new fun p hp=>hw p.1 (List.mem_append_left _ (List.mem_append_right _ (List.mem_append_right _ (List.mem_map.2 ⟨p,hp,rfl⟩))))
        rw[hf,hd]
        simp only[zz,Bool.and_eq_true]at hc
        have hbk:∀i∈pt A.bk,s.mem i=s'.mem i:=fun i hi=>by
         have:=List.all_eq_true.1 hc.2 i hi
         obtain⟨k,hk,hki⟩:=List.any_eq_true.1 this
         rw[Nat.eq_of_beq_eq_true hki]
         exact(hUP k hk).symm
        rw[←ne hbk,hus]
        rfl
       ·simp at hq
      ·simp at hq
     ·simp at hq
    ·simp at e
   ·simp at e
  ·simp at e
 |_::_::_,hs=>simp at hs
theorem zm {ps:List (Nat×Operand)} (h:∀x∈ps.map (·.2),s'.ev x=s.ev x):s'.evs ps=s.evs ps:=
 List.map_congr_left fun p hp=>by rw[h p.2 (List.mem_map.2 ⟨p,hp,rfl⟩)]
theorem zn {x:Option Operand} (h:∀y∈x.toArray,s'.ev y=s.ev y):(x.map fun o=>(s'.ev o).pv)=x.map fun o=>(s.ev o).pv:=by
 cases x with
 |none=>rfl
 |some o=>simp only[Option.map_some];rw[h o (by simp)]
theorem IV {env:C.Env} {id:Nat} {op:Op} {q:SV×List bE×List Nat} (hs:ii C op=true) (h:∀x∈op.operands,s'.ev x=s.ev x) (e:xH C env id op s jd=some q)
  (hw:∀i∈bb q.2.1,s'.mem i=s.mem i) (hr:∀i∈updF q.2.1++q.2.2,jb s s' i):xH C env id op s' jd=some q:=by
 cases op<;>simp only[xH]at e⊢ <;>try (simp at e;done)
 case move x=>rw[h x (by simp[Op.operands])];exact e
 case assign x=>rw[h x (by simp[Op.operands])];exact e
 case pick c x y=>rw[h c (by simp[Op.operands]),h x (by simp[Op.operands]),h y (by simp[Op.operands])];exact e
 case binOp op t x y _=>rw[h x (by simp[Op.operands]),h y (by simp[Op.operands])];exact e
 case unOp op _ x=>rw[h x (by simp[Op.operands])];exact e
 case fieldAddr t x f=>rw[h x (by simp[Op.operands])];exact e
 case field t x f=>rw[h x (by simp[Op.operands])];exact e
 case index t x i=>rw[h x (by simp[Op.operands]),h i (by simp[Op.operands])];exact e
 case nilCheck x=>rw[h x (by simp[Op.operands])];exact e
 case extract t i=>rw[h t (by simp[Op.operands])];exact e
 case build t ps=>rw[zm fun x hx=>h x (by simpa[Op.operands]using hx)];exact e
 case alloc t=>
  split at e
  ·have e1:=(aN e).2
   simp only[jd,Option.some.injEq]at e1
   rw[cE (hw id (by rw[←e1];simp[bb]))];exact e
  ·simp at e
 case box t x=>
  rw[h x (by simp[Op.operands])]
  split at e
  ·rcases ac e with⟨hb,e⟩|⟨_,e⟩
   ·have e1:=(aN e).2
    simp only[jd,Option.some.injEq]at e1
    rw[hb,cond_true,cE (hw id (by rw[←e1];simp[bb]))];exact e
   ·simp at e
  ·simp at e
 case buildSlice t n ps=>
  rw[zm fun x hx=>h x (by simpa[Op.operands]using hx)]
  split at e
  ·split at e
   ·split at e
    ·rename_i b hdp
     rcases ac e with⟨hb,e⟩|⟨_,e⟩
     ·have e1:=(aN e).2
      simp only[jd,Option.some.injEq]at e1
      simp only[hb,cond_true]
      rw[cE (hw id (by rw[←e1];simp[bb]))];exact e
     ·simp at e
    split at e
    ·rename_i xs hxs
     rcases ac e with⟨hb,e⟩|⟨_,e⟩
     ·have e1:=(aN e).2
      simp only[jd,Option.some.injEq]at e1
      have hag:∀j∈aF (be (s.evs ps.toList)),jb s s' j:=fun j hj=>hr j (by rw[←e1];simp[hj])
      rw[oJ hag,hxs]
      simp only[hb,cond_true]
      rw[cE (hw id (by rw[←e1];simp only[AO];rw[Ec];simp[bb]))];exact e
     ·simp at e
    ·simp at e
   ·simp at e
  ·simp at e
 case makeSlice t n c=>
  rw[h n (by simp[Op.operands])]
  rcases ac e with⟨hb,e⟩|⟨_,e⟩
  ·rw[hb,cond_true]
   rw[iF,Option.bind_eq_some_iff]at e⊢
   obtain⟨⟨p,us⟩,e1,e2⟩:=e
   refine⟨(p,us),oL e1 fun i hi=>hw i ?_,e2⟩
   simp only[o8,jd,Option.some.injEq]at e2
   rw[←e2];exact hi
  ·simp at e
 case load t a=>
  rw[h a (by simp[Op.operands])]
  split at e
  ·rename_i p hp
   rw[tr,Option.bind_eq_some_iff]at e⊢
   obtain⟨⟨x,us⟩,e1,e2⟩:=e
   simp only[o8,jd,Option.some.injEq]at e2
   exact⟨(x,us),Ax e1 (fun i hi=>hw i (by rw[←e2];exact hi)) (fun i hi=>hr i (by rw[←e2];simp[hi])),by simp only[o8,jd,e2]⟩
  ·simp at e
 case store t a x=>
  rw[h a (by simp[Op.operands]),h x (by simp[Op.operands])]
  split at e
  ·rw[o9,Option.bind_eq_some_iff]at e⊢
   obtain⟨⟨us,rs⟩,e1,e2⟩:=e
   simp only[o8,jd,Option.some.injEq]at e2
   refine⟨(us,rs),w8 e1 (fun i hi=>hw i ?_) (fun i hi=>hr i ?_),by simp only[o8,jd,e2]⟩
   ·rw[←e2];exact hi
   ·rw[←e2];exact hi
  ·simp at e
 case indexAddr t x i=>
  rw[h x (by simp[Op.operands]),h i (by simp[Op.operands])]
  rw[oK fun j hj=>hr j (by
   rw[iG,Option.bind_eq_some_iff]at e
   obtain⟨p,_,e2⟩:=e
   simp only[jd,Option.some.injEq]at e2
   rw[←e2];simp[hj])]
  exact e
 case slice t x lo hi mx=>
  cases mx with
  |some _=>simp at e
  |none=>
   simp only at e⊢
   rw[h x (by simp[Op.operands]),zn (s:=s) (s':=s') fun y hy=>h y (by simp[Op.operands]at hy⊢;simp[hy]),zn (s:=s) (s':=s') fun y hy=>h y (by simp[Op.operands]at hy⊢;simp[hy])]
   rw[pb,Option.bind_eq_some_iff]at e⊢
   obtain⟨⟨p,us⟩,e1,e2⟩:=e
   simp only[o8,jd,Option.some.injEq]at e2
   exact⟨(p,us),xa e1 fun i hi=>hr i (by rw[←e2];simp[hi]),by simp only[o8,jd,e2]⟩
 case convert src dst x=>
  rw[h x (by simp[Op.operands])]
  split at e
  ·rename_i p hp
   rcases ac e with⟨hb,e⟩|⟨hb,e⟩
   ·rw[hb,cond_true]
    rw[pc,Option.bind_eq_some_iff]at e⊢
    obtain⟨⟨p,us⟩,e1,e2⟩:=e
    refine⟨(p,us),xb e1 fun i hi=>hw i ?_,e2⟩
    simp only[o8,jd,Option.some.injEq]at e2
    rw[←e2];exact hi
   ·rw[hb,cond_false]
    rw[Ay fun j hj=>hr j (by
     rw[tt,Option.bind_eq_some_iff]at e
     obtain⟨y,_,e2⟩:=e
     simp only[jd,Option.some.injEq]at e2
     rw[←e2];simp[hj])]
    exact e
  ·simp at e
 case makeFunc fn first captured=>
  cases fn<;>simp only[]at e⊢ <;>try (simp at e;done)
  split at e
  ·have:captured.toList.map s'.ev=captured.toList.map s.ev:=List.map_congr_left fun x hx=>h x (by simp only[Op.operands];exact Array.mem_append_right _ (by simpa using hx))
   rw[this,gk,Option.bind_eq_some_iff]
   rw[gk,Option.bind_eq_some_iff]at e
   obtain⟨⟨p,us,rs⟩,e1,e2⟩:=e
   simp only[G4,jd,Option.some.injEq]at e2
   exact⟨(p,us,rs),qV e1 fun i hi=>hr i (by rw[←e2];simp[hi]),by simp only[G4,jd,e2]⟩
  ·simp at e
 case call c=>
  obtain⟨callee,args,argTypes⟩:=c
  have hargs:args.toList.map s'.ev=args.toList.map s.ev:=List.map_congr_left fun x hx=>h x (by simp only[Op.operands,Call.operands];exact Array.mem_append_right _ (by simpa using hx))
  have harg:∀x∈args.toList,s'.ev x=s.ev x:=fun x hx=>h x (by simp only[Op.operands,Call.operands];exact Array.mem_append_right _ (by simpa using hx))
  cases callee with
  |value f=>
   cases f<;>simp only[ii]at hs<;>try (simp at hs;done)
   rename_i f
   simp only at e⊢
   rw[hargs]
   exact Az (Nat.le_of_ble_eq_true hs) e hw hr
  |invoke _ _=>simp at e
  |builtin b=>
   cases b<;>simp only[]at e⊢ <;>try (simp at e;done)
   case len=>
    split at e
    ·rename_i x t h1 h2
     rw[harg x (by rw[h1];simp)]
     rw[Eb fun j hj=>hr j (by
      rw[xj,Option.bind_eq_some_iff]at e
      obtain⟨y,_,e2⟩:=e
      simp only[jd,Option.some.injEq]at e2
      rw[←e2];simp[hj])]
     exact e
    ·simp at e
   case append=>
    split at e
    ·rename_i x y t t' h1 h2
     rw[harg x (by rw[h1];simp),harg y (by rw[h1];simp)]
     rcases ac e with⟨hb,e⟩|⟨hb,e⟩
     ·rw[hb,cond_true]
      rw[mz,Option.bind_eq_some_iff]at e⊢
      obtain⟨⟨p,us⟩,e1,e2⟩:=e
      simp only[o8,jd,Option.some.injEq]at e2
      exact⟨(p,us),uC e1 (fun i hi=>hw i (by rw[←e2];exact hi)) (fun i hi=>hr i (by rw[←e2];simp[hi])),by simp only[o8,jd,e2]⟩
     ·simp at e
    ·simp at e
   case max=>
    have:(args.toList.map fun x=>(s'.ev x).pv)=args.toList.map fun x=>(s.ev x).pv:=List.map_congr_left fun x hx=>by rw[harg x hx]
    rw[this];exact e
   case min=>
    have:(args.toList.map fun x=>(s'.ev x).pv)=args.toList.map fun x=>(s.ev x).pv:=List.map_congr_left fun x hx=>by rw[harg x hx]
    rw[this];exact e
end Go.Ps
