import Derived.Test.YtijpmnicihmoaaaGreatDoorPsP
namespace Go.Ps
set_option linter.unusedVariables false
variable {C:cr} {R:Type} {s s':St}
def jJ (s s':St) (i:Nat):Prop:=s'.mem i=s.mem i∨(bT s i=false∧bT s' i=false∧(s'.mem i).map cD.frz=(s.mem i).map cD.frz)
theorem jJ.frz {i:Nat} (h:jJ s s' i):(s'.mem i).map cD.frz=(s.mem i).map cD.frz:=by
 rcases h with h|⟨_,_,h⟩
 ·rw[h]
 ·exact h
theorem pE (s:St) (i:Nat):s.asList (.own i)=match(s.mem i).map cD.frz with
  |some (.frows e xs)=>some ⟨e,xs⟩
  |_=>none:=by
 simp only[St.asList]
 cases s.mem i with
 |none=>rfl
 |some b=>cases b<;>rfl
theorem jJ.own {i:Nat} (h:jJ s s' i):s'.asList (.own i)=s.asList (.own i):=by
 rw[pE,pE,h.frz]
theorem gt {p:PV} (h:∀i∈p.owns,jJ s s' i):s'.asList p=s.asList p:=by
 cases p<;>try rfl
 exact(h _ (by simp[PV.owns])).own
theorem sY {s:St} {id:Nat} (hd:bT s id=false):s.asRow (.own id)=s.asList (.own id):=by
 unfold bT at hd
 simp only[St.asRow]
 cases hm:s.mem id with
 |none=>rfl
 |some b=>
  rw[hm]at hd
  cases b<;>first|rfl|simp at hd
theorem sZ {p:PV} (h:∀i∈p.owns,jJ s s' i):s'.asRow p=s.asRow p:=by
 have h1:=gt h
 cases p<;>try exact h1
 rename_i id
 rcases h id (by simp[PV.owns])with h0|⟨h2,h3,_⟩
 ·simp only[St.asRow,h0,h1]
 ·rw[sY h2,sY h3,h1]
theorem AG {p:PV} (h:∀i∈p.owns,jJ s s' i):s'.dat p=s.dat p:=by
 cases p<;>try rfl
 simp only[St.dat,gt h]
theorem d5 {cs:List PV} (h:∀i∈aZ cs,jJ s s' i):cs.map s'.dat=cs.map s.dat:=
 List.map_congr_left fun p hp=>AG fun i hi=>h i (List.mem_flatMap.2 ⟨p,hp,hi⟩)
theorem s8 (s:St) (i:Nat):od s i=match(s.mem i).map cD.frz with
  |some (.fbox cs)=>some cs
  |_=>none:=by
 simp only[od]
 cases s.mem i with
 |none=>rfl
 |some b=>cases b<;>rfl
theorem jJ.box {i:Nat} (h:jJ s s' i):od s' i=od s i:=by
 rw[s8,s8,h.frz]
theorem vO (s:St) (i:Nat) (q:d7) (n:Nat):s.look (.ptr i q) n=(od s i).bind fun cs=>iK cs q n:=by
 simp only[St.look,od]
 cases s.mem i with
 |none=>rfl
 |some b=>cases b<;>rfl
theorem vQ {s:St} {id:Nat} (h:bT s id=false) (i:Int) (q:d7) (n:Nat):s.look (.elt id i q) n=match(s.mem id).map cD.frz with
  |some (.frows e xs)=>iK (inj e (rd xs i)) q n
  |_=>none:=by
 unfold bT at h
 simp only[St.look]
 cases hm:s.mem id with
 |none=>rfl
 |some b=>
  rw[hm]at h
  cases b<;>try rfl
  rename_i T e f xs
  simp only[Bool.not_eq_false']at h
  simp only[h,Bool.true_or,ae,Option.map_some,cD.frz]
  cases iK (inj e (rd xs i)) q n<;>rfl
theorem vR {p:PV} {n:Nat} (h:∀i∈p.leads,jJ s s' i):s'.look p n=s.look p n:=by
 cases p<;>try rfl
 case ptr id q=>rw[vO,vO,(h id (by simp[PV.leads])).box]
 case elt id i q=>
  have h:=h id (by simp[PV.leads])
  rcases h with h|⟨h3,h4,h⟩
  ·simp only[St.look,h]
  ·rw[vQ h3,vQ h4,h]
theorem vS {i:Nat} (h:jJ s s' i):bT s' i=bT s i:=by
 rcases h with h|⟨h1,h2,_⟩
 ·unfold bT;rw[h]
 ·rw[h1,h2]
theorem m9:∀{τ:Ty} {f:Fl} {cs:List PV} {q:τ.den×List PV×List Nat×List Nat},bW s τ f cs=some q→(∀i∈q.2.2.1,s'.mem i=s.mem i)→(∀i∈q.2.2.2,jJ s s' i)→bW s' τ f cs=some q:=by
 have dt:∀{τ:Ty} {cs:List PV} {q:τ.den×List PV×List Nat×List Nat},(match eI cs τ.size,bx cs τ.size with
  |some a,some b=>match bl τ (a.map s.dat)with
   |some x=>some (x,b,[],aZ a)
   |none=>none
  |_,_=>none)=some q→(∀i∈q.2.2.2,jJ s s' i)→(match eI cs τ.size,bx cs τ.size with
  |some a,some b=>match bl τ (a.map s'.dat)with
   |some x=>some (x,b,[],aZ a)
   |none=>none
  |_,_=>none)=some q:=by
  intro τ cs q e h
  split at e
  ·rename_i a b ha hb
   split at e
   ·rename_i x hx
    simp only[aa]at e
    subst e
    rw[d5 h,hx]
   ·simp at e
  ·simp at e
 intro τ
 induction τ with
 |list e ih=>
  intro f cs q h hU hV
  cases f with
  |own T g=>
   simp only[bW]at h⊢
   split at h
   ·rename_i i cs
    split at h
    ·rename_i T' e' g' xs hm
     rcases Bool.eq_false_or_eq_true (Nat.beq T' T&&decide (g'=g))with hc|hc
     ·rw[hc,ae]at h
      split at h
      ·rename_i he hd
       simp only[aa]at h
       subst h
       simp only[hU i (by simp),hm,hc,ae,hd]
      ·simp at h
     ·rw[hc]at h;simp at h
    ·simp at h
   ·exact h
   ·simp at h
  |_=>exact dt h hV
 |opt e ih=>
  intro f cs q h hU hV
  cases f with
  |box=>
   simp only[bW]at h⊢
   split at h
   ·exact h
   ·rename_i i cs
    split at h
    ·rename_i bs hm
     rcases Bool.eq_false_or_eq_true (Nat.blt (i%128) 127)with hc|hc
     ·rw[hc,ae]at h
      split at h
      ·rename_i x hx
       simp only[aa]at h
       subst h
       simp only[hU i (by simp),hm,hc,ae,d5 hV,hx]
      ·simp at h
     ·rw[hc]at h;simp at h
    ·simp at h
   ·simp at h
  |_=>exact dt h hV
 |pair a b iha ihb=>
  intro f cs q h hU hV
  cases f with
  |pair f g=>
   simp only[bW]at h⊢
   split at h
   ·rename_i x cs1 U V h1
    split at h
    ·rename_i y cs2 U' V' h2
     simp only[aa]at h
     subst h
     rw[iha h1 (fun i hi=>hU i (by simp;exact .inl hi)) (fun i hi=>hV i (by simp;exact .inl hi))]
     simp only[]
     rw[ihb h2 (fun i hi=>hU i (by simp;exact .inr hi)) (fun i hi=>hV i (by simp;exact .inr hi))]
    ·simp at h
   ·simp at h
  |_=>exact dt h hV
 |_=>intro f cs q h hU hV;exact dt h hV
theorem BI {p:PK} {x:SV} {A:Ar} (e:eX s p x=some A) (hU:∀i∈A.U++A.P,s'.mem i=s.mem i) (hV:∀i∈A.V,jJ s s' i):eX s' p x=some A:=by
 cases p with
 |raw=>
  simp only[eX]at e⊢
  split at e
  ·simp only[aa]at e;subst e;rw[AG hV]
  ·simp at e
 |val τ=>
  simp only[eX]at e⊢
  split at e
  ·split at e
   ·rename_i d hd
    split at e
    ·rename_i y hy
     simp only[aa]at e;subst e
     rw[d5 hV,hd];simp only[hy]
    ·simp at e
   ·simp at e
  ·simp at e
 |give τ f=>
  simp only[eX]at e⊢
  split at e
  ·split at e
   ·rename_i d U V hd
    split at e
    ·rename_i y hy
     simp only[aa]at e;subst e
     rw[m9 hd (fun i hi=>hU i (by simp;exact hi)) hV];simp only[hy]
    ·simp at e
   ·simp at e
  ·simp at e
 |lend τ f=>
  simp only[eX]at e⊢
  split at e
  ·split at e
   ·rename_i d U V hd
    split at e
    ·rename_i y hy
     simp only[aa]at e;subst e
     rw[m9 hd (fun i hi=>hU i (by simp;exact hi)) hV];simp only[hy]
    ·simp at e
   ·simp at e
  ·simp at e
 |ro τ=>
  simp only[eX]at e⊢
  split at e
  ·rename_i cs hcs
   split at e
   ·rename_i d hd
    simp only[aa]at e;subst e
    rw[vR fun i hi=>hV i (by simp;exact .inl hi),hcs]
    simp only[]
    rw[d5 fun i hi=>hV i (by simp;exact .inr hi),hd]
   ·simp at e
  ·simp at e
 |var τ f=>
  simp only[eX]at e⊢
  split at e
  ·rename_i id o hx
   split at e
   ·rename_i bs hm
    split at e
    ·rename_i cs hcs
     split at e
     ·rename_i d U V hd
      simp only[aa]at e;subst e
      rw[hU id (by simp),hm]
      simp only[hcs]
      rw[m9 hd (fun i hi=>hU i (by simp;exact .inl hi)) hV]
     ·simp at e
    ·simp at e
   ·simp at e
  ·simp at e
theorem pF:∀{ps:List PK} {xs:List SV} {A:Ar},cM s ps xs=some A→(∀i∈A.U++A.P,s'.mem i=s.mem i)→(∀i∈A.V,jJ s s' i)→cM s' ps xs=some A
 | [],[],A,e,_,_=>e
 | [],_::_,A,e,_,_=>by simp[cM]at e
 |_::_,[],A,e,_,_=>by simp[cM]at e
 |p::ps,x::xs,A,e,hU,hV=>by
  simp only[cM]at e⊢
  split at e
  ·rename_i a b ha hb
   simp only[aa]at e;subst e
   rw[BI ha (fun i hi=>hU i (by simp at hi⊢;rcases hi with hi|hi<;>simp[hi])) (fun i hi=>hV i (by simp;exact .inl hi)),
    pF hb (fun i hi=>hU i (by simp at hi⊢;rcases hi with hi|hi<;>simp[hi])) (fun i hi=>hV i (by simp;exact .inr hi))]
  ·simp at e
theorem BJ {p:PK} {x:SV} {q:rO×List Nat} (e:tA s p x=some q) (h:∀i∈q.2,jJ s s' i):tA s' p x=some q:=by
 cases p<;>simp only[tA]at e⊢ <;>try (simp at e;done)
 case val τ=>
  split at e
  ·split at e
   ·rename_i d hd
    split at e
    ·rename_i y hy
     simp only[aa]at e;subst e
     rw[d5 h,hd];simp only[hy]
    ·simp at e
   ·simp at e
  ·simp at e
 case ro τ=>
  split at e
  ·rename_i id hx
   split at e
   ·rename_i cs hcs
    split at e
    ·rename_i d hd
     simp only[aa]at e;subst e
     rw[(h id (by simp)).box,hcs]
     simp only[]
     rw[d5 fun i hi=>h i (by simp[hi]),hd]
    ·simp at e
   ·simp at e
  ·exact e
  ·simp at e
 case var τ f=>exact e
theorem pG:∀{ps:List PK} {xs:List SV} {q:List rO×List Nat},fY s ps xs=some q→(∀i∈q.2,jJ s s' i)→fY s' ps xs=some q
 | [],[],q,e,_=>e
 | [],_::_,q,e,_=>by simp[fY]at e
 |_::_,[],q,e,_=>by simp[fY]at e
 |p::ps,x::xs,q,e,h=>by
  simp only[fY]at e⊢
  split at e
  ·rename_i c i cs is hc hcs
   simp only[aa]at e;subst e
   rw[BJ hc fun j hj=>h j (by simp;exact .inl hj),pG hcs fun j hj=>h j (by simp;exact .inr hj)]
  ·simp at e
theorem pH {e:Ty}:∀{ps:List (Nat×SV)} {i:Nat},(∀j∈aZ (bE ps),jJ s s' j)→jo e s' i ps=jo e s i ps
 | [],_,_=>rfl
 |(j,x)::ps,i,h=>by
  simp only[jo]
  refine cV _ _ _ _ _ ?_ rfl
  cases hx:x.cells with
  |none=>rfl
  |some c=>
   simp only[]
   simp only[bE,hx,Option.getD_some,aZ,List.flatMap_append,List.mem_append]at h
   rw[d5 fun k hk=>h k (.inl hk),pH fun k hk=>h k (.inr hk)]
theorem yq {e:Ty} {y:PV} (h:∀i∈y.owns,jJ s s' i):lQ s' e y=lQ s e y:=by
 have h1:=gt h
 unfold lQ
 cases y<;>first|rfl|simp only[h1]
theorem BK {y:PV} (h:∀i∈y.owns,jJ s s' i):lq s' y=lq s y:=by
 cases y<;>try rfl
 rename_i id
 have h:=h id (by simp[PV.owns])
 simp only[lq]
 rcases h with h|⟨h1,h2,_⟩
 ·rw[h]
 ·have key:∀s:St,bT s id=false→(match s.mem id with
   |some (.rows _ _ f _)=>bif f.isNo then[]else[cc.frz id]
   |_=>[])=[]:=by
   intro s hd
   unfold bT at hd
   cases hm:s.mem id with
   |none=>rfl
   |some b=>
    rw[hm]at hd
    cases b<;>try rfl
    rename_i T e f xs
    simp only[Bool.not_eq_false']at hd
    simp only[hd,ae]
  exact(key s' h2).trans (key s h1).symm
theorem dc {id:Nat} {x:Option R} (h:s'.mem id=s.mem id):cY s' id x=cY s id x:=by
 unfold cY;rw[h]
theorem lF {new:List PV} (h0:aZ new=[]) (cs:List PV) (q:d7) (n:Nat):ib s'.dat cs q n new=ib s.dat cs q n new:=by
 have:=d5 (s:=s) (s':=s') (cs:=new) fun i hi=>by rw[h0]at hi;cases hi
 unfold ib
 cases q with
 | «at»o=>rfl
 |arr o e m j q=>simp only[this]
theorem FF (s:St) (p:PV):(s.dat p).owns=[]:=by
 cases p<;>try rfl
 case own id=>simp only[St.dat];cases s.asList (.own id)<;>rfl
 case fn f caps=>simp only[St.dat];generalize List.all caps _=b;cases b<;>rfl
theorem BM (s:St) (cs:List PV):aZ (cs.map s.dat)=[]:=by
 induction cs with
 |nil=>rfl
 |cons c cs ih=>simp only[List.map_cons,aZ,List.flatMap_cons]at ih⊢;rw[FF,ih];rfl
theorem yr {t:TypeId} {p:PV} {x:SV} {us:List cc} {rs:List Nat} (e:ig C s t p x fV=some (us,rs)) (hw:∀i∈bC us,s'.mem i=s.mem i) (hr:∀i∈updF us++rs,jJ s s' i):ig C s' t p x fV=some (us,rs):=by
 rw[←e]
 unfold ig at e⊢
 split at e
 ·rename_i I new hI hnew
  rcases ai e with⟨hc,e⟩|⟨_,e⟩
  ·simp only[hc,ae]
   split at e
   ·rename_i id q _
    split at e
    ·rename_i cs hm
     have hid:id∈bC us:=by
      split at e
      ·split at e
       ·simp only[fV,aa,ax]at e;rw[←e.1];simp[bC]
       ·simp at e
      ·rcases ai e with⟨_,e⟩|⟨_,e⟩
       ·split at e
        ·simp only[fV,aa,ax]at e;rw[←e.1];simp[bC]
        ·simp at e
       ·simp at e
     simp only[hw id hid,hm]
     split at e
     ·rfl
     ·rcases ai e with⟨hn,e⟩|⟨_,e⟩
      ·have:=lF (s:=s) (s':=s') (show aZ new=[] by simpa using hn)
       simp only[this]
      ·simp at e
    ·simp at e
   ·rename_i id i q _
    split at e
    ·rename_i T el f xs hm
     rcases ai e with⟨hc2,e⟩|⟨hc2,e⟩
     ·split at e
      ·rename_i cs' hcs
       split at e
       ·rename_i x' hx'
        simp only[fV,aa,ax]at e
        have hid:id∈bC us:=by
         rw[←e.1]
         have:∀(l:List Nat) (us:List cc),bC (l.map .frz++us)=bC us:=fun l us=>by induction l with|nil=>rfl|cons _ _ ih=>simpa[bC]using ih
         simp[B8,this,bC]
        simp only[hw id hid,hm,hc2,ae]
        rw[d5 fun i hi=>hr i (by rw[←e.2];simp[hi]),lF (s:=s) (BM s new)];simp only[hcs,hx']
       ·simp at e
      ·simp at e
     ·have hd:(bif (aZ new).isEmpty then ie el f (rd xs i) q I.size (new.map s'.dat)else none)=bif (aZ new).isEmpty then ie el f (rd xs i) q I.size (new.map s.dat)else none:=by
       cases hn:(aZ new).isEmpty with
       |false=>rfl
       |true=>rw[d5 (s:=s) (s':=s') fun i hi=>by rw[List.isEmpty_iff.1 hn]at hi;simp at hi]
      have hid:id∈bC us:=by
       split at e
       ·simp only[fV,aa,ax]at e;rw[←e.1];simp[bC]
       ·split at e
        ·rcases ai e with⟨_,e⟩|⟨_,e⟩
         ·split at e
          ·simp only[fV,aa,ax]at e;rw[←e.1];simp[bC]
          ·simp at e
         ·simp at e
        ·simp at e
      simp only[hw id hid,hm,hc2,ac,hd]
    ·rename_i T el f xs i' cs0 hm
     rcases ai e with⟨hc2,e⟩|⟨_,e⟩
     ·have hid:id∈bC us:=by
       split at e
       ·split at e
        ·simp only[fV,aa,ax]at e;rw[←e.1];simp[bC]
        ·simp at e
       ·rcases ai e with⟨_,e⟩|⟨_,e⟩
        ·split at e
         ·simp only[fV,aa,ax]at e;rw[←e.1];simp[bC]
         ·simp at e
        ·simp at e
      simp only[hw id hid,hm,hc2,ae]
      split at e
      ·rfl
      ·rcases ai e with⟨hn,e⟩|⟨_,e⟩
       ·have:=lF (s:=s) (s':=s') (show aZ new=[] by simpa using hn)
        simp only[this]
       ·simp at e
     ·simp at e
    ·simp at e
   ·simp at e
  ·simp at e
 ·simp at e
theorem yu {l:List (Nat×cD)} (h:∀p∈l,s'.mem p.1=s.mem p.1):gC s' l=gC s l:=by
 unfold gC
 induction l with
 |nil=>rfl
 |cons p l ih=>simp only[List.all_cons];rw[h p (by simp),ih fun q hq=>h q (by simp[hq])]
theorem BN {id:Nat} {t:TypeId} {p:PV} {x:SV} {us:List cc} (e:lm C s id t p fV=some (x,us)) (hw:∀i∈bC us,s'.mem i=s.mem i) (hr:∀i∈p.leads,jJ s s' i):lm C s' id t p fV=some (x,us):=by
 unfold lm at e⊢
 split at e
 ·rename_i I hI
  rw[vR hr]
  split at e
  ·exact e
  ·rw[←e]
   unfold qo at e⊢
   split at e
   ·rename_i j i q _
    split at e
    ·rename_i T e1 f xs hm
     rcases ai e with⟨hc,e⟩|⟨_,e⟩
     ·split at e
      ·rename_i cs hcs
       have hus: .set j .dead::(cT (aY id e1 f (rd xs i) 0).2.1++[.set j (.opn T e1 f xs i (aY id e1 f (rd xs i) 0).1)])=us:=by
        rcases nb e with⟨_,e⟩|⟨_,c,_,_,e⟩
        ·simp only[fV,aa,ax]at e;exact e.2
        ·simp only[fV,aa,ax]at e;exact e.2
       have hWs:∀(l:List (Nat×cD)) (us:List cc),bC (cT l++us)=l.map (·.1)++bC us:=fun l us=>by
        induction l with
        |nil=>rfl
        |cons u a ih=>simpa[bC,cT]using ih
       rw[←hus]at hw
       simp only[bC,hWs]at hw
       simp only[hw j (by simp),hm]
       rw[yu fun p hp=>hw p.1 (List.mem_cons_of_mem _ (List.mem_append_left _ (List.mem_map.2 ⟨p,hp,rfl⟩)))]
       simp only[hcs]
      ·simp at e
     ·simp at e
    ·rename_i hm
     have hj:s'.mem j=s.mem j:=by
      rcases hr j (by simp[PV.leads])with h|⟨h,_⟩
      ·exact h
      ·unfold bT at h;rw[hm]at h;simp at h
     simp only[hj,hm]
    ·simp at e
   ·simp at e
 ·simp at e
theorem FG {t:TypeId} {x:PV} {k:PV→Option R} (h:∀i∈x.owns,jJ s s' i):sq C s' t x k=sq C s t x k:=by
 have h1:=sZ h
 unfold sq
 cases x<;>first|rfl|simp only[h1]
theorem BO {src dst:TypeId} {x:PV} {k:PV→Option R} (h:∀i∈x.owns,jJ s s' i):lr C s' src dst x k=lr C s src dst x k:=by
 have h1:=gt h
 unfold lr
 cases C.ti src<;>cases C.ti dst<;>cases x<;>first|rfl|simp only[h1]
theorem pI {t:TypeId} {x i:PV} {k:PV→Option R} (h:∀j∈x.owns,jJ s s' j):cH C s' t x i k=cH C s t x i k:=by
 unfold cH
 cases i<;>try rfl
 cases x with
 |own id=>have h1:=sZ h;simp only[h1]
 |ptr id p=>cases p<;>rfl
 |elt id j p=>cases p<;>rfl
 |_=>rfl
theorem FH (l:List Nat) (us:List cc):bC (l.map .frz++us)=bC us:=by induction l with|nil=>rfl|cons _ _ ih=>simpa[bC]using ih
theorem mb {x:Option PV} {d:Int} {k:Int→Option R} {r:R} (e:jp x d k=some r):∃n,k n=some r:=by
 unfold jp at e;split at e
 ·exact⟨_,e⟩
 ·exact⟨_,e⟩
 ·simp at e
theorem yw {t:TypeId} {x:PV} {lo hi:Option PV} {p:PV} {us:List cc} (e:ii C s t x lo hi fV=some (p,us)) (hr:∀i∈updF us,jJ s s' i):ii C s' t x lo hi fV=some (p,us):=by
 have hx:∀i∈x.owns,jJ s s' i:=by
  intro i hi
  cases x<;>simp only[PV.owns,List.not_mem_nil,List.mem_singleton]at hi
  subst hi
  refine hr i ?_
  unfold ii at e
  simp only[]at e
  split at e
  ·rcases ai e with⟨_,e⟩|⟨_,e⟩
   ·obtain⟨l,e⟩:=mb e
    obtain⟨m,e⟩:=mb e
    rcases ai e with⟨_,e⟩|⟨_,e⟩
    ·simp only[fV,aa,ax]at e;rw[←e.2];simp[PV.owns,updF]
    ·simp at e
   ·simp at e
  ·simp at e
 have h1:=gt hx
 rw[←e]
 unfold ii
 cases x<;>first|rfl|simp only[h1]
theorem pJ {id:Nat} {t:TypeId} {n p:PV} {us:List cc} (e:cU C s id t n fV=some (p,us)) (hw:∀i∈bC us,s'.mem i=s.mem i):cU C s' id t n fV=some (p,us):=by
 rw[←e]
 unfold cU at e⊢
 split at e
 ·split at e
  ·split at e
   ·rcases ai e with⟨_,e⟩|⟨_,e⟩
    ·have e1:=(bi e).2
     rcases ai e1 with⟨_,e1⟩|⟨_,e1⟩
     ·simp only[fV,aa,ax]at e1
      rw[dc (hw id (by rw[←e1.2];simp[bC]))]
     ·simp at e1
    ·simp at e
   ·simp at e
  ·simp at e
 ·simp at e
theorem yx {id:Nat} {src dst:TypeId} {x p:PV} {us:List cc} (e:ij C s id src dst x fV=some (p,us)) (hw:∀i∈bC us,s'.mem i=s.mem i):ij C s' id src dst x fV=some (p,us):=by
 rw[←e]
 unfold ij at e⊢
 split at e
 ·rcases ai e with⟨hb,e⟩|⟨_,e⟩
  ·rw[hb,ae,ae]
   split at e
   ·have e1:=(bi e).2
    rcases ai e1 with⟨_,e1⟩|⟨_,e1⟩
    ·simp only[fV,aa,ax]at e1
     rw[dc (hw id (by rw[←e1.2];simp[bC]))]
    ·simp at e1
   ·simp at e
  ·simp at e
 ·simp at e
theorem FI {id:Nat} {e:TypeId} {τ:Ty} {x y:PV} (hy:∀j∈y.owns,jJ s s' j) (hx:∀l∈x.owns,s'.mem l=s.mem l):oH s' id e τ x y=oH s id e τ x y:=by
 cases y<;>try rfl
 rename_i j
 have hx':∀l,x= .own l→s'.mem l=s.mem l:=fun l hl=>hx l (by rw[hl];simp[PV.owns])
 rcases hy j (by simp[PV.owns])with h|⟨h1,h2,_⟩
 ·unfold oH
  simp only[h]
  cases x<;>try rfl
  simp only[hx' _ rfl]
 ·have key:∀s:St,bT s j=false→oH s id e τ x (.own j)=none:=by
   intro s hd
   unfold bT at hd
   unfold oH
   simp only[]
   cases hm:s.mem j with
   |none=>rfl
   |some b=>
    rw[hm]at hd
    cases b<;>first|rfl|simp at hd|skip
    rename_i T e0 f xs
    simp[hd]
  rw[key s h1,key s' h2]
theorem FJ {id m:Nat} {e:TypeId} {τ:Ty} {x y:PV} {us:List cc} (h:oH s id e τ x y=some (m,us)):(∀i∈y.owns,i∈bC us)∧(∀i∈x.owns,i∈bC us)∧id∈bC us:=by
 unfold oH at h
 split at h
 ·split at h
  ·rcases ai h with⟨_,h⟩|⟨_,h⟩
   ·split at h
    ·split at h
     ·simp only[aa,ax]at h;rw[←h.2];simp[PV.owns,bC]
     ·split at h
      ·rcases ai h with⟨_,h⟩|⟨_,h⟩
       ·split at h
        ·simp only[aa,ax]at h;rw[←h.2];simp[PV.owns,bC]
        ·simp at h
       ·simp at h
      ·simp at h
     ·simp at h
    ·simp at h
   ·simp at h
  ·rcases ai h with⟨_,h⟩|⟨_,h⟩
   ·split at h
    ·split at h
     ·split at h
      ·rcases ai h with⟨_,h⟩|⟨_,h⟩
       ·split at h
        ·simp only[aa,ax]at h;rw[←h.2];simp[PV.owns,bC]
        ·simp at h
       ·simp at h
      ·simp at h
     ·simp at h
    ·simp at h
   ·simp at h
  ·simp at h
 ·simp at h
theorem vT {id:Nat} {sl:TypeId} {x y p:PV} {us:List cc} (e:ej C s id sl x y fV=some (p,us)) (hw:∀i∈bC us,s'.mem i=s.mem i) (hy:∀i∈y.owns,jJ s s' i):ej C s' id sl x y fV=some (p,us):=by
 rw[←e]
 have hu:=BK hy
 have hwm:∀vs:List cc,∀i∈bC vs,i∈bC (lq s y++vs):=by
  intro vs i hi
  have:∀a b:List cc,bC (a++b)=bC a++bC b:=fun a b=>by
   induction a with
   |nil=>rfl
   |cons u a ih=>cases u<;>simp[bC,ih]
  rw[this];simp[hi]
 have hwa:∀a b:List cc,bC (a++b)=bC a++bC b:=fun a b=>by
  induction a with
  |nil=>rfl
  |cons u a ih=>cases u<;>simp[bC,ih]
 have hxw:∀l∈x.owns,s'.mem l=s.mem l:=by
  intro l hl
  refine hw l ?_
  unfold ej at e
  split at e
  ·split at e
   ·rcases ai e with⟨hb,e⟩|⟨_,e⟩
    ·split at e
     ·rename_i had
      have e1:=(bi e).2
      rcases ai e1 with⟨_,e1⟩|⟨_,e1⟩
      ·simp only[fV,aa,ax]at e1
       rw[←e1.2];exact(FJ had).2.1 l hl
      ·simp at e1
     ·split at e
      ·split at e
       ·simp[PV.owns]at hl
       ·split at e
        ·rcases ai e with⟨_,e⟩|⟨_,e⟩
         ·split at e
          ·have e1:=(bi e).2
           rcases ai e1 with⟨_,e1⟩|⟨_,e1⟩
           ·simp only[fV,aa,ax]at e1
            simp only[PV.owns,List.mem_singleton]at hl
            rw[←e1.2,hwa,hl];simp[bC]
           ·simp at e1
          ·simp at e
         ·simp at e
        ·simp at e
       ·simp at e
      ·simp at e
    ·simp at e
   ·simp at e
  ·simp at e
 unfold ej at e⊢
 split at e
 ·split at e
  ·rcases ai e with⟨hb,e⟩|⟨_,e⟩
   ·rw[yq hy,FI hy hxw]
    simp only[hb,ae]
    split at e
    ·rename_i had
     have e1:=(bi e).2
     rcases ai e1 with⟨_,e1⟩|⟨_,e1⟩
     ·simp only[fV,aa,ax]at e1
      rw[dc (hw id (by rw[←e1.2];exact(FJ had).2.2))]
     ·simp at e1
    rename_i hno0
    clear hno0
    split at e
    ·split at e
     ·have e1:=(bi e).2
      rcases ai e1 with⟨_,e1⟩|⟨_,e1⟩
      ·simp only[fV,aa,ax]at e1
       rw[dc (hw id (by rw[←e1.2];exact hwm _ _ (by simp[bC]))),hu]
      ·simp at e1
     ·rename_i j _
      split at e
      ·rename_i T e' f xs hm
       rcases ai e with⟨hc,e⟩|⟨_,e⟩
       ·split at e
        ·rename_i h hd
         have e1:=(bi e).2
         rcases ai e1 with⟨_,e1⟩|⟨_,e1⟩
         ·simp only[fV,aa,ax]at e1
          have hj:s'.mem j=s.mem j:=hw j (by rw[←e1.2];exact hwm _ _ (by simp[bC]))
          simp only[hj,hm,hc,ae,hd]
          rw[dc (hw id (by rw[←e1.2];exact hwm _ _ (by simp[bC]))),hu]
         ·simp at e1
        ·simp at e
       ·simp at e
      ·simp at e
     ·simp at e
    ·simp at e
   ·simp at e
  ·simp at e
 ·simp at e
theorem rZ {f:FuncId} {xs:List SV} {p:PV} {us:List cc} {rs:List Nat} (e:dP C s f xs jF=some (p,us,rs)) (hr:∀i∈rs,jJ s s' i):dP C s' f xs jF=some (p,us,rs):=by
 rw[←e]
 unfold dP at e⊢
 split at e
 ·split at e
  ·split at e
   ·rename_i cs is hcs
    rcases ai e with⟨_,e⟩|⟨_,e⟩
    ·simp only[jF,aa,ax]at e
     rw[pG hcs fun i hi=>hr i (by rw[←e.2.2];exact hi)]
    ·simp at e
   ·simp at e
  ·simp at e
 ·rfl
theorem s9 {env:C.Env} {id:Nat} {f:FuncId} {xs:List SV} {q:SV×List cc×List Nat} (hs:(C.alts f).length≤1) (e:jH C env id s f xs jF=some q) (hw:∀i∈bC q.2.1,s'.mem i=s.mem i) (hr:∀i∈updF q.2.1++q.2.2,jJ s s' i):jH C env id s' f xs jF=some q:=by
 unfold jH at e⊢
 match h:C.alts f,hs with
 | [],_=>rw[h]at e;simp[ki]at e
 | [g],_=>
  rw[h]at e
  simp only[ki]at e⊢
  split at e
  ·rename_i sg hsg
   split at e
   ·rename_i A hA
    rw[mh]at e
    rcases ai e with⟨hc,e⟩|⟨_,e⟩
    ·rw[Option.bind_eq_some_iff]at e
     obtain⟨r,hr0,e⟩:=e
     have e':=e
     rw[Option.bind_eq_some_iff]at e
     obtain⟨q',hq,e⟩:=e
     have hqq:q'=q:=by simpa using e
     subst hqq
     unfold ws at hq
     generalize hj:aY id (C.resTy g) sg.resFl r 0=qq at hq
     obtain⟨cs,new,j⟩:=qq
     simp only[]at hq
     split at hq
     ·rename_i x back hx hb
      rcases ai hq with⟨hd,hq⟩|⟨_,hq⟩
      ·split at hq
       ·rename_i us hus
        simp only[aa]at hq
        subst hq
        simp only[]at hw hr
        have hWa:∀a b:List cc,bC (a++b)=bC a++bC b:=fun a b=>by
         induction a with
         |nil=>rfl
         |cons u a ih=>cases u<;>simp[bC,ih]
        have hWd:∀l:List Nat,bC (l.map (.set · .dead))=l:=fun l=>by
         induction l with
         |nil=>rfl
         |cons u a ih=>simpa[bC]using ih
        have hWs:∀l:List (Nat×cD),bC (cT l)=l.map (·.1):=fun l=>by
         induction l with
         |nil=>rfl
         |cons u a ih=>simpa[bC,cT]using ih
        rw[hWa,hWa,hWa,hWd,hWs]at hw
        have hUP:∀i∈A.U++A.P,s'.mem i=s.mem i:=fun i hi=>hw i (List.mem_append_left _ (List.mem_append_right _ (List.mem_append_left _ hi)))
        have hA':=pF hA hUP fun i hi=>hr i (List.mem_append_right _ hi)
        rw[hA']
        simp only[]
        rw[mh,hc,ae,hr0,af]
        unfold ws
        rw[hj]
        simp only[hx,hb]
        have hf:gC s' new=gC s new:=by
         unfold gC
         have:∀l:List (Nat×cD),(∀p∈l,s'.mem p.1=s.mem p.1)→(l.all fun p=>match s'.mem p.1 with|none=>true|some _=>false)=l.all fun p=>match s.mem p.1 with|none=>true|some _=>false:=fun l hl=>by
          induction l with
          |nil=>rfl
          |cons p l ih=>simp only[List.all_cons];rw[hl p (by simp),ih fun q hq=>hl q (by simp[hq])]
         exact this new fun p hp=>hw p.1 (List.mem_append_left _ (List.mem_append_right _ (List.mem_append_right _ (List.mem_map.2 ⟨p,hp,rfl⟩))))
        rw[hf,hd]
        simp only[AR,ay]at hc
        have hbk:∀i∈qp A.bk,s.mem i=s'.mem i:=fun i hi=>by
         have:=List.all_eq_true.1 hc.2 i hi
         obtain⟨k,hk,hki⟩:=List.any_eq_true.1 this
         rw[aQ hki]
         exact(hUP k hk).symm
        rw[←nY hbk,hus]
        rfl
       ·simp at hq
      ·simp at hq
     ·simp at hq
    ·simp at e
   ·simp at e
  ·simp at e
 |_::_::_,hs=>simp at hs
theorem AH {ps:List (Nat×Operand)} (h:∀x∈ps.map (·.2),s'.ev x=s.ev x):s'.evs ps=s.evs ps:=
 List.map_congr_left fun p hp=>by rw[h p.2 (List.mem_map.2 ⟨p,hp,rfl⟩)]
theorem AI {x:Option Operand} (h:∀y∈x.toArray,s'.ev y=s.ev y):(x.map fun o=>(s'.ev o).pv)=x.map fun o=>(s.ev o).pv:=by
 cases x with
 |none=>rfl
 |some o=>simp only[Option.map_some];rw[h o (by simp)]
theorem KB {env:C.Env} {id:Nat} {op:Op} {q:SV×List cc×List Nat} (hs:iS C op=true) (h:∀x∈op.operands,s'.ev x=s.ev x) (e:y6 C env id op s jF=some q)
  (hw:∀i∈bC q.2.1,s'.mem i=s.mem i) (hr:∀i∈updF q.2.1++q.2.2,jJ s s' i):y6 C env id op s' jF=some q:=by
 cases op<;>simp only[y6]at e⊢ <;>try (simp at e;done)
 case move x=>rw[h x (by simp[Op.operands])];exact e
 case assign x=>rw[h x (by simp[Op.operands])];exact e
 case pick c x y=>rw[h c (by simp[Op.operands]),h x (by simp[Op.operands]),h y (by simp[Op.operands])];exact e
 case binOp op t x y _=>rw[h x (by simp[Op.operands]),h y (by simp[Op.operands])];exact e
 case unOp op _ x=>rw[h x (by simp[Op.operands])];exact e
 case fieldAddr t x f=>rw[h x (by simp[Op.operands])];exact e
 case field t x f=>rw[h x (by simp[Op.operands])];exact e
 case index t x i=>rw[h x (by simp[Op.operands]),h i (by simp[Op.operands])];exact e
 case nilCheck x=>rw[h x (by simp[Op.operands])];exact e
 case extract t i=>rw[h t (by simp[Op.operands])];exact e
 case build t ps=>rw[AH fun x hx=>h x (by simpa[Op.operands]using hx)];exact e
 case alloc t=>
  split at e
  ·have e1:=(bi e).2
   simp only[jF,aa]at e1
   rw[dc (hw id (by rw[←e1];simp[bC]))];exact e
  ·simp at e
 case box t x=>
  rw[h x (by simp[Op.operands])]
  split at e
  ·rcases ai e with⟨hb,e⟩|⟨_,e⟩
   ·have e1:=(bi e).2
    simp only[jF,aa]at e1
    rw[hb,ae,dc (hw id (by rw[←e1];simp[bC]))];exact e
   ·simp at e
  ·simp at e
 case buildSlice t n ps=>
  rw[AH fun x hx=>h x (by simpa[Op.operands]using hx)]
  split at e
  ·split at e
   ·split at e
    ·rename_i b hdp
     rcases ai e with⟨hb,e⟩|⟨_,e⟩
     ·have e1:=(bi e).2
      simp only[jF,aa]at e1
      simp only[hb,ae]
      rw[dc (hw id (by rw[←e1];simp[bC]))];exact e
     ·simp at e
    split at e
    ·rename_i xs hxs
     rcases ai e with⟨hb,e⟩|⟨_,e⟩
     ·have e1:=(bi e).2
      simp only[jF,aa]at e1
      have hag:∀j∈aZ (bE (s.evs ps.toList)),jJ s s' j:=fun j hj=>hr j (by rw[←e1];simp[hj])
      rw[pH hag,hxs]
      simp only[hb,ae]
      rw[dc (hw id (by rw[←e1];simp only[B8];rw[FH];simp[bC]))];exact e
     ·simp at e
    ·simp at e
   ·simp at e
  ·simp at e
 case makeSlice t n c=>
  rw[h n (by simp[Op.operands])]
  rcases ai e with⟨hb,e⟩|⟨_,e⟩
  ·rw[hb,ae]
   rw[ji,Option.bind_eq_some_iff]at e⊢
   obtain⟨⟨p,us⟩,e1,e2⟩:=e
   refine⟨(p,us),pJ e1 fun i hi=>hw i ?_,e2⟩
   simp only[un2,jF,aa]at e2
   rw[←e2];exact hi
  ·simp at e
 case load t a=>
  rw[h a (by simp[Op.operands])]
  split at e
  ·rename_i p hp
   rw[uH,Option.bind_eq_some_iff]at e⊢
   obtain⟨⟨x,us⟩,e1,e2⟩:=e
   simp only[un2,jF,aa]at e2
   exact⟨(x,us),BN e1 (fun i hi=>hw i (by rw[←e2];exact hi)) (fun i hi=>hr i (by rw[←e2];simp[hi])),by simp only[un2,jF,e2]⟩
  ·simp at e
 case store t a x=>
  rw[h a (by simp[Op.operands]),h x (by simp[Op.operands])]
  split at e
  ·rw[qa,Option.bind_eq_some_iff]at e⊢
   obtain⟨⟨us,rs⟩,e1,e2⟩:=e
   simp only[un2,jF,aa]at e2
   refine⟨(us,rs),yr e1 (fun i hi=>hw i ?_) (fun i hi=>hr i ?_),by simp only[un2,jF,e2]⟩
   ·rw[←e2];exact hi
   ·rw[←e2];exact hi
  ·simp at e
 case indexAddr t x i=>
  rw[h x (by simp[Op.operands]),h i (by simp[Op.operands])]
  rw[pI fun j hj=>hr j (by
   rw[jj,Option.bind_eq_some_iff]at e
   obtain⟨p,_,e2⟩:=e
   simp only[jF,aa]at e2
   rw[←e2];simp[hj])]
  exact e
 case slice t x lo hi mx=>
  cases mx with
  |some _=>simp at e
  |none=>
   simp only at e⊢
   rw[h x (by simp[Op.operands]),AI (s:=s) (s':=s') fun y hy=>h y (by simp[Op.operands]at hy⊢;simp[hy]),AI (s:=s) (s':=s') fun y hy=>h y (by simp[Op.operands]at hy⊢;simp[hy])]
   rw[qb,Option.bind_eq_some_iff]at e⊢
   obtain⟨⟨p,us⟩,e1,e2⟩:=e
   simp only[un2,jF,aa]at e2
   exact⟨(p,us),yw e1 fun i hi=>hr i (by rw[←e2];simp[hi]),by simp only[un2,jF,e2]⟩
 case convert src dst x=>
  rw[h x (by simp[Op.operands])]
  split at e
  ·rename_i p hp
   rcases ai e with⟨hb,e⟩|⟨hb,e⟩
   ·rw[hb,ae]
    rw[qc,Option.bind_eq_some_iff]at e⊢
    obtain⟨⟨p,us⟩,e1,e2⟩:=e
    refine⟨(p,us),yx e1 fun i hi=>hw i ?_,e2⟩
    simp only[un2,jF,aa]at e2
    rw[←e2];exact hi
   ·rw[hb,ac]
    rw[BO fun j hj=>hr j (by
     rw[uI,Option.bind_eq_some_iff]at e
     obtain⟨y,_,e2⟩:=e
     simp only[jF,aa]at e2
     rw[←e2];simp[hj])]
    exact e
  ·simp at e
 case makeFunc fn first captured=>
  cases fn<;>simp only[]at e⊢ <;>try (simp at e;done)
  split at e
  ·have:captured.toList.map s'.ev=captured.toList.map s.ev:=List.map_congr_left fun x hx=>h x (by simp only[Op.operands];exact Array.mem_append_right _ (by simpa using hx))
   rw[this,gY,Option.bind_eq_some_iff]
   rw[gY,Option.bind_eq_some_iff]at e
   obtain⟨⟨p,us,rs⟩,e1,e2⟩:=e
   simp only[IE,jF,aa]at e2
   exact⟨(p,us,rs),rZ e1 fun i hi=>hr i (by rw[←e2];simp[hi]),by simp only[IE,jF,e2]⟩
  ·simp at e
 case call c=>
  obtain⟨callee,args,argTypes⟩:=c
  have hargs:args.toList.map s'.ev=args.toList.map s.ev:=List.map_congr_left fun x hx=>h x (by simp only[Op.operands,Call.operands];exact Array.mem_append_right _ (by simpa using hx))
  have harg:∀x∈args.toList,s'.ev x=s.ev x:=fun x hx=>h x (by simp only[Op.operands,Call.operands];exact Array.mem_append_right _ (by simpa using hx))
  cases callee with
  |value f=>
   have fn:∀x:SV,IF C env id s x (args.toList.map s.ev) jF=some q→IF C env id s' x (args.toList.map s.ev) jF=some q:=by
    intro x e
    unfold IF at e⊢
    split at e
    ·split at e
     ·rcases ai e with⟨hc,e⟩|⟨_,e⟩
      ·simp only[hc,ae]
       exact s9 (bB hc) e hw hr
      ·simp at e
     ·simp at e
    ·simp at e
   have hf:s'.ev f=s.ev f:=h f (by simp[Op.operands,Call.operands])
   cases f
   case func f=>
    simp only[iS]at hs
    simp only at e⊢
    rw[hargs]
    exact s9 (bB hs) e hw hr
   all_goals
    simp only at e⊢
    rw[hargs,hf]
    exact fn _ e
  |invoke _ _=>simp at e
  |builtin b=>
   cases b<;>simp only[]at e⊢ <;>try (simp at e;done)
   case len=>
    split at e
    ·rename_i x t h1 h2
     rw[harg x (by rw[h1];simp)]
     rw[FG fun j hj=>hr j (by
      rw[yF,Option.bind_eq_some_iff]at e
      obtain⟨y,_,e2⟩:=e
      simp only[jF,aa]at e2
      rw[←e2];simp[hj])]
     exact e
    ·simp at e
   case append=>
    split at e
    ·rename_i x y t t' h1 h2
     rw[harg x (by rw[h1];simp),harg y (by rw[h1];simp)]
     rcases ai e with⟨hb,e⟩|⟨hb,e⟩
     ·rw[hb,ae]
      rw[ni,Option.bind_eq_some_iff]at e⊢
      obtain⟨⟨p,us⟩,e1,e2⟩:=e
      simp only[un2,jF,aa]at e2
      exact⟨(p,us),vT e1 (fun i hi=>hw i (by rw[←e2];exact hi)) (fun i hi=>hr i (by rw[←e2];simp[hi])),by simp only[un2,jF,e2]⟩
     ·simp at e
    ·simp at e
   case max=>
    have:(args.toList.map fun x=>(s'.ev x).pv)=args.toList.map fun x=>(s.ev x).pv:=List.map_congr_left fun x hx=>by rw[harg x hx]
    rw[this];exact e
   case min=>
    have:(args.toList.map fun x=>(s'.ev x).pv)=args.toList.map fun x=>(s.ev x).pv:=List.map_congr_left fun x hx=>by rw[harg x hx]
    rw[this];exact e
end Go.Ps
