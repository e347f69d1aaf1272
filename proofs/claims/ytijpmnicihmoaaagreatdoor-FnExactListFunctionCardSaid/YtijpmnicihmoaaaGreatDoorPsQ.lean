import Derived.Test.YtijpmnicihmoaaaGreatDoorPsP
namespace Go.Ps
set_option linter.unusedVariables false
variable {C:co} {R:Type} {s s':St}
def jM (s s':St) (i:Nat):Prop:=s'.mem i=s.mem i∨(bQ s i=false∧bQ s' i=false∧(s'.mem i).map cx.frz=(s.mem i).map cx.frz)
theorem jM.frz {i:Nat} (h:jM s s' i):(s'.mem i).map cx.frz=(s.mem i).map cx.frz:=by
 rcases h with h|⟨_,_,h⟩
 ·rw[h]
 ·exact h
theorem pD (s:St) (i:Nat):s.asList (.own i)=match(s.mem i).map cx.frz with
  |some (.frows e xs)=>some ⟨e,xs⟩
  |_=>none:=by
 simp only[St.asList]
 cases s.mem i with
 |none=>rfl
 |some b=>cases b<;>rfl
theorem jM.own {i:Nat} (h:jM s s' i):s'.asList (.own i)=s.asList (.own i):=by
 rw[pD,pD,h.frz]
theorem gv {p:PV} (h:∀i∈p.owns,jM s s' i):s'.asList p=s.asList p:=by
 cases p<;>try rfl
 exact(h _ (by simp[PV.owns])).own
theorem sT {s:St} {id:Nat} (hd:bQ s id=false):s.asRow (.own id)=s.asList (.own id):=by
 unfold bQ at hd
 simp only[St.asRow]
 cases hm:s.mem id with
 |none=>rfl
 |some b=>
  rw[hm]at hd
  cases b<;>first|rfl|simp at hd
theorem sU {p:PV} (h:∀i∈p.owns,jM s s' i):s'.asRow p=s.asRow p:=by
 have h1:=gv h
 cases p<;>try exact h1
 rename_i id
 rcases h id (by simp[PV.owns])with h0|⟨h2,h3,_⟩
 ·simp only[St.asRow,h0,h1]
 ·rw[sT h2,sT h3,h1]
theorem AL {p:PV} (h:∀i∈p.owns,jM s s' i):s'.dat p=s.dat p:=by
 cases p<;>try rfl
 simp only[St.dat,gv h]
theorem dX {cs:List PV} (h:∀i∈aZ cs,jM s s' i):cs.map s'.dat=cs.map s.dat:=
 List.map_congr_left fun p hp=>AL fun i hi=>h i (List.mem_flatMap.2 ⟨p,hp,hi⟩)
theorem sV (s:St) (i:Nat):oc s i=match(s.mem i).map cx.frz with
  |some (.fbox cs)=>some cs
  |_=>none:=by
 simp only[oc]
 cases s.mem i with
 |none=>rfl
 |some b=>cases b<;>rfl
theorem jM.box {i:Nat} (h:jM s s' i):oc s' i=oc s i:=by
 rw[sV,sV,h.frz]
theorem vO (s:St) (i:Nat) (q:dZ) (n:Nat):s.look (.ptr i q) n=(oc s i).bind fun cs=>iJ cs q n:=by
 simp only[St.look,oc]
 cases s.mem i with
 |none=>rfl
 |some b=>cases b<;>rfl
theorem vQ {s:St} {id:Nat} (h:bQ s id=false) (i:Int) (q:dZ) (n:Nat):s.look (.elt id i q) n=match(s.mem id).map cx.frz with
  |some (.frows e xs)=>iJ (inj e (rd xs i)) q n
  |_=>none:=by
 unfold bQ at h
 simp only[St.look]
 cases hm:s.mem id with
 |none=>rfl
 |some b=>
  rw[hm]at h
  cases b<;>try rfl
  rename_i T e f xs
  simp only[Bool.not_eq_false']at h
  simp only[h,Bool.true_or,ae,Option.map_some,cx.frz]
  cases iJ (inj e (rd xs i)) q n<;>rfl
theorem vR {p:PV} {n:Nat} (h:∀i∈p.leads,jM s s' i):s'.look p n=s.look p n:=by
 cases p<;>try rfl
 case ptr id q=>rw[vO,vO,(h id (by simp[PV.leads])).box]
 case elt id i q=>
  have h:=h id (by simp[PV.leads])
  rcases h with h|⟨h3,h4,h⟩
  ·simp only[St.look,h]
  ·rw[vQ h3,vQ h4,h]
theorem vS {i:Nat} (h:jM s s' i):bQ s' i=bQ s i:=by
 rcases h with h|⟨h1,h2,_⟩
 ·unfold bQ;rw[h]
 ·rw[h1,h2]
theorem m8:∀{τ:Ty} {f:Fl} {cs:List PV} {q:τ.den×List PV×List Nat×List Nat},bU s τ f cs=some q→(∀i∈q.2.2.1,s'.mem i=s.mem i)→(∀i∈q.2.2.2,jM s s' i)→bU s' τ f cs=some q:=by
 have dt:∀{τ:Ty} {cs:List PV} {q:τ.den×List PV×List Nat×List Nat},(match eH cs τ.size,bu cs τ.size with
  |some a,some b=>match bj τ (a.map s.dat)with
   |some x=>some (x,b,[],aZ a)
   |none=>none
  |_,_=>none)=some q→(∀i∈q.2.2.2,jM s s' i)→(match eH cs τ.size,bu cs τ.size with
  |some a,some b=>match bj τ (a.map s'.dat)with
   |some x=>some (x,b,[],aZ a)
   |none=>none
  |_,_=>none)=some q:=by
  intro τ cs q e h
  split at e
  ·rename_i a b ha hb
   split at e
   ·rename_i x hx
    simp only[aa]at e
    subst e
    rw[dX h,hx]
   ·simp at e
  ·simp at e
 intro τ
 induction τ with
 |list e ih=>
  intro f cs q h hU hV
  cases f with
  |own T g=>
   simp only[bU]at h⊢
   split at h
   ·rename_i i cs
    split at h
    ·rename_i T' e' g' xs hm
     rcases Bool.eq_false_or_eq_true (Nat.beq T' T&&decide (g'=g))with hc|hc
     ·rw[hc,ae]at h
      split at h
      ·rename_i he hd
       simp only[aa]at h
       subst h
       simp only[hU i (by simp),hm,hc,ae,hd]
      ·simp at h
     ·rw[hc]at h;simp at h
    ·simp at h
   ·exact h
   ·simp at h
  |_=>exact dt h hV
 |opt e ih=>
  intro f cs q h hU hV
  cases f with
  |box=>
   simp only[bU]at h⊢
   split at h
   ·exact h
   ·rename_i i cs
    split at h
    ·rename_i bs hm
     rcases Bool.eq_false_or_eq_true (Nat.blt (i%128) 127)with hc|hc
     ·rw[hc,ae]at h
      split at h
      ·rename_i x hx
       simp only[aa]at h
       subst h
       simp only[hU i (by simp),hm,hc,ae,dX hV,hx]
      ·simp at h
     ·rw[hc]at h;simp at h
    ·simp at h
   ·simp at h
  |_=>exact dt h hV
 |pair a b iha ihb=>
  intro f cs q h hU hV
  cases f with
  |pair f g=>
   simp only[bU]at h⊢
   split at h
   ·rename_i x cs1 U V h1
    split at h
    ·rename_i y cs2 U' V' h2
     simp only[aa]at h
     subst h
     rw[iha h1 (fun i hi=>hU i (by simp;exact .inl hi)) (fun i hi=>hV i (by simp;exact .inl hi))]
     simp only[]
     rw[ihb h2 (fun i hi=>hU i (by simp;exact .inr hi)) (fun i hi=>hV i (by simp;exact .inr hi))]
    ·simp at h
   ·simp at h
  |_=>exact dt h hV
 |_=>intro f cs q h hU hV;exact dt h hV
theorem BK {p:PK} {x:SV} {A:Ar} (e:fb s p x=some A) (hU:∀i∈A.U++A.P,s'.mem i=s.mem i) (hV:∀i∈A.V,jM s s' i):fb s' p x=some A:=by
 cases p with
 |raw=>
  simp only[fb]at e⊢
  split at e
  ·simp only[aa]at e;subst e;rw[AL hV]
  ·simp at e
 |val τ=>
  simp only[fb]at e⊢
  split at e
  ·split at e
   ·rename_i d hd
    split at e
    ·rename_i y hy
     simp only[aa]at e;subst e
     rw[dX hV,hd];simp only[hy]
    ·simp at e
   ·simp at e
  ·simp at e
 |give τ f=>
  simp only[fb]at e⊢
  split at e
  ·split at e
   ·rename_i d U V hd
    split at e
    ·rename_i y hy
     simp only[aa]at e;subst e
     rw[m8 hd (fun i hi=>hU i (by simp;exact hi)) hV];simp only[hy]
    ·simp at e
   ·simp at e
  ·simp at e
 |lend τ f=>
  simp only[fb]at e⊢
  split at e
  ·split at e
   ·rename_i d U V hd
    split at e
    ·rename_i y hy
     simp only[aa]at e;subst e
     rw[m8 hd (fun i hi=>hU i (by simp;exact hi)) hV];simp only[hy]
    ·simp at e
   ·simp at e
  ·simp at e
 |ro τ=>
  simp only[fb]at e⊢
  split at e
  ·rename_i cs hcs
   split at e
   ·rename_i d hd
    simp only[aa]at e;subst e
    rw[vR fun i hi=>hV i (by simp;exact .inl hi),hcs]
    simp only[]
    rw[dX fun i hi=>hV i (by simp;exact .inr hi),hd]
   ·simp at e
  ·simp at e
 |var τ f=>
  simp only[fb]at e⊢
  split at e
  ·rename_i id o hx
   split at e
   ·rename_i bs hm
    split at e
    ·rename_i cs hcs
     split at e
     ·rename_i d U V hd
      simp only[aa]at e;subst e
      rw[hU id (by simp),hm]
      simp only[hcs]
      rw[m8 hd (fun i hi=>hU i (by simp;exact .inl hi)) hV]
     ·simp at e
    ·simp at e
   ·simp at e
  ·simp at e
theorem pE:∀{ps:List PK} {xs:List SV} {A:Ar},cJ s ps xs=some A→(∀i∈A.U++A.P,s'.mem i=s.mem i)→(∀i∈A.V,jM s s' i)→cJ s' ps xs=some A
 | [],[],A,e,_,_=>e
 | [],_::_,A,e,_,_=>by simp[cJ]at e
 |_::_,[],A,e,_,_=>by simp[cJ]at e
 |p::ps,x::xs,A,e,hU,hV=>by
  simp only[cJ]at e⊢
  split at e
  ·rename_i a b ha hb
   simp only[aa]at e;subst e
   rw[BK ha (fun i hi=>hU i (by simp at hi⊢;rcases hi with hi|hi<;>simp[hi])) (fun i hi=>hV i (by simp;exact .inl hi)),
    pE hb (fun i hi=>hU i (by simp at hi⊢;rcases hi with hi|hi<;>simp[hi])) (fun i hi=>hV i (by simp;exact .inr hi))]
  ·simp at e
theorem BM {p:PK} {x:SV} {q:rQ×List Nat} (e:tu s p x=some q) (h:∀i∈q.2,jM s s' i):tu s' p x=some q:=by
 cases p<;>simp only[tu]at e⊢ <;>try (simp at e;done)
 case val τ=>
  split at e
  ·split at e
   ·rename_i d hd
    split at e
    ·rename_i y hy
     simp only[aa]at e;subst e
     rw[dX h,hd];simp only[hy]
    ·simp at e
   ·simp at e
  ·simp at e
 case ro τ=>
  split at e
  ·rename_i id hx
   split at e
   ·rename_i cs hcs
    split at e
    ·rename_i d hd
     simp only[aa]at e;subst e
     rw[(h id (by simp)).box,hcs]
     simp only[]
     rw[dX fun i hi=>h i (by simp[hi]),hd]
    ·simp at e
   ·simp at e
  ·exact e
  ·simp at e
 case var τ f=>exact e
theorem pF:∀{ps:List PK} {xs:List SV} {q:List rQ×List Nat},fZ s ps xs=some q→(∀i∈q.2,jM s s' i)→fZ s' ps xs=some q
 | [],[],q,e,_=>e
 | [],_::_,q,e,_=>by simp[fZ]at e
 |_::_,[],q,e,_=>by simp[fZ]at e
 |p::ps,x::xs,q,e,h=>by
  simp only[fZ]at e⊢
  split at e
  ·rename_i c i cs is hc hcs
   simp only[aa]at e;subst e
   rw[BM hc fun j hj=>h j (by simp;exact .inl hj),pF hcs fun j hj=>h j (by simp;exact .inr hj)]
  ·simp at e
theorem pG {e:Ty}:∀{ps:List (Nat×SV)} {i:Nat},(∀j∈aZ (bC ps),jM s s' j)→jn e s' i ps=jn e s i ps
 | [],_,_=>rfl
 |(j,x)::ps,i,h=>by
  simp only[jn]
  refine cT _ _ _ _ _ ?_ rfl
  cases hx:x.cells with
  |none=>rfl
  |some c=>
   simp only[]
   simp only[bC,hx,Option.getD_some,aZ,List.flatMap_append,List.mem_append]at h
   rw[dX fun k hk=>h k (.inl hk),pG fun k hk=>h k (.inr hk)]
theorem ym {e:Ty} {y:PV} (h:∀i∈y.owns,jM s s' i):lQ s' e y=lQ s e y:=by
 have h1:=gv h
 unfold lQ
 cases y<;>first|rfl|simp only[h1]
theorem BN {y:PV} (h:∀i∈y.owns,jM s s' i):lq s' y=lq s y:=by
 cases y<;>try rfl
 rename_i id
 have h:=h id (by simp[PV.owns])
 simp only[lq]
 rcases h with h|⟨h1,h2,_⟩
 ·rw[h]
 ·have key:∀s:St,bQ s id=false→(match s.mem id with
   |some (.rows _ _ f _)=>bif f.isNo then[]else[ca.frz id]
   |_=>[])=[]:=by
   intro s hd
   unfold bQ at hd
   cases hm:s.mem id with
   |none=>rfl
   |some b=>
    rw[hm]at hd
    cases b<;>try rfl
    rename_i T e f xs
    simp only[Bool.not_eq_false']at hd
    simp only[hd,ae]
  exact(key s' h2).trans (key s h1).symm
theorem da {id:Nat} {x:Option R} (h:s'.mem id=s.mem id):cX s' id x=cX s id x:=by
 unfold cX;rw[h]
theorem lF {new:List PV} (h0:aZ new=[]) (cs:List PV) (q:dZ) (n:Nat):ib s'.dat cs q n new=ib s.dat cs q n new:=by
 have:=dX (s:=s) (s':=s') (cs:=new) fun i hi=>by rw[h0]at hi;cases hi
 unfold ib
 cases q with
 | «at»o=>rfl
 |arr o e m j q=>simp only[this]
theorem FI (s:St) (p:PV):(s.dat p).owns=[]:=by
 cases p<;>try rfl
 case own id=>simp only[St.dat];cases s.asList (.own id)<;>rfl
 case fn f caps=>simp only[St.dat];generalize List.all caps _=b;cases b<;>rfl
theorem BO (s:St) (cs:List PV):aZ (cs.map s.dat)=[]:=by
 induction cs with
 |nil=>rfl
 |cons c cs ih=>simp only[List.map_cons,aZ,List.flatMap_cons]at ih⊢;rw[FI,ih];rfl
theorem yn {t:TypeId} {p:PV} {x:SV} {us:List ca} {rs:List Nat} (e:ig C s t p x fW=some (us,rs)) (hw:∀i∈bA us,s'.mem i=s.mem i) (hr:∀i∈updF us++rs,jM s s' i):ig C s' t p x fW=some (us,rs):=by
 rw[←e]
 unfold ig at e⊢
 split at e
 ·rename_i I new hI hnew
  rcases ah e with⟨hc,e⟩|⟨_,e⟩
  ·simp only[hc,ae]
   split at e
   ·rename_i id q _
    split at e
    ·rename_i cs hm
     have hid:id∈bA us:=by
      split at e
      ·split at e
       ·simp only[fW,aa,ax]at e;rw[←e.1];simp[bA]
       ·simp at e
      ·rcases ah e with⟨_,e⟩|⟨_,e⟩
       ·split at e
        ·simp only[fW,aa,ax]at e;rw[←e.1];simp[bA]
        ·simp at e
       ·simp at e
     simp only[hw id hid,hm]
     split at e
     ·rfl
     ·rcases ah e with⟨hn,e⟩|⟨_,e⟩
      ·have:=lF (s:=s) (s':=s') (show aZ new=[] by simpa using hn)
       simp only[this]
      ·simp at e
    ·simp at e
   ·rename_i id i q _
    split at e
    ·rename_i T el f xs hm
     rcases ah e with⟨hc2,e⟩|⟨hc2,e⟩
     ·split at e
      ·rename_i cs' hcs
       split at e
       ·rename_i x' hx'
        simp only[fW,aa,ax]at e
        have hid:id∈bA us:=by
         rw[←e.1]
         have:∀(l:List Nat) (us:List ca),bA (l.map .frz++us)=bA us:=fun l us=>by induction l with|nil=>rfl|cons _ _ ih=>simpa[bA]using ih
         simp[Ca,this,bA]
        simp only[hw id hid,hm,hc2,ae]
        rw[dX fun i hi=>hr i (by rw[←e.2];simp[hi]),lF (s:=s) (BO s new)];simp only[hcs,hx']
       ·simp at e
      ·simp at e
     ·have hd:(bif (aZ new).isEmpty then ie el f (rd xs i) q I.size (new.map s'.dat)else none)=bif (aZ new).isEmpty then ie el f (rd xs i) q I.size (new.map s.dat)else none:=by
       cases hn:(aZ new).isEmpty with
       |false=>rfl
       |true=>rw[dX (s:=s) (s':=s') fun i hi=>by rw[List.isEmpty_iff.1 hn]at hi;simp at hi]
      have hid:id∈bA us:=by
       split at e
       ·simp only[fW,aa,ax]at e;rw[←e.1];simp[bA]
       ·split at e
        ·rcases ah e with⟨_,e⟩|⟨_,e⟩
         ·split at e
          ·simp only[fW,aa,ax]at e;rw[←e.1];simp[bA]
          ·simp at e
         ·simp at e
        ·simp at e
      simp only[hw id hid,hm,hc2,ac,hd]
    ·rename_i T el f xs i' cs0 hm
     rcases ah e with⟨hc2,e⟩|⟨_,e⟩
     ·have hid:id∈bA us:=by
       split at e
       ·split at e
        ·simp only[fW,aa,ax]at e;rw[←e.1];simp[bA]
        ·simp at e
       ·rcases ah e with⟨_,e⟩|⟨_,e⟩
        ·split at e
         ·simp only[fW,aa,ax]at e;rw[←e.1];simp[bA]
         ·simp at e
        ·simp at e
      simp only[hw id hid,hm,hc2,ae]
      split at e
      ·rfl
      ·rcases ah e with⟨hn,e⟩|⟨_,e⟩
       ·have:=lF (s:=s) (s':=s') (show aZ new=[] by simpa using hn)
        simp only[this]
       ·simp at e
     ·simp at e
    ·simp at e
   ·simp at e
  ·simp at e
 ·simp at e
theorem yp {l:List (Nat×cx)} (h:∀p∈l,s'.mem p.1=s.mem p.1):gE s' l=gE s l:=by
 unfold gE
 induction l with
 |nil=>rfl
 |cons p l ih=>simp only[List.all_cons];rw[h p (by simp),ih fun q hq=>h q (by simp[hq])]
theorem BP {id:Nat} {t:TypeId} {p:PV} {x:SV} {us:List ca} (e:lm C s id t p fW=some (x,us)) (hw:∀i∈bA us,s'.mem i=s.mem i) (hr:∀i∈p.leads,jM s s' i):lm C s' id t p fW=some (x,us):=by
 unfold lm at e⊢
 split at e
 ·rename_i I hI
  rw[vR hr]
  split at e
  ·exact e
  ·rw[←e]
   unfold qn at e⊢
   split at e
   ·rename_i j i q _
    split at e
    ·rename_i T e1 f xs hm
     rcases ah e with⟨hc,e⟩|⟨_,e⟩
     ·split at e
      ·rename_i cs hcs
       have hus: .set j .dead::(cQ (aX id e1 f (rd xs i) 0).2.1++[.set j (.opn T e1 f xs i (aX id e1 f (rd xs i) 0).1)])=us:=by
        rcases na e with⟨_,e⟩|⟨_,c,_,_,e⟩
        ·simp only[fW,aa,ax]at e;exact e.2
        ·simp only[fW,aa,ax]at e;exact e.2
       have hWs:∀(l:List (Nat×cx)) (us:List ca),bA (cQ l++us)=l.map (·.1)++bA us:=fun l us=>by
        induction l with
        |nil=>rfl
        |cons u a ih=>simpa[bA,cQ]using ih
       rw[←hus]at hw
       simp only[bA,hWs]at hw
       simp only[hw j (by simp),hm]
       rw[yp fun p hp=>hw p.1 (List.mem_cons_of_mem _ (List.mem_append_left _ (List.mem_map.2 ⟨p,hp,rfl⟩)))]
       simp only[hcs]
      ·simp at e
     ·simp at e
    ·rename_i hm
     have hj:s'.mem j=s.mem j:=by
      rcases hr j (by simp[PV.leads])with h|⟨h,_⟩
      ·exact h
      ·unfold bQ at h;rw[hm]at h;simp at h
     simp only[hj,hm]
    ·simp at e
   ·simp at e
 ·simp at e
theorem FJ {t:TypeId} {x:PV} {k:PV→Option R} (h:∀i∈x.owns,jM s s' i):ss C s' t x k=ss C s t x k:=by
 have h1:=sU h
 unfold ss
 cases x<;>first|rfl|simp only[h1]
theorem BQ {src dst:TypeId} {x:PV} {k:PV→Option R} (h:∀i∈x.owns,jM s s' i):lr C s' src dst x k=lr C s src dst x k:=by
 have h1:=gv h
 unfold lr
 cases C.ti src<;>cases C.ti dst<;>cases x<;>first|rfl|simp only[h1]
theorem pH {t:TypeId} {x i:PV} {k:PV→Option R} (h:∀j∈x.owns,jM s s' j):cD C s' t x i k=cD C s t x i k:=by
 unfold cD
 cases i<;>try rfl
 cases x with
 |own id=>have h1:=sU h;simp only[h1]
 |ptr id p=>cases p<;>rfl
 |elt id j p=>cases p<;>rfl
 |_=>rfl
theorem FK (l:List Nat) (us:List ca):bA (l.map .frz++us)=bA us:=by induction l with|nil=>rfl|cons _ _ ih=>simpa[bA]using ih
theorem ma {x:Option PV} {d:Int} {k:Int→Option R} {r:R} (e:jo x d k=some r):∃n,k n=some r:=by
 unfold jo at e;split at e
 ·exact⟨_,e⟩
 ·exact⟨_,e⟩
 ·simp at e
theorem yq {t:TypeId} {x:PV} {lo hi:Option PV} {p:PV} {us:List ca} (e:ii C s t x lo hi fW=some (p,us)) (hr:∀i∈updF us,jM s s' i):ii C s' t x lo hi fW=some (p,us):=by
 have hx:∀i∈x.owns,jM s s' i:=by
  intro i hi
  cases x<;>simp only[PV.owns,List.not_mem_nil,List.mem_singleton]at hi
  subst hi
  refine hr i ?_
  unfold ii at e
  simp only[]at e
  split at e
  ·rcases ah e with⟨_,e⟩|⟨_,e⟩
   ·obtain⟨l,e⟩:=ma e
    obtain⟨m,e⟩:=ma e
    rcases ah e with⟨_,e⟩|⟨_,e⟩
    ·simp only[fW,aa,ax]at e;rw[←e.2];simp[PV.owns,updF]
    ·simp at e
   ·simp at e
  ·simp at e
 have h1:=gv hx
 rw[←e]
 unfold ii
 cases x<;>first|rfl|simp only[h1]
theorem pI {id:Nat} {t:TypeId} {n p:PV} {us:List ca} (e:cR C s id t n fW=some (p,us)) (hw:∀i∈bA us,s'.mem i=s.mem i):cR C s' id t n fW=some (p,us):=by
 rw[←e]
 unfold cR at e⊢
 split at e
 ·split at e
  ·split at e
   ·rcases ah e with⟨_,e⟩|⟨_,e⟩
    ·have e1:=(bh e).2
     rcases ah e1 with⟨_,e1⟩|⟨_,e1⟩
     ·simp only[fW,aa,ax]at e1
      rw[da (hw id (by rw[←e1.2];simp[bA]))]
     ·simp at e1
    ·simp at e
   ·simp at e
  ·simp at e
 ·simp at e
theorem yr {id:Nat} {src dst:TypeId} {x p:PV} {us:List ca} (e:ij C s id src dst x fW=some (p,us)) (hw:∀i∈bA us,s'.mem i=s.mem i):ij C s' id src dst x fW=some (p,us):=by
 rw[←e]
 unfold ij at e⊢
 split at e
 ·rcases ah e with⟨hb,e⟩|⟨_,e⟩
  ·rw[hb,ae,ae]
   split at e
   ·have e1:=(bh e).2
    rcases ah e1 with⟨_,e1⟩|⟨_,e1⟩
    ·simp only[fW,aa,ax]at e1
     rw[da (hw id (by rw[←e1.2];simp[bA]))]
    ·simp at e1
   ·simp at e
  ·simp at e
 ·simp at e
theorem FL {id:Nat} {e:TypeId} {τ:Ty} {x y:PV} (hy:∀j∈y.owns,jM s s' j) (hx:∀l∈x.owns,s'.mem l=s.mem l):oF s' id e τ x y=oF s id e τ x y:=by
 cases y<;>try rfl
 rename_i j
 have hx':∀l,x= .own l→s'.mem l=s.mem l:=fun l hl=>hx l (by rw[hl];simp[PV.owns])
 rcases hy j (by simp[PV.owns])with h|⟨h1,h2,_⟩
 ·unfold oF
  simp only[h]
  cases x<;>try rfl
  simp only[hx' _ rfl]
 ·have key:∀s:St,bQ s j=false→oF s id e τ x (.own j)=none:=by
   intro s hd
   unfold bQ at hd
   unfold oF
   simp only[]
   cases hm:s.mem j with
   |none=>rfl
   |some b=>
    rw[hm]at hd
    cases b<;>first|rfl|simp at hd|skip
    rename_i T e0 f xs
    simp[hd]
  rw[key s h1,key s' h2]
theorem FM {id m:Nat} {e:TypeId} {τ:Ty} {x y:PV} {us:List ca} (h:oF s id e τ x y=some (m,us)):(∀i∈y.owns,i∈bA us)∧(∀i∈x.owns,i∈bA us)∧id∈bA us:=by
 unfold oF at h
 split at h
 ·split at h
  ·rcases ah h with⟨_,h⟩|⟨_,h⟩
   ·split at h
    ·split at h
     ·simp only[aa,ax]at h;rw[←h.2];simp[PV.owns,bA]
     ·split at h
      ·rcases ah h with⟨_,h⟩|⟨_,h⟩
       ·split at h
        ·simp only[aa,ax]at h;rw[←h.2];simp[PV.owns,bA]
        ·simp at h
       ·simp at h
      ·simp at h
     ·simp at h
    ·simp at h
   ·simp at h
  ·rcases ah h with⟨_,h⟩|⟨_,h⟩
   ·split at h
    ·split at h
     ·split at h
      ·rcases ah h with⟨_,h⟩|⟨_,h⟩
       ·split at h
        ·simp only[aa,ax]at h;rw[←h.2];simp[PV.owns,bA]
        ·simp at h
       ·simp at h
      ·simp at h
     ·simp at h
    ·simp at h
   ·simp at h
  ·simp at h
 ·simp at h
theorem vT {id:Nat} {sl:TypeId} {x y p:PV} {us:List ca} (e:ei C s id sl x y fW=some (p,us)) (hw:∀i∈bA us,s'.mem i=s.mem i) (hy:∀i∈y.owns,jM s s' i):ei C s' id sl x y fW=some (p,us):=by
 rw[←e]
 have hu:=BN hy
 have hwm:∀vs:List ca,∀i∈bA vs,i∈bA (lq s y++vs):=by
  intro vs i hi
  have:∀a b:List ca,bA (a++b)=bA a++bA b:=fun a b=>by
   induction a with
   |nil=>rfl
   |cons u a ih=>cases u<;>simp[bA,ih]
  rw[this];simp[hi]
 have hwa:∀a b:List ca,bA (a++b)=bA a++bA b:=fun a b=>by
  induction a with
  |nil=>rfl
  |cons u a ih=>cases u<;>simp[bA,ih]
 have hxw:∀l∈x.owns,s'.mem l=s.mem l:=by
  intro l hl
  refine hw l ?_
  unfold ei at e
  split at e
  ·split at e
   ·rcases ah e with⟨hb,e⟩|⟨_,e⟩
    ·split at e
     ·rename_i had
      have e1:=(bh e).2
      rcases ah e1 with⟨_,e1⟩|⟨_,e1⟩
      ·simp only[fW,aa,ax]at e1
       rw[←e1.2];exact(FM had).2.1 l hl
      ·simp at e1
     ·split at e
      ·split at e
       ·simp[PV.owns]at hl
       ·split at e
        ·rcases ah e with⟨_,e⟩|⟨_,e⟩
         ·split at e
          ·have e1:=(bh e).2
           rcases ah e1 with⟨_,e1⟩|⟨_,e1⟩
           ·simp only[fW,aa,ax]at e1
            simp only[PV.owns,List.mem_singleton]at hl
            rw[←e1.2,hwa,hl];simp[bA]
           ·simp at e1
          ·simp at e
         ·simp at e
        ·simp at e
       ·simp at e
      ·simp at e
    ·simp at e
   ·simp at e
  ·simp at e
 unfold ei at e⊢
 split at e
 ·split at e
  ·rcases ah e with⟨hb,e⟩|⟨_,e⟩
   ·rw[ym hy,FL hy hxw]
    simp only[hb,ae]
    split at e
    ·rename_i had
     have e1:=(bh e).2
     rcases ah e1 with⟨_,e1⟩|⟨_,e1⟩
     ·simp only[fW,aa,ax]at e1
      rw[da (hw id (by rw[←e1.2];exact(FM had).2.2))]
     ·simp at e1
    rename_i hno0
    clear hno0
    split at e
    ·split at e
     ·have e1:=(bh e).2
      rcases ah e1 with⟨_,e1⟩|⟨_,e1⟩
      ·simp only[fW,aa,ax]at e1
       rw[da (hw id (by rw[←e1.2];exact hwm _ _ (by simp[bA]))),hu]
      ·simp at e1
     ·rename_i j _
      split at e
      ·rename_i T e' f xs hm
       rcases ah e with⟨hc,e⟩|⟨_,e⟩
       ·split at e
        ·rename_i h hd
         have e1:=(bh e).2
         rcases ah e1 with⟨_,e1⟩|⟨_,e1⟩
         ·simp only[fW,aa,ax]at e1
          have hj:s'.mem j=s.mem j:=hw j (by rw[←e1.2];exact hwm _ _ (by simp[bA]))
          simp only[hj,hm,hc,ae,hd]
          rw[da (hw id (by rw[←e1.2];exact hwm _ _ (by simp[bA]))),hu]
         ·simp at e1
        ·simp at e
       ·simp at e
      ·simp at e
     ·simp at e
    ·simp at e
   ·simp at e
  ·simp at e
 ·simp at e
theorem se {f:FuncId} {xs:List SV} {p:PV} {us:List ca} {rs:List Nat} (e:dN C s f xs jI=some (p,us,rs)) (hr:∀i∈rs,jM s s' i):dN C s' f xs jI=some (p,us,rs):=by
 rw[←e]
 unfold dN at e⊢
 split at e
 ·split at e
  ·split at e
   ·rename_i cs is hcs
    rcases ah e with⟨_,e⟩|⟨_,e⟩
    ·simp only[jI,aa,ax]at e
     rw[pF hcs fun i hi=>hr i (by rw[←e.2.2];exact hi)]
    ·simp at e
   ·simp at e
  ·simp at e
 ·rfl
theorem sW {env:C.Env} {id:Nat} {f:FuncId} {xs:List SV} {q:SV×List ca×List Nat} (hs:(C.alts f).length≤1) (e:jK C env id s f xs jI=some q) (hw:∀i∈bA q.2.1,s'.mem i=s.mem i) (hr:∀i∈updF q.2.1++q.2.2,jM s s' i):jK C env id s' f xs jI=some q:=by
 unfold jK at e⊢
 match h:C.alts f,hs with
 | [],_=>rw[h]at e;simp[km]at e
 | [g],_=>
  rw[h]at e
  simp only[km]at e⊢
  split at e
  ·rename_i sg hsg
   split at e
   ·rename_i A hA
    rw[mg]at e
    rcases ah e with⟨hc,e⟩|⟨_,e⟩
    ·rw[Option.bind_eq_some_iff]at e
     obtain⟨r,hr0,e⟩:=e
     have e':=e
     rw[Option.bind_eq_some_iff]at e
     obtain⟨q',hq,e⟩:=e
     have hqq:q'=q:=by simpa using e
     subst hqq
     unfold ws at hq
     generalize hj:aX id (C.resTy g) sg.resFl r 0=qq at hq
     obtain⟨cs,new,j⟩:=qq
     simp only[]at hq
     split at hq
     ·rename_i x back hx hb
      rcases ah hq with⟨hd,hq⟩|⟨_,hq⟩
      ·split at hq
       ·rename_i us hus
        simp only[aa]at hq
        subst hq
        simp only[]at hw hr
        have hWa:∀a b:List ca,bA (a++b)=bA a++bA b:=fun a b=>by
         induction a with
         |nil=>rfl
         |cons u a ih=>cases u<;>simp[bA,ih]
        have hWd:∀l:List Nat,bA (l.map (.set · .dead))=l:=fun l=>by
         induction l with
         |nil=>rfl
         |cons u a ih=>simpa[bA]using ih
        have hWs:∀l:List (Nat×cx),bA (cQ l)=l.map (·.1):=fun l=>by
         induction l with
         |nil=>rfl
         |cons u a ih=>simpa[bA,cQ]using ih
        rw[hWa,hWa,hWa,hWd,hWs]at hw
        have hUP:∀i∈A.U++A.P,s'.mem i=s.mem i:=fun i hi=>hw i (List.mem_append_left _ (List.mem_append_right _ (List.mem_append_left _ hi)))
        have hA':=pE hA hUP fun i hi=>hr i (List.mem_append_right _ hi)
        rw[hA']
        simp only[]
        rw[mg,hc,ae,hr0,af]
        unfold ws
        rw[hj]
        simp only[hx,hb]
        have hf:gE s' new=gE s new:=by
         unfold gE
         have:∀l:List (Nat×cx),(∀p∈l,s'.mem p.1=s.mem p.1)→(l.all fun p=>match s'.mem p.1 with|none=>true|some _=>false)=l.all fun p=>match s.mem p.1 with|none=>true|some _=>false:=fun l hl=>by
          induction l with
          |nil=>rfl
          |cons p l ih=>simp only[List.all_cons];rw[hl p (by simp),ih fun q hq=>hl q (by simp[hq])]
         exact this new fun p hp=>hw p.1 (List.mem_append_left _ (List.mem_append_right _ (List.mem_append_right _ (List.mem_map.2 ⟨p,hp,rfl⟩))))
        rw[hf,hd]
        simp only[AW,ay]at hc
        have hbk:∀i∈qo A.bk,s.mem i=s'.mem i:=fun i hi=>by
         have:=List.all_eq_true.1 hc.2 i hi
         obtain⟨k,hk,hki⟩:=List.any_eq_true.1 this
         rw[aQ hki]
         exact(hUP k hk).symm
        rw[←nX hbk,hus]
        rfl
       ·simp at hq
      ·simp at hq
     ·simp at hq
    ·simp at e
   ·simp at e
  ·simp at e
 |_::_::_,hs=>simp at hs
theorem AM {ps:List (Nat×Operand)} (h:∀x∈ps.map (·.2),s'.ev x=s.ev x):s'.evs ps=s.evs ps:=
 List.map_congr_left fun p hp=>by rw[h p.2 (List.mem_map.2 ⟨p,hp,rfl⟩)]
theorem AN {x:Option Operand} (h:∀y∈x.toArray,s'.ev y=s.ev y):(x.map fun o=>(s'.ev o).pv)=x.map fun o=>(s.ev o).pv:=by
 cases x with
 |none=>rfl
 |some o=>simp only[Option.map_some];rw[h o (by simp)]
theorem Kv {env:C.Env} {id:Nat} {op:Op} {q:SV×List ca×List Nat} (hs:iR C op=true) (h:∀x∈op.operands,s'.ev x=s.ev x) (e:yX C env id op s jI=some q)
  (hw:∀i∈bA q.2.1,s'.mem i=s.mem i) (hr:∀i∈updF q.2.1++q.2.2,jM s s' i):yX C env id op s' jI=some q:=by
 cases op<;>simp only[yX]at e⊢ <;>try (simp at e;done)
 case move x=>rw[h x (by simp[Op.operands])];exact e
 case assign x=>rw[h x (by simp[Op.operands])];exact e
 case pick c x y=>rw[h c (by simp[Op.operands]),h x (by simp[Op.operands]),h y (by simp[Op.operands])];exact e
 case binOp op t x y _=>rw[h x (by simp[Op.operands]),h y (by simp[Op.operands])];exact e
 case unOp op _ x=>rw[h x (by simp[Op.operands])];exact e
 case fieldAddr t x f=>rw[h x (by simp[Op.operands])];exact e
 case field t x f=>rw[h x (by simp[Op.operands])];exact e
 case index t x i=>rw[h x (by simp[Op.operands]),h i (by simp[Op.operands])];exact e
 case nilCheck x=>rw[h x (by simp[Op.operands])];exact e
 case extract t i=>rw[h t (by simp[Op.operands])];exact e
 case build t ps=>rw[AM fun x hx=>h x (by simpa[Op.operands]using hx)];exact e
 case alloc t=>
  split at e
  ·have e1:=(bh e).2
   simp only[jI,aa]at e1
   rw[da (hw id (by rw[←e1];simp[bA]))];exact e
  ·simp at e
 case box t x=>
  rw[h x (by simp[Op.operands])]
  split at e
  ·rcases ah e with⟨hb,e⟩|⟨_,e⟩
   ·have e1:=(bh e).2
    simp only[jI,aa]at e1
    rw[hb,ae,da (hw id (by rw[←e1];simp[bA]))];exact e
   ·simp at e
  ·simp at e
 case buildSlice t n ps=>
  rw[AM fun x hx=>h x (by simpa[Op.operands]using hx)]
  split at e
  ·split at e
   ·split at e
    ·rename_i b hdp
     rcases ah e with⟨hb,e⟩|⟨_,e⟩
     ·have e1:=(bh e).2
      simp only[jI,aa]at e1
      simp only[hb,ae]
      rw[da (hw id (by rw[←e1];simp[bA]))];exact e
     ·simp at e
    split at e
    ·rename_i xs hxs
     rcases ah e with⟨hb,e⟩|⟨_,e⟩
     ·have e1:=(bh e).2
      simp only[jI,aa]at e1
      have hag:∀j∈aZ (bC (s.evs ps.toList)),jM s s' j:=fun j hj=>hr j (by rw[←e1];simp[hj])
      rw[pG hag,hxs]
      simp only[hb,ae]
      rw[da (hw id (by rw[←e1];simp only[Ca];rw[FK];simp[bA]))];exact e
     ·simp at e
    ·simp at e
   ·simp at e
  ·simp at e
 case makeSlice t n c=>
  rw[h n (by simp[Op.operands])]
  rcases ah e with⟨hb,e⟩|⟨_,e⟩
  ·rw[hb,ae]
   rw[jh,Option.bind_eq_some_iff]at e⊢
   obtain⟨⟨p,us⟩,e1,e2⟩:=e
   refine⟨(p,us),pI e1 fun i hi=>hw i ?_,e2⟩
   simp only[un2,jI,aa]at e2
   rw[←e2];exact hi
  ·simp at e
 case load t a=>
  rw[h a (by simp[Op.operands])]
  split at e
  ·rename_i p hp
   rw[uB,Option.bind_eq_some_iff]at e⊢
   obtain⟨⟨x,us⟩,e1,e2⟩:=e
   simp only[un2,jI,aa]at e2
   exact⟨(x,us),BP e1 (fun i hi=>hw i (by rw[←e2];exact hi)) (fun i hi=>hr i (by rw[←e2];simp[hi])),by simp only[un2,jI,e2]⟩
  ·simp at e
 case store t a x=>
  rw[h a (by simp[Op.operands]),h x (by simp[Op.operands])]
  split at e
  ·rw[p9,Option.bind_eq_some_iff]at e⊢
   obtain⟨⟨us,rs⟩,e1,e2⟩:=e
   simp only[un2,jI,aa]at e2
   refine⟨(us,rs),yn e1 (fun i hi=>hw i ?_) (fun i hi=>hr i ?_),by simp only[un2,jI,e2]⟩
   ·rw[←e2];exact hi
   ·rw[←e2];exact hi
  ·simp at e
 case indexAddr t x i=>
  rw[h x (by simp[Op.operands]),h i (by simp[Op.operands])]
  rw[pH fun j hj=>hr j (by
   rw[ji,Option.bind_eq_some_iff]at e
   obtain⟨p,_,e2⟩:=e
   simp only[jI,aa]at e2
   rw[←e2];simp[hj])]
  exact e
 case slice t x lo hi mx=>
  cases mx with
  |some _=>simp at e
  |none=>
   simp only at e⊢
   rw[h x (by simp[Op.operands]),AN (s:=s) (s':=s') fun y hy=>h y (by simp[Op.operands]at hy⊢;simp[hy]),AN (s:=s) (s':=s') fun y hy=>h y (by simp[Op.operands]at hy⊢;simp[hy])]
   rw[qa,Option.bind_eq_some_iff]at e⊢
   obtain⟨⟨p,us⟩,e1,e2⟩:=e
   simp only[un2,jI,aa]at e2
   exact⟨(p,us),yq e1 fun i hi=>hr i (by rw[←e2];simp[hi]),by simp only[un2,jI,e2]⟩
 case convert src dst x=>
  rw[h x (by simp[Op.operands])]
  split at e
  ·rename_i p hp
   rcases ah e with⟨hb,e⟩|⟨hb,e⟩
   ·rw[hb,ae]
    rw[qb,Option.bind_eq_some_iff]at e⊢
    obtain⟨⟨p,us⟩,e1,e2⟩:=e
    refine⟨(p,us),yr e1 fun i hi=>hw i ?_,e2⟩
    simp only[un2,jI,aa]at e2
    rw[←e2];exact hi
   ·rw[hb,ac]
    rw[BQ fun j hj=>hr j (by
     rw[uC,Option.bind_eq_some_iff]at e
     obtain⟨y,_,e2⟩:=e
     simp only[jI,aa]at e2
     rw[←e2];simp[hj])]
    exact e
  ·simp at e
 case makeFunc fn first captured=>
  cases fn<;>simp only[]at e⊢ <;>try (simp at e;done)
  split at e
  ·have:captured.toList.map s'.ev=captured.toList.map s.ev:=List.map_congr_left fun x hx=>h x (by simp only[Op.operands];exact Array.mem_append_right _ (by simpa using hx))
   rw[this,gX,Option.bind_eq_some_iff]
   rw[gX,Option.bind_eq_some_iff]at e
   obtain⟨⟨p,us,rs⟩,e1,e2⟩:=e
   simp only[IE,jI,aa]at e2
   exact⟨(p,us,rs),se e1 fun i hi=>hr i (by rw[←e2];simp[hi]),by simp only[IE,jI,e2]⟩
  ·simp at e
 case call c=>
  obtain⟨callee,args,argTypes⟩:=c
  have hargs:args.toList.map s'.ev=args.toList.map s.ev:=List.map_congr_left fun x hx=>h x (by simp only[Op.operands,Call.operands];exact Array.mem_append_right _ (by simpa using hx))
  have harg:∀x∈args.toList,s'.ev x=s.ev x:=fun x hx=>h x (by simp only[Op.operands,Call.operands];exact Array.mem_append_right _ (by simpa using hx))
  cases callee with
  |value f=>
   have fn:∀x:SV,IF C env id s x (args.toList.map s.ev) jI=some q→IF C env id s' x (args.toList.map s.ev) jI=some q:=by
    intro x e
    unfold IF at e⊢
    split at e
    ·split at e
     ·rcases ah e with⟨hc,e⟩|⟨_,e⟩
      ·simp only[hc,ae]
       exact sW (bz hc) e hw hr
      ·simp at e
     ·simp at e
    ·simp at e
   have hf:s'.ev f=s.ev f:=h f (by simp[Op.operands,Call.operands])
   cases f
   case func f=>
    simp only[iR]at hs
    simp only at e⊢
    rw[hargs]
    exact sW (bz hs) e hw hr
   all_goals
    simp only at e⊢
    rw[hargs,hf]
    exact fn _ e
  |invoke _ _=>simp at e
  |builtin b=>
   cases b<;>simp only[]at e⊢ <;>try (simp at e;done)
   case len=>
    split at e
    ·rename_i x t h1 h2
     rw[harg x (by rw[h1];simp)]
     rw[FJ fun j hj=>hr j (by
      rw[yC,Option.bind_eq_some_iff]at e
      obtain⟨y,_,e2⟩:=e
      simp only[jI,aa]at e2
      rw[←e2];simp[hj])]
     exact e
    ·simp at e
   case append=>
    split at e
    ·rename_i x y t t' h1 h2
     rw[harg x (by rw[h1];simp),harg y (by rw[h1];simp)]
     rcases ah e with⟨hb,e⟩|⟨hb,e⟩
     ·rw[hb,ae]
      rw[nh,Option.bind_eq_some_iff]at e⊢
      obtain⟨⟨p,us⟩,e1,e2⟩:=e
      simp only[un2,jI,aa]at e2
      exact⟨(p,us),vT e1 (fun i hi=>hw i (by rw[←e2];exact hi)) (fun i hi=>hr i (by rw[←e2];simp[hi])),by simp only[un2,jI,e2]⟩
     ·simp at e
    ·simp at e
   case max=>
    have:(args.toList.map fun x=>(s'.ev x).pv)=args.toList.map fun x=>(s.ev x).pv:=List.map_congr_left fun x hx=>by rw[harg x hx]
    rw[this];exact e
   case min=>
    have:(args.toList.map fun x=>(s'.ev x).pv)=args.toList.map fun x=>(s.ev x).pv:=List.map_congr_left fun x hx=>by rw[harg x hx]
    rw[this];exact e
end Go.Ps
