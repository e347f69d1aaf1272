import Derived.Test.YtfgjcohcpehcjaaGreatPsP
namespace Go.Ps
set_option linter.unusedVariables false
variable {C:b9} {R:Type} {s s':St}
def iI (s s':St) (i:Nat):Prop:=s'.mem i=s.mem i∨(bO s i=false∧bO s' i=false∧(s'.mem i).map cj.frz=(s.mem i).map cj.frz)
theorem iI.frz {i:Nat} (h:iI s s' i):(s'.mem i).map cj.frz=(s.mem i).map cj.frz:=by
 rcases h with h|⟨_,_,h⟩
 ·rw[h]
 ·exact h
theorem n7 (s:St) (i:Nat):s.asList (.own i)=match(s.mem i).map cj.frz with
  |some (.frows e xs)=>some ⟨e,xs⟩
  |_=>none:=by
 simp only[St.asList]
 cases s.mem i with
 |none=>rfl
 |some b=>cases b<;>rfl
theorem sY (s:St) (i:Nat) (l h:Int):s.asList (.view i l h)=match(s.mem i).map cj.frz with
  |some (.frows e xs)=>some ⟨e,(xs.take h.toNat).drop l.toNat⟩
  |_=>none:=by
 simp only[St.asList]
 cases s.mem i with
 |none=>rfl
 |some b=>cases b<;>rfl
theorem iI.own {i:Nat} (h:iI s s' i):s'.asList (.own i)=s.asList (.own i):=by
 rw[n7,n7,h.frz]
theorem eQ {p:PV} (h:∀i∈p.owns,iI s s' i):s'.asList p=s.asList p:=by
 cases p<;>try rfl
 ·exact(h _ (by simp[PV.owns])).own
 ·rw[sY,sY,(h _ (by simp[PV.owns])).frz]
theorem qu {s:St} {id:Nat} (hd:bO s id=false):s.asRow (.own id)=s.asList (.own id):=by
 unfold bO at hd
 simp only[St.asRow]
 cases hm:s.mem id with
 |none=>rfl
 |some b=>
  rw[hm]at hd
  cases b<;>first|rfl|simp at hd
theorem qv {p:PV} (h:∀i∈p.owns,iI s s' i):s'.asRow p=s.asRow p:=by
 have h1:=eQ h
 cases p<;>try exact h1
 rename_i id
 rcases h id (by simp[PV.owns])with h0|⟨h2,h3,_⟩
 ·simp only[St.asRow,h0,h1]
 ·rw[qu h2,qu h3,h1]
theorem xi {p:PV} (h:∀i∈p.owns,iI s s' i):s'.dat p=s.dat p:=by
 cases p<;>try rfl
 all_goals simp only[St.dat,eQ h]
theorem dL {cs:List PV} (h:∀i∈aM cs,iI s s' i):cs.map s'.dat=cs.map s.dat:=
 List.map_congr_left fun p hp=>xi fun i hi=>h i (List.mem_flatMap.2 ⟨p,hp,hi⟩)
theorem qw (s:St) (i:Nat):kz s i=match(s.mem i).map cj.frz with
  |some (.fbox cs)=>some cs
  |_=>none:=by
 simp only[kz]
 cases s.mem i with
 |none=>rfl
 |some b=>cases b<;>rfl
theorem iI.box {i:Nat} (h:iI s s' i):kz s' i=kz s i:=by
 rw[qw,qw,h.frz]
theorem sZ (s:St) (i:Nat) (q:dK) (n:Nat):s.look (.ptr i q) n=(kz s i).bind fun cs=>ik cs q n:=by
 simp only[St.look,kz]
 cases s.mem i with
 |none=>rfl
 |some b=>cases b<;>rfl
theorem s7 {s:St} {id:Nat} (h:bO s id=false) (i:Int) (q:dK) (n:Nat):s.look (.elt id i q) n=match(s.mem id).map cj.frz with
  |some (.frows e xs)=>ik (inj e (rd xs i)) q n
  |_=>none:=by
 unfold bO at h
 simp only[St.look]
 cases hm:s.mem id with
 |none=>rfl
 |some b=>
  rw[hm]at h
  cases b<;>try rfl
  rename_i T e f xs
  simp only[Bool.not_eq_false']at h
  simp only[h,Bool.true_or,ac,Option.map_some,cj.frz]
  cases ik (inj e (rd xs i)) q n<;>rfl
theorem s8 {p:PV} {n:Nat} (h:∀i∈p.leads,iI s s' i):s'.look p n=s.look p n:=by
 cases p<;>try rfl
 case ptr id q=>rw[sZ,sZ,(h id (by simp[PV.leads])).box]
 case elt id i q=>
  have h:=h id (by simp[PV.leads])
  rcases h with h|⟨h3,h4,h⟩
  ·simp only[St.look,h]
  ·rw[s7 h3,s7 h4,h]
theorem s9 {i:Nat} (h:iI s s' i):bO s' i=bO s i:=by
 rcases h with h|⟨h1,h2,_⟩
 ·unfold bO;rw[h]
 ·rw[h1,h2]
theorem jS:∀{τ:Ty} {f:Fl} {cs:List PV} {q:τ.den×List PV×List Nat×List Nat},bN s τ f cs=some q→(∀i∈q.2.2.1,s'.mem i=s.mem i)→(∀i∈q.2.2.2,iI s s' i)→bN s' τ f cs=some q:=by
 have dt:∀{τ:Ty} {cs:List PV} {q:τ.den×List PV×List Nat×List Nat},(match d9 cs τ.size,bm cs τ.size with
  |some a,some b=>match be τ (a.map s.dat)with
   |some x=>some (x,b,[],aM a)
   |none=>none
  |_,_=>none)=some q→(∀i∈q.2.2.2,iI s s' i)→(match d9 cs τ.size,bm cs τ.size with
  |some a,some b=>match be τ (a.map s'.dat)with
   |some x=>some (x,b,[],aM a)
   |none=>none
  |_,_=>none)=some q:=by
  intro τ cs q e h
  split at e
  ·rename_i a b ha hb
   split at e
   ·rename_i x hx
    simp only[aa]at e
    subst e
    rw[dL h,hx]
   ·simp at e
  ·simp at e
 intro τ
 induction τ with
 |list e ih=>
  intro f cs q h hU hV
  cases f with
  |own T g=>
   simp only[bN]at h⊢
   split at h
   ·rename_i i cs
    split at h
    ·rename_i T' e' g' xs hm
     rcases Bool.eq_false_or_eq_true (Nat.beq T' T&&decide (g'=g))with hc|hc
     ·rw[hc,ac]at h
      split at h
      ·rename_i he hd
       simp only[aa]at h
       subst h
       simp only[hU i (by simp),hm,hc,ac,hd]
      ·simp at h
     ·rw[hc]at h;simp at h
    ·simp at h
   ·exact h
   ·simp at h
  |_=>exact dt h hV
 |opt e ih=>
  intro f cs q h hU hV
  cases f with
  |box=>
   simp only[bN]at h⊢
   split at h
   ·exact h
   ·rename_i i cs
    split at h
    ·rename_i bs hm
     rcases Bool.eq_false_or_eq_true (Nat.blt (i%128) 127)with hc|hc
     ·rw[hc,ac]at h
      split at h
      ·rename_i x hx
       simp only[aa]at h
       subst h
       simp only[hU i (by simp),hm,hc,ac,dL hV,hx]
      ·simp at h
     ·rw[hc]at h;simp at h
    ·simp at h
   ·simp at h
  |_=>exact dt h hV
 |pair a b iha ihb=>
  intro f cs q h hU hV
  cases f with
  |pair f g=>
   simp only[bN]at h⊢
   split at h
   ·rename_i x cs1 U V h1
    split at h
    ·rename_i y cs2 U' V' h2
     simp only[aa]at h
     subst h
     rw[iha h1 (fun i hi=>hU i (by simp;exact .inl hi)) (fun i hi=>hV i (by simp;exact .inl hi))]
     simp only[]
     rw[ihb h2 (fun i hi=>hU i (by simp;exact .inr hi)) (fun i hi=>hV i (by simp;exact .inr hi))]
    ·simp at h
   ·simp at h
  |_=>exact dt h hV
 |_=>intro f cs q h hU hV;exact dt h hV
theorem yc {p:PK} {x:SV} {A:Ar} (e:ee s p x=some A) (hU:∀i∈A.U++A.P,s'.mem i=s.mem i) (hV:∀i∈A.V,iI s s' i):ee s' p x=some A:=by
 cases p with
 |raw=>
  simp only[ee]at e⊢
  split at e
  ·simp only[aa]at e;subst e;rw[xi hV]
  ·simp at e
 |val τ=>
  simp only[ee]at e⊢
  split at e
  ·split at e
   ·rename_i d hd
    split at e
    ·rename_i y hy
     simp only[aa]at e;subst e
     rw[dL hV,hd];simp only[hy]
    ·simp at e
   ·simp at e
  ·simp at e
 |give τ f=>
  simp only[ee]at e⊢
  split at e
  ·split at e
   ·rename_i d U V hd
    split at e
    ·rename_i y hy
     simp only[aa]at e;subst e
     rw[jS hd (fun i hi=>hU i (by simp;exact hi)) hV];simp only[hy]
    ·simp at e
   ·simp at e
  ·simp at e
 |lend τ f=>
  simp only[ee]at e⊢
  split at e
  ·split at e
   ·rename_i d U V hd
    split at e
    ·rename_i y hy
     simp only[aa]at e;subst e
     rw[jS hd (fun i hi=>hU i (by simp;exact hi)) hV];simp only[hy]
    ·simp at e
   ·simp at e
  ·simp at e
 |ro τ=>
  simp only[ee]at e⊢
  split at e
  ·rename_i cs hcs
   split at e
   ·rename_i d hd
    simp only[aa]at e;subst e
    rw[s8 fun i hi=>hV i (by simp;exact .inl hi),hcs]
    simp only[]
    rw[dL fun i hi=>hV i (by simp;exact .inr hi),hd]
   ·simp at e
  ·simp at e
 |var τ f=>
  simp only[ee]at e⊢
  split at e
  ·rename_i id o hx
   split at e
   ·rename_i bs hm
    split at e
    ·rename_i cs hcs
     split at e
     ·rename_i d U V hd
      simp only[aa]at e;subst e
      rw[hU id (by simp),hm]
      simp only[hcs]
      rw[jS hd (fun i hi=>hU i (by simp;exact .inl hi)) hV]
     ·simp at e
    ·simp at e
   ·simp at e
  ·simp at e
 |dvar τ f=>
  simp only[ee]at e⊢
  split at e
  ·rename_i i0 hx
   split at e
   ·rename_i id hm0
    split at e
    ·rename_i bs hm
     split at e
     ·rename_i cs hcs
      split at e
      ·rename_i d U V hd
       simp only[aa]at e;subst e
       rw[(hV i0 (by simp)).box,hm0]
       simp only[]
       rw[hU id (by simp),hm]
       simp only[hcs]
       rw[jS hd (fun i hi=>hU i (by simp;exact .inl hi)) (fun i hi=>hV i (by simp;exact .inr hi))]
      ·simp at e
     ·simp at e
    ·simp at e
   ·simp at e
  ·simp at e
theorem n8:∀{ps:List PK} {xs:List SV} {A:Ar},cx s ps xs=some A→(∀i∈A.U++A.P,s'.mem i=s.mem i)→(∀i∈A.V,iI s s' i)→cx s' ps xs=some A
 | [],[],A,e,_,_=>e
 | [],_::_,A,e,_,_=>by simp[cx]at e
 |_::_,[],A,e,_,_=>by simp[cx]at e
 |p::ps,x::xs,A,e,hU,hV=>by
  simp only[cx]at e⊢
  split at e
  ·rename_i a b ha hb
   simp only[aa]at e;subst e
   rw[yc ha (fun i hi=>hU i (by simp at hi⊢;rcases hi with hi|hi<;>simp[hi])) (fun i hi=>hV i (by simp;exact .inl hi)),
    n8 hb (fun i hi=>hU i (by simp at hi⊢;rcases hi with hi|hi<;>simp[hi])) (fun i hi=>hV i (by simp;exact .inr hi))]
  ·simp at e
theorem yd {p:PK} {x:SV} {q:pS×List Nat} (e:qQ s p x=some q) (h:∀i∈q.2,iI s s' i):qQ s' p x=some q:=by
 cases p<;>simp only[qQ]at e⊢ <;>try (simp at e;done)
 case val τ=>
  split at e
  ·split at e
   ·rename_i d hd
    split at e
    ·rename_i y hy
     simp only[aa]at e;subst e
     rw[dL h,hd];simp only[hy]
    ·simp at e
   ·simp at e
  ·simp at e
 case ro τ=>
  split at e
  ·rename_i id hx
   split at e
   ·rename_i cs hcs
    split at e
    ·rename_i d hd
     simp only[aa]at e;subst e
     rw[(h id (by simp)).box,hcs]
     simp only[]
     rw[dL fun i hi=>h i (by simp[hi]),hd]
    ·simp at e
   ·simp at e
  ·exact e
  ·simp at e
 case var τ f=>exact e
 case dvar τ f=>exact e
theorem n9:∀{ps:List PK} {xs:List SV} {q:List pS×List Nat},fC s ps xs=some q→(∀i∈q.2,iI s s' i)→fC s' ps xs=some q
 | [],[],q,e,_=>e
 | [],_::_,q,e,_=>by simp[fC]at e
 |_::_,[],q,e,_=>by simp[fC]at e
 |p::ps,x::xs,q,e,h=>by
  simp only[fC]at e⊢
  split at e
  ·rename_i c i cs is hc hcs
   simp only[aa]at e;subst e
   rw[yd hc fun j hj=>h j (by simp;exact .inl hj),n9 hcs fun j hj=>h j (by simp;exact .inr hj)]
  ·simp at e
theorem oa {e:Ty}:∀{ps:List (Nat×SV)} {i:Nat},(∀j∈aM (bu ps),iI s s' j)→iT e s' i ps=iT e s i ps
 | [],_,_=>rfl
 |(j,x)::ps,i,h=>by
  simp only[iT]
  refine cd _ _ _ _ _ ?_ rfl
  cases hx:x.cells with
  |none=>rfl
  |some c=>
   simp only[]
   simp only[bu,hx,Option.getD_some,aM,List.flatMap_append,List.mem_append]at h
   rw[dL fun k hk=>h k (.inl hk),oa fun k hk=>h k (.inr hk)]
theorem ob {e:Ty} {y:PV} (h:∀i∈y.owns,iI s s' i):gY s' e y=gY s e y:=by
 have h1:=eQ h
 unfold gY
 cases y<;>first|rfl|simp only[h1]
theorem qx {y:PV} (h:∀i∈y.owns,iI s s' i):jt s' y=jt s y:=by
 have go:∀id,iI s s' id→(match s'.mem id with
   |some (.rows _ _ f _)=>bif f.isNo then[]else[bJ.frz id]
   |_=>[])=(match s.mem id with
   |some (.rows _ _ f _)=>bif f.isNo then[]else[bJ.frz id]
   |_=>[]):=by
  intro id h
  rcases h with h|⟨h1,h2,_⟩
  ·rw[h]
  ·have key:∀s:St,bO s id=false→(match s.mem id with
    |some (.rows _ _ f _)=>bif f.isNo then[]else[bJ.frz id]
    |_=>[])=[]:=by
    intro s hd
    unfold bO at hd
    cases hm:s.mem id with
    |none=>rfl
    |some b=>
     rw[hm]at hd
     cases b<;>try rfl
     rename_i T e f xs
     simp only[Bool.not_eq_false']at hd
     simp only[hd,ac]
   exact(key s' h2).trans (key s h1).symm
 cases y<;>try rfl
 ·exact go _ (h _ (by simp[PV.owns]))
 ·exact go _ (h _ (by simp[PV.owns]))
theorem cG {id:Nat} {x:Option R} (h:s'.mem id=s.mem id):cw s' id x=cw s id x:=by
 unfold cw;rw[h]
theorem kH {new:List PV} (h0:aM new=[]) (cs:List PV) (q:dK) (n:Nat):gT s'.dat cs q n new=gT s.dat cs q n new:=by
 have:=dL (s:=s) (s':=s') (cs:=new) fun i hi=>by rw[h0]at hi;cases hi
 unfold gT
 cases q with
 | «at»o=>rfl
 |arr o e m j q=>simp only[this]
theorem Ai (s:St) (p:PV):(s.dat p).owns=[]:=by
 cases p<;>try rfl
 case own id=>simp only[St.dat];cases s.asList (.own id)<;>rfl
 case view id l h=>simp only[St.dat];cases s.asList (.view id l h)<;>rfl
 case fn f caps=>simp only[St.dat];generalize List.all caps _=b;cases b<;>rfl
theorem ye (s:St) (cs:List PV):aM (cs.map s.dat)=[]:=by
 induction cs with
 |nil=>rfl
 |cons c cs ih=>simp only[List.map_cons,aM,List.flatMap_cons]at ih⊢;rw[Ai,ih];rfl
theorem vq {t:TypeId} {p:PV} {x:SV} {us:List bJ} {rs:List Nat} (e:gX C s t p x ej=some (us,rs)) (hw:∀i∈ba us,s'.mem i=s.mem i) (hr:∀i∈dN us++rs,iI s s' i):gX C s' t p x ej=some (us,rs):=by
 rw[←e]
 unfold gX at e⊢
 split at e
 ·rename_i I new hI hnew
  rcases ab e with⟨hc,e⟩|⟨_,e⟩
  ·simp only[hc,ac]
   split at e
   ·rename_i id q _
    split at e
    ·rename_i cs hm
     have hid:id∈ba us:=by
      split at e
      ·split at e
       ·simp only[ej,aa,ar]at e;rw[←e.1];simp[ba]
       ·simp at e
      ·rcases ab e with⟨_,e⟩|⟨_,e⟩
       ·split at e
        ·simp only[ej,aa,ar]at e;rw[←e.1];simp[ba]
        ·simp at e
       ·simp at e
     simp only[hw id hid,hm]
     split at e
     ·rfl
     ·rcases ab e with⟨hn,e⟩|⟨_,e⟩
      ·have:=kH (s:=s) (s':=s') (show aM new=[] by simpa using hn)
       simp only[this]
      ·simp at e
    ·simp at e
   ·rename_i id i q _
    split at e
    ·rename_i T el f xs hm
     rcases ab e with⟨hc2,e⟩|⟨hc2,e⟩
     ·split at e
      ·rename_i cs' hcs
       split at e
       ·rename_i x' hx'
        simp only[ej,aa,ar]at e
        have hid:id∈ba us:=by
         rw[←e.1]
         have:∀(l:List Nat) (us:List bJ),ba (l.map .frz++us)=ba us:=fun l us=>by induction l with|nil=>rfl|cons _ _ ih=>simpa[ba]using ih
         simp[yA,this,ba]
        simp only[hw id hid,hm,hc2,ac]
        rw[dL fun i hi=>hr i (by rw[←e.2];simp[hi]),kH (s:=s) (ye s new)];simp only[hcs,hx']
       ·simp at e
      ·simp at e
     ·have hd:(bif (aM new).isEmpty then gW el f (rd xs i) q I.size (new.map s'.dat)else none)=bif (aM new).isEmpty then gW el f (rd xs i) q I.size (new.map s.dat)else none:=by
       cases hn:(aM new).isEmpty with
       |false=>rfl
       |true=>rw[dL (s:=s) (s':=s') fun i hi=>by rw[List.isEmpty_iff.1 hn]at hi;simp at hi]
      have hid:id∈ba us:=by
       split at e
       ·simp only[ej,aa,ar]at e;rw[←e.1];simp[ba]
       ·split at e
        ·rcases ab e with⟨_,e⟩|⟨_,e⟩
         ·split at e
          ·simp only[ej,aa,ar]at e;rw[←e.1];simp[ba]
          ·simp at e
         ·simp at e
        ·simp at e
      simp only[hw id hid,hm,hc2,af,hd]
    ·rename_i T el f xs i' cs0 hm
     rcases ab e with⟨hc2,e⟩|⟨_,e⟩
     ·have hid:id∈ba us:=by
       split at e
       ·split at e
        ·simp only[ej,aa,ar]at e;rw[←e.1];simp[ba]
        ·simp at e
       ·rcases ab e with⟨_,e⟩|⟨_,e⟩
        ·split at e
         ·simp only[ej,aa,ar]at e;rw[←e.1];simp[ba]
         ·simp at e
        ·simp at e
      simp only[hw id hid,hm,hc2,ac]
      split at e
      ·rfl
      ·rcases ab e with⟨hn,e⟩|⟨_,e⟩
       ·have:=kH (s:=s) (s':=s') (show aM new=[] by simpa using hn)
        simp only[this]
       ·simp at e
     ·simp at e
    ·simp at e
   ·simp at e
  ·simp at e
 ·simp at e
theorem vr {l:List (Nat×cj)} (h:∀p∈l,s'.mem p.1=s.mem p.1):fX s' l=fX s l:=by
 unfold fX
 induction l with
 |nil=>rfl
 |cons p l ih=>simp only[List.all_cons];rw[h p (by simp),ih fun q hq=>h q (by simp[hq])]
theorem yf {id:Nat} {t:TypeId} {p:PV} {x:SV} {us:List bJ} (e:kx C s id t p ej=some (x,us)) (hw:∀i∈ba us,s'.mem i=s.mem i) (hr:∀i∈p.leads,iI s s' i):kx C s' id t p ej=some (x,us):=by
 unfold kx at e⊢
 split at e
 ·rename_i I hI
  rw[s8 hr]
  split at e
  ·exact e
  ·rw[←e]
   unfold oY at e⊢
   split at e
   ·rename_i j i q _
    split at e
    ·rename_i T e1 f xs hm
     rcases ab e with⟨hc,e⟩|⟨_,e⟩
     ·split at e
      ·rename_i cs hcs
       have hus: .set j .dead::(cJ (aL id e1 f (rd xs i) 0).2.1++[.set j (.opn T e1 f xs i (aL id e1 f (rd xs i) 0).1)])=us:=by
        rcases mc e with⟨_,e⟩|⟨_,c,_,_,e⟩
        ·simp only[ej,aa,ar]at e;exact e.2
        ·simp only[ej,aa,ar]at e;exact e.2
       have hWs:∀(l:List (Nat×cj)) (us:List bJ),ba (cJ l++us)=l.map (·.1)++ba us:=fun l us=>by
        induction l with
        |nil=>rfl
        |cons u a ih=>simpa[ba,cJ]using ih
       rw[←hus]at hw
       simp only[ba,hWs]at hw
       simp only[hw j (by simp),hm]
       rw[vr fun p hp=>hw p.1 (List.mem_cons_of_mem _ (List.mem_append_left _ (List.mem_map.2 ⟨p,hp,rfl⟩)))]
       simp only[hcs]
      ·simp at e
     ·simp at e
    ·rename_i hm
     have hj:s'.mem j=s.mem j:=by
      rcases hr j (by simp[PV.leads])with h|⟨h,_⟩
      ·exact h
      ·unfold bO at h;rw[hm]at h;simp at h
     simp only[hj,hm]
    ·simp at e
   ·simp at e
 ·simp at e
theorem Aj {t:TypeId} {x:PV} {k:PV→Option R} (h:∀i∈x.owns,iI s s' i):qe C s' t x k=qe C s t x k:=by
 have h1:=qv h
 unfold qe
 cases x<;>first|rfl|simp only[h1]
theorem yg {src dst:TypeId} {x:PV} {k:PV→Option R} (h:∀i∈x.owns,iI s s' i):ky C s' src dst x k=ky C s src dst x k:=by
 have h1:=eQ h
 unfold ky
 cases C.ti src<;>cases C.ti dst<;>cases x<;>first|rfl|simp only[h1]
theorem od {t:TypeId} {x i:PV} {k:PV→Option R} (h:∀j∈x.owns,iI s s' j):cr C s' t x i k=cr C s t x i k:=by
 unfold cr
 cases i<;>try rfl
 cases x with
 |own id=>have h1:=qv h;simp only[h1]
 |ptr id p=>cases p<;>rfl
 |elt id j p=>cases p<;>rfl
 |_=>rfl
theorem Ak (l:List Nat) (us:List bJ):ba (l.map .frz++us)=ba us:=by induction l with|nil=>rfl|cons _ _ ih=>simpa[ba]using ih
theorem iL {x:Option PV} {d:Int} {k:Int→Option R} {r:R} (e:dZ x d k=some r):∃n,k n=some r:=by
 unfold dZ at e;split at e
 ·exact⟨_,e⟩
 ·exact⟨_,e⟩
 ·simp at e
theorem vt {t:TypeId} {x:PV} {lo hi:Option PV} {p:PV} {us:List bJ} (e:gZ C s t x lo hi ej=some (p,us)) (hr:∀i∈dN us,iI s s' i):gZ C s' t x lo hi ej=some (p,us):=by
 have hx:∀i∈x.owns,iI s s' i:=by
  intro i hi
  cases x<;>simp only[PV.owns,List.not_mem_nil,List.mem_singleton]at hi
  all_goals subst hi
  all_goals refine hr i ?_
  all_goals unfold gZ at e
  all_goals
   simp only[]at e
   split at e
   ·rcases ab e with⟨_,e⟩|⟨_,e⟩
    ·obtain⟨l,e⟩:=iL e
     obtain⟨m,e⟩:=iL e
     rcases ab e with⟨_,e⟩|⟨_,e⟩
     ·simp only[ej,aa,ar]at e;rw[←e.2];simp[PV.owns,dN]
     ·simp at e
    ·simp at e
   ·simp at e
 have h1:=eQ hx
 rw[←e]
 unfold gZ
 cases x<;>first|rfl|simp only[h1]
theorem Al {id:Nat} {t:TypeId} {x:PV} {lo hi:Option PV} {p:PV} {us:List bJ} (e:sr C s id t x lo hi ej=some (p,us)) (hw:∀i∈ba us,s'.mem i=s.mem i):sr C s' id t x lo hi ej=some (p,us):=by
 unfold sr at e⊢
 split at e
 ·rename_i j
  split at e
  ·rename_i T e' f xs hm
   have e0:=e
   rcases ab e with⟨hb,e3⟩|⟨_,e3⟩
   ·obtain⟨n,e4⟩:=iL e3
    rcases ab e4 with⟨_,e5⟩|⟨_,e5⟩
    ·have e6:=(aR e5).2
     simp only[ej,aa,ar]at e6
     have hj:s'.mem j=s.mem j:=hw j (by rw[←e6.2];simp[ba])
     have hid:s'.mem id=s.mem id:=hw id (by rw[←e6.2];simp[ba])
     rw[hj,hm]
     simp only[]
     rw[←e0]
     refine cd _ _ _ _ _ ?_ rfl
     unfold dZ
     split<;>first|rfl|(refine cd _ _ _ _ _ ?_ rfl;exact cG hid)
    ·simp at e5
   ·simp at e3
  ·cases e
 ·cases e
theorem yh {t:TypeId} {x:PV} {lo hi:Option PV} (k:PV→Option R) (h:∀i∈x.owns,iI s s' i):lD C s' t x lo hi k=lD C s t x lo hi k:=by
 unfold lD
 cases x<;>try rfl
 rename_i j
 simp only[]
 rw[eQ (p:= .own j) h]
theorem oe {id:Nat} {t:TypeId} {n p:PV} {us:List bJ} (e:cK C s id t n ej=some (p,us)) (hw:∀i∈ba us,s'.mem i=s.mem i):cK C s' id t n ej=some (p,us):=by
 rw[←e]
 unfold cK at e⊢
 split at e
 ·split at e
  ·split at e
   ·rcases ab e with⟨_,e⟩|⟨_,e⟩
    ·have e1:=(aR e).2
     rcases ab e1 with⟨_,e1⟩|⟨_,e1⟩
     ·simp only[ej,aa,ar]at e1
      rw[cG (hw id (by rw[←e1.2];simp[ba]))]
     ·simp at e1
    ·simp at e
   ·simp at e
  ·simp at e
 ·simp at e
theorem vu {id:Nat} {src dst:TypeId} {x p:PV} {us:List bJ} (e:g7 C s id src dst x ej=some (p,us)) (hw:∀i∈ba us,s'.mem i=s.mem i):g7 C s' id src dst x ej=some (p,us):=by
 rw[←e]
 unfold g7 at e⊢
 split at e
 ·rcases ab e with⟨hb,e⟩|⟨_,e⟩
  ·rw[hb,ac,ac]
   split at e
   ·have e1:=(aR e).2
    rcases ab e1 with⟨_,e1⟩|⟨_,e1⟩
    ·simp only[ej,aa,ar]at e1
     rw[cG (hw id (by rw[←e1.2];simp[ba]))]
    ·simp at e1
   ·simp at e
  ·simp at e
 ·simp at e
theorem Am {id:Nat} {e:TypeId} {τ:Ty} {x y:PV} (hy:∀j∈y.owns,iI s s' j) (hx:∀l∈x.owns,s'.mem l=s.mem l):nz s' id e τ x y=nz s id e τ x y:=by
 cases y<;>try rfl
 rename_i j
 have hx':∀l,x= .own l→s'.mem l=s.mem l:=fun l hl=>hx l (by rw[hl];simp[PV.owns])
 rcases hy j (by simp[PV.owns])with h|⟨h1,h2,_⟩
 ·unfold nz
  simp only[h]
  cases x<;>try rfl
  simp only[hx' _ rfl]
 ·have key:∀s:St,bO s j=false→nz s id e τ x (.own j)=none:=by
   intro s hd
   unfold bO at hd
   unfold nz
   simp only[]
   cases hm:s.mem j with
   |none=>rfl
   |some b=>
    rw[hm]at hd
    cases b<;>first|rfl|simp at hd|skip
    rename_i T e0 f xs
    simp[hd]
  rw[key s h1,key s' h2]
theorem An {id m:Nat} {e:TypeId} {τ:Ty} {x y:PV} {us:List bJ} (h:nz s id e τ x y=some (m,us)):(∀i∈y.owns,i∈ba us)∧(∀i∈x.owns,i∈ba us)∧id∈ba us:=by
 unfold nz at h
 split at h
 ·split at h
  ·rcases ab h with⟨_,h⟩|⟨_,h⟩
   ·split at h
    ·split at h
     ·simp only[aa,ar]at h;rw[←h.2];simp[PV.owns,ba]
     ·split at h
      ·rcases ab h with⟨_,h⟩|⟨_,h⟩
       ·split at h
        ·simp only[aa,ar]at h;rw[←h.2];simp[PV.owns,ba]
        ·simp at h
       ·simp at h
      ·simp at h
     ·simp at h
    ·simp at h
   ·simp at h
  ·rcases ab h with⟨_,h⟩|⟨_,h⟩
   ·split at h
    ·split at h
     ·split at h
      ·rcases ab h with⟨_,h⟩|⟨_,h⟩
       ·split at h
        ·simp only[aa,ar]at h;rw[←h.2];simp[PV.owns,ba]
        ·simp at h
       ·simp at h
      ·simp at h
     ·simp at h
    ·simp at h
   ·simp at h
  ·simp at h
 ·simp at h
theorem Ao {sl:TypeId} {x y p:PV} {us:List bJ} (e:mu C s sl x y ej=some (p,us)) (hw:∀i∈ba us,s'.mem i=s.mem i) (hy:∀i∈y.owns,iI s s' i):mu C s' sl x y ej=some (p,us):=by
 have hu:=qx hy
 have hwa:∀a b:List bJ,ba (a++b)=ba a++ba b:=fun a b=>by
  induction a with
  |nil=>rfl
  |cons u a ih=>cases u<;>simp[ba,ih]
 unfold mu at e
 split at e
 ·rename_i j l h
  split at e
  ·rename_i q _ _ _ _ _ hI
   split at e
   ·rename_i Q hQ
    split at e
    ·rename_i T e' f xs hmj
     split at e
     ·rename_i he hd
      split at e
      ·rename_i ys hys
       rcases ab e with⟨hb,e1⟩|⟨_,e1⟩
       ·simp only[ej,aa,ar]at e1
        have hj:s'.mem j=some (.rows T e' f xs):=by
         rw[←hmj]
         exact hw j (by rw[←e1.2,hwa];simp[ba])
        unfold mu
        simp only[hI,hQ,hj,hd,ob hy,hys,hu,hb,ac]
        simp only[ej,aa,ar]
        exact e1
       ·simp at e1
      ·simp at e
     ·simp at e
    ·simp at e
   ·simp at e
  ·simp at e
 ·simp at e
theorem tb {id:Nat} {sl:TypeId} {x y p:PV} {us:List bJ} (e:dS C s id sl x y ej=some (p,us)) (hw:∀i∈ba us,s'.mem i=s.mem i) (hy:∀i∈y.owns,iI s s' i):dS C s' id sl x y ej=some (p,us):=by
 rw[←e]
 have hu:=qx hy
 have hwm:∀vs:List bJ,∀i∈ba vs,i∈ba (jt s y++vs):=by
  intro vs i hi
  have:∀a b:List bJ,ba (a++b)=ba a++ba b:=fun a b=>by
   induction a with
   |nil=>rfl
   |cons u a ih=>cases u<;>simp[ba,ih]
  rw[this];simp[hi]
 have hwa:∀a b:List bJ,ba (a++b)=ba a++ba b:=fun a b=>by
  induction a with
  |nil=>rfl
  |cons u a ih=>cases u<;>simp[ba,ih]
 have hxw:∀l∈x.owns,s'.mem l=s.mem l:=by
  intro l hl
  refine hw l ?_
  unfold dS at e
  split at e
  ·split at e
   ·rcases ab e with⟨hb,e⟩|⟨_,e⟩
    ·split at e
     ·rename_i had
      have e1:=(aR e).2
      rcases ab e1 with⟨_,e1⟩|⟨_,e1⟩
      ·simp only[ej,aa,ar]at e1
       rw[←e1.2];exact(An had).2.1 l hl
      ·simp at e1
     ·split at e
      ·split at e
       ·simp[PV.owns]at hl
       ·split at e
        ·rcases ab e with⟨_,e⟩|⟨_,e⟩
         ·split at e
          ·have e1:=(aR e).2
           rcases ab e1 with⟨_,e1⟩|⟨_,e1⟩
           ·simp only[ej,aa,ar]at e1
            simp only[PV.owns,List.mem_singleton]at hl
            rw[←e1.2,hwa,hl];simp[ba]
           ·simp at e1
          ·simp at e
         ·simp at e
        ·simp at e
       ·simp at e
      ·simp at e
    ·simp at e
   ·simp at e
  ·simp at e
 unfold dS at e⊢
 split at e
 ·split at e
  ·rcases ab e with⟨hb,e⟩|⟨_,e⟩
   ·rw[ob hy,Am hy hxw]
    simp only[hb,ac]
    split at e
    ·rename_i had
     have e1:=(aR e).2
     rcases ab e1 with⟨_,e1⟩|⟨_,e1⟩
     ·simp only[ej,aa,ar]at e1
      rw[cG (hw id (by rw[←e1.2];exact(An had).2.2))]
     ·simp at e1
    rename_i hno0
    clear hno0
    split at e
    ·split at e
     ·have e1:=(aR e).2
      rcases ab e1 with⟨_,e1⟩|⟨_,e1⟩
      ·simp only[ej,aa,ar]at e1
       rw[cG (hw id (by rw[←e1.2];exact hwm _ _ (by simp[ba]))),hu]
      ·simp at e1
     ·rename_i j _
      split at e
      ·rename_i T e' f xs hm
       rcases ab e with⟨hc,e⟩|⟨_,e⟩
       ·split at e
        ·rename_i h hd
         have e1:=(aR e).2
         rcases ab e1 with⟨_,e1⟩|⟨_,e1⟩
         ·simp only[ej,aa,ar]at e1
          have hj:s'.mem j=s.mem j:=hw j (by rw[←e1.2];exact hwm _ _ (by simp[ba]))
          simp only[hj,hm,hc,ac,hd]
          rw[cG (hw id (by rw[←e1.2];exact hwm _ _ (by simp[ba]))),hu]
         ·simp at e1
        ·simp at e
       ·simp at e
      ·simp at e
     ·simp at e
    ·simp at e
   ·simp at e
  ·simp at e
 ·simp at e
theorem p8 {f:FuncId} {xs:List SV} {p:PV} {us:List bJ} {rs:List Nat} (e:dv C s f xs gR=some (p,us,rs)) (hr:∀i∈rs,iI s s' i):dv C s' f xs gR=some (p,us,rs):=by
 rw[←e]
 unfold dv at e⊢
 split at e
 ·split at e
  ·split at e
   ·rename_i cs is hcs
    rcases ab e with⟨_,e⟩|⟨_,e⟩
    ·simp only[gR,aa,ar]at e
     rw[n9 hcs fun i hi=>hr i (by rw[←e.2.2];exact hi)]
    ·simp at e
   ·simp at e
  ·simp at e
 ·rfl
theorem qy {env:C.Env} {id:Nat} {f:FuncId} {xs:List SV} {q:SV×List bJ×List Nat} (hs:(C.alts f).length≤1) (e:ja C env id s f xs gR=some q) (hw:∀i∈ba q.2.1,s'.mem i=s.mem i) (hr:∀i∈dN q.2.1++q.2.2,iI s s' i):ja C env id s' f xs gR=some q:=by
 unfold ja at e⊢
 match h:C.alts f,hs with
 | [],_=>rw[h]at e;simp[jw]at e
 | [g],_=>
  rw[h]at e
  simp only[jw]at e⊢
  split at e
  ·rename_i sg hsg
   split at e
   ·rename_i A hA
    rw[lr]at e
    rcases ab e with⟨hc,e⟩|⟨_,e⟩
    ·rw[Option.bind_eq_some_iff]at e
     obtain⟨r,hr0,e⟩:=e
     have e':=e
     rw[Option.bind_eq_some_iff]at e
     obtain⟨q',hq,e⟩:=e
     have hqq:q'=q:=by simpa using e
     subst hqq
     unfold tE at hq
     generalize hj:aL id (C.resTy g) sg.resFl r 0=qq at hq
     obtain⟨cs,new,j⟩:=qq
     simp only[]at hq
     split at hq
     ·rename_i x back hx hb
      rcases ab hq with⟨hd,hq⟩|⟨_,hq⟩
      ·split at hq
       ·rename_i us hus
        simp only[aa]at hq
        subst hq
        simp only[]at hw hr
        have hWa:∀a b:List bJ,ba (a++b)=ba a++ba b:=fun a b=>by
         induction a with
         |nil=>rfl
         |cons u a ih=>cases u<;>simp[ba,ih]
        have hWd:∀l:List Nat,ba (l.map (.set · .dead))=l:=fun l=>by
         induction l with
         |nil=>rfl
         |cons u a ih=>simpa[ba]using ih
        have hWs:∀l:List (Nat×cj),ba (cJ l)=l.map (·.1):=fun l=>by
         induction l with
         |nil=>rfl
         |cons u a ih=>simpa[ba,cJ]using ih
        rw[hWa,hWa,hWa,hWd,hWs]at hw
        have hUP:∀i∈A.U++A.P,s'.mem i=s.mem i:=fun i hi=>hw i (List.mem_append_left _ (List.mem_append_right _ (List.mem_append_left _ hi)))
        have hA':=n8 hA hUP fun i hi=>hr i (List.mem_append_right _ hi)
        rw[hA']
        simp only[]
        rw[lr,hc,ac,hr0,ae]
        unfold tE
        rw[hj]
        simp only[hx,hb]
        have hf:fX s' new=fX s new:=by
         unfold fX
         have:∀l:List (Nat×cj),(∀p∈l,s'.mem p.1=s.mem p.1)→(l.all fun p=>match s'.mem p.1 with|none=>true|some _=>false)=l.all fun p=>match s.mem p.1 with|none=>true|some _=>false:=fun l hl=>by
          induction l with
          |nil=>rfl
          |cons p l ih=>simp only[List.all_cons];rw[hl p (by simp),ih fun q hq=>hl q (by simp[hq])]
         exact this new fun p hp=>hw p.1 (List.mem_append_left _ (List.mem_append_right _ (List.mem_append_right _ (List.mem_map.2 ⟨p,hp,rfl⟩))))
        rw[hf,hd]
        simp only[xw,aB]at hc
        have hbk:∀i∈o3 A.bk,s.mem i=s'.mem i:=fun i hi=>by
         have:=List.all_eq_true.1 hc.2 i hi
         obtain⟨k,hk,hki⟩:=List.any_eq_true.1 this
         rw[aG hki]
         exact(hUP k hk).symm
        rw[←mV hbk,hus]
        rfl
       ·simp at hq
      ·simp at hq
     ·simp at hq
    ·simp at e
   ·simp at e
  ·simp at e
 |_::_::_,hs=>simp at hs
theorem xj {ps:List (Nat×Operand)} (h:∀x∈ps.map (·.2),s'.ev x=s.ev x):s'.evs ps=s.evs ps:=
 List.map_congr_left fun p hp=>by rw[h p.2 (List.mem_map.2 ⟨p,hp,rfl⟩)]
theorem xk {x:Option Operand} (h:∀y∈x.toArray,s'.ev y=s.ev y):(x.map fun o=>(s'.ev o).pv)=x.map fun o=>(s.ev o).pv:=by
 cases x with
 |none=>rfl
 |some o=>simp only[Option.map_some];rw[h o (by simp)]
theorem DK {env:C.Env} {id:Nat} {op:Op} {q:SV×List bJ×List Nat} (hs:iy C op=true) (h:∀x∈op.operands,s'.ev x=s.ev x) (e:wg C env id op s gR=some q)
  (hw:∀i∈ba q.2.1,s'.mem i=s.mem i) (hr:∀i∈dN q.2.1++q.2.2,iI s s' i):wg C env id op s' gR=some q:=by
 cases op<;>simp only[wg]at e⊢ <;>try (simp at e;done)
 case move x=>rw[h x (by simp[Op.operands])];exact e
 case assign x=>rw[h x (by simp[Op.operands])];exact e
 case pick c x y=>rw[h c (by simp[Op.operands]),h x (by simp[Op.operands]),h y (by simp[Op.operands])];exact e
 case binOp op t x y _=>rw[h x (by simp[Op.operands]),h y (by simp[Op.operands])];exact e
 case unOp op _ x=>rw[h x (by simp[Op.operands])];exact e
 case fieldAddr t x f=>rw[h x (by simp[Op.operands])];exact e
 case field t x f=>rw[h x (by simp[Op.operands])];exact e
 case index t x i=>rw[h x (by simp[Op.operands]),h i (by simp[Op.operands])];exact e
 case nilCheck x=>rw[h x (by simp[Op.operands])];exact e
 case extract t i=>rw[h t (by simp[Op.operands])];exact e
 case build t ps=>rw[xj fun x hx=>h x (by simpa[Op.operands]using hx)];exact e
 case alloc t=>
  split at e
  ·have e1:=(aR e).2
   simp only[gR,aa]at e1
   rw[cG (hw id (by rw[←e1];simp[ba]))];exact e
  ·simp at e
 case box t x=>
  rw[h x (by simp[Op.operands])]
  split at e
  ·rcases ab e with⟨hb,e⟩|⟨_,e⟩
   ·have e1:=(aR e).2
    simp only[gR,aa]at e1
    rw[hb,ac,cG (hw id (by rw[←e1];simp[ba]))];exact e
   ·simp at e
  ·simp at e
 case buildSlice t n ps=>
  rw[xj fun x hx=>h x (by simpa[Op.operands]using hx)]
  split at e
  ·split at e
   ·split at e
    ·rename_i b hdp
     rcases ab e with⟨hb,e⟩|⟨_,e⟩
     ·have e1:=(aR e).2
      simp only[gR,aa]at e1
      simp only[hb,ac]
      rw[cG (hw id (by rw[←e1];simp[ba]))];exact e
     ·simp at e
    split at e
    ·rename_i xs hxs
     rcases ab e with⟨hb,e⟩|⟨_,e⟩
     ·have e1:=(aR e).2
      simp only[gR,aa]at e1
      have hag:∀j∈aM (bu (s.evs ps.toList)),iI s s' j:=fun j hj=>hr j (by rw[←e1];simp[hj])
      rw[oa hag,hxs]
      simp only[hb,ac]
      rw[cG (hw id (by rw[←e1];simp only[yA];rw[Ak];simp[ba]))];exact e
     ·simp at e
    ·simp at e
   ·simp at e
  ·simp at e
 case makeSlice t n c=>
  rw[h n (by simp[Op.operands])]
  rcases ab e with⟨hb,e⟩|⟨_,e⟩
  ·rw[hb,ac]
   rw[iP,Option.bind_eq_some_iff]at e⊢
   obtain⟨⟨p,us⟩,e1,e2⟩:=e
   refine⟨(p,us),oe e1 fun i hi=>hw i ?_,e2⟩
   simp only[lq,gR,aa]at e2
   rw[←e2];exact hi
  ·simp at e
 case load t a=>
  rw[h a (by simp[Op.operands])]
  split at e
  ·rename_i p hp
   rw[rY,Option.bind_eq_some_iff]at e⊢
   obtain⟨⟨x,us⟩,e1,e2⟩:=e
   simp only[lq,gR,aa]at e2
   exact⟨(x,us),yf e1 (fun i hi=>hw i (by rw[←e2];exact hi)) (fun i hi=>hr i (by rw[←e2];simp[hi])),by simp only[lq,gR,e2]⟩
  ·simp at e
 case store t a x=>
  rw[h a (by simp[Op.operands]),h x (by simp[Op.operands])]
  split at e
  ·rw[oI,Option.bind_eq_some_iff]at e⊢
   obtain⟨⟨us,rs⟩,e1,e2⟩:=e
   simp only[lq,gR,aa]at e2
   refine⟨(us,rs),vq e1 (fun i hi=>hw i ?_) (fun i hi=>hr i ?_),by simp only[lq,gR,e2]⟩
   ·rw[←e2];exact hi
   ·rw[←e2];exact hi
  ·simp at e
 case indexAddr t x i=>
  rw[h x (by simp[Op.operands]),h i (by simp[Op.operands])]
  rw[od fun j hj=>hr j (by
   rw[iQ,Option.bind_eq_some_iff]at e
   obtain⟨p,_,e2⟩:=e
   simp only[gR,aa]at e2
   rw[←e2];simp[hj])]
  exact e
 case slice t x lo hi mx=>
  cases mx with
  |some _=>simp at e
  |none=>
   simp only at e⊢
   rw[h x (by simp[Op.operands]),xk (s:=s) (s':=s') fun y hy=>h y (by simp[Op.operands]at hy⊢;simp[hy]),xk (s:=s) (s':=s') fun y hy=>h y (by simp[Op.operands]at hy⊢;simp[hy])]
   rcases ab e with⟨hb,e⟩|⟨hb,e⟩
   ·rw[hb,ac]
    rw[oJ,Option.bind_eq_some_iff]at e⊢
    obtain⟨⟨p,us⟩,e1,e2⟩:=e
    simp only[lq,gR,aa]at e2
    exact⟨(p,us),vt e1 fun i hi=>hr i (by rw[←e2];simp[hi]),by simp only[lq,gR,e2]⟩
   rw[hb,af]
   rcases ab e with⟨hb2,e⟩|⟨hb2,e⟩
   rotate_left
   ·rw[hb2,af]
    rw[yh _ fun j hj=>hr j (by
     rw[rZ,Option.bind_eq_some_iff]at e
     obtain⟨p,_,e2⟩:=e
     simp only[gR,aa]at e2
     rw[←e2];simp[hj])]
    exact e
   ·rw[hb2,ac]
    rw[vH,Option.bind_eq_some_iff]at e⊢
    obtain⟨⟨p,us⟩,e1,e2⟩:=e
    simp only[lq,gR,aa]at e2
    exact⟨(p,us),Al e1 fun i hi=>hw i (by rw[←e2];exact hi),by simp only[lq,gR,e2]⟩
 case convert src dst x=>
  rw[h x (by simp[Op.operands])]
  split at e
  ·rename_i p hp
   rcases ab e with⟨hb,e⟩|⟨hb,e⟩
   ·rw[hb,ac]
    rw[oK,Option.bind_eq_some_iff]at e⊢
    obtain⟨⟨p,us⟩,e1,e2⟩:=e
    refine⟨(p,us),vu e1 fun i hi=>hw i ?_,e2⟩
    simp only[lq,gR,aa]at e2
    rw[←e2];exact hi
   ·rw[hb,af]
    rw[yg fun j hj=>hr j (by
     rw[sa,Option.bind_eq_some_iff]at e
     obtain⟨y,_,e2⟩:=e
     simp only[gR,aa]at e2
     rw[←e2];simp[hj])]
    exact e
  ·simp at e
 case makeFunc fn first captured=>
  cases fn<;>simp only[]at e⊢ <;>try (simp at e;done)
  split at e
  ·have:captured.toList.map s'.ev=captured.toList.map s.ev:=List.map_congr_left fun x hx=>h x (by simp only[Op.operands];exact Array.mem_append_right _ (by simpa using hx))
   rw[this,gB,Option.bind_eq_some_iff]
   rw[gB,Option.bind_eq_some_iff]at e
   obtain⟨⟨p,us,rs⟩,e1,e2⟩:=e
   simp only[Ck,gR,aa]at e2
   exact⟨(p,us,rs),p8 e1 fun i hi=>hr i (by rw[←e2];simp[hi]),by simp only[Ck,gR,e2]⟩
  ·simp at e
 case call c=>
  obtain⟨callee,args,argTypes⟩:=c
  have hargs:args.toList.map s'.ev=args.toList.map s.ev:=List.map_congr_left fun x hx=>h x (by simp only[Op.operands,Call.operands];exact Array.mem_append_right _ (by simpa using hx))
  have harg:∀x∈args.toList,s'.ev x=s.ev x:=fun x hx=>h x (by simp only[Op.operands,Call.operands];exact Array.mem_append_right _ (by simpa using hx))
  cases callee with
  |value f=>
   have fn:∀x:SV,Cl C env id s x (args.toList.map s.ev) gR=some q→Cl C env id s' x (args.toList.map s.ev) gR=some q:=by
    intro x e
    unfold Cl at e⊢
    split at e
    ·split at e
     ·rcases ab e with⟨hc,e⟩|⟨_,e⟩
      ·simp only[hc,ac]
       exact qy (bi hc) e hw hr
      ·simp at e
     ·simp at e
    ·simp at e
   have hf:s'.ev f=s.ev f:=h f (by simp[Op.operands,Call.operands])
   cases f
   case func f=>
    simp only[iy]at hs
    simp only at e⊢
    rw[hargs]
    exact qy (bi hs) e hw hr
   all_goals
    simp only at e⊢
    rw[hargs,hf]
    exact fn _ e
  |invoke _ _=>simp at e
  |builtin b=>
   cases b<;>simp only[]at e⊢ <;>try (simp at e;done)
   case len=>
    split at e
    ·rename_i x t h1 h2
     rw[harg x (by rw[h1];simp)]
     rw[Aj fun j hj=>hr j (by
      rw[vF,Option.bind_eq_some_iff]at e
      obtain⟨y,_,e2⟩:=e
      simp only[gR,aa]at e2
      rw[←e2];simp[hj])]
     exact e
    ·simp at e
   case append=>
    split at e
    ·rename_i x y t t' h1 h2
     rw[harg x (by rw[h1];simp),harg y (by rw[h1];simp)]
     rcases ab e with⟨hb,e⟩|⟨hb,e⟩
     ·rw[hb,ac]
      rcases ab e with⟨hv,e⟩|⟨hv,e⟩
      ·rw[hv,ac]
       rw[vG,Option.bind_eq_some_iff]at e⊢
       obtain⟨⟨p,us⟩,e1,e2⟩:=e
       simp only[lq,gR,aa]at e2
       exact⟨(p,us),Ao e1 (fun i hi=>hw i (by rw[←e2];exact hi)) (fun i hi=>hr i (by rw[←e2];simp[hi])),by simp only[lq,gR,e2]⟩
      ·rw[hv,af]
       rw[ml,Option.bind_eq_some_iff]at e⊢
       obtain⟨⟨p,us⟩,e1,e2⟩:=e
       simp only[lq,gR,aa]at e2
       exact⟨(p,us),tb e1 (fun i hi=>hw i (by rw[←e2];exact hi)) (fun i hi=>hr i (by rw[←e2];simp[hi])),by simp only[lq,gR,e2]⟩
     ·simp at e
    ·simp at e
   case max=>
    have:(args.toList.map fun x=>(s'.ev x).pv)=args.toList.map fun x=>(s.ev x).pv:=List.map_congr_left fun x hx=>by rw[harg x hx]
    rw[this];exact e
   case min=>
    have:(args.toList.map fun x=>(s'.ev x).pv)=args.toList.map fun x=>(s.ev x).pv:=List.map_congr_left fun x hx=>by rw[harg x hx]
    rw[this];exact e
end Go.Ps
