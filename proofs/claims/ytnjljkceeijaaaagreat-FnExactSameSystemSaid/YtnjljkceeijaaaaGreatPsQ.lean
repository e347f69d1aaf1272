import Derived.Test.YtnjljkceeijaaaaGreatPsP
namespace Go.Ps
set_option linter.unusedVariables false
variable {C:bS} {R:Type} {s s':St}
def jp (s s':St) (i:Nat):Prop:=s'.mem i=s.mem i∨(bw s i=false∧bw s' i=false∧(s'.mem i).map bX.frz=(s.mem i).map bX.frz)
theorem jp.frz {i:Nat} (h:jp s s' i):(s'.mem i).map bX.frz=(s.mem i).map bX.frz:=by
 rcases h with h|⟨_,_,h⟩
 ·rw[h]
 ·exact h
theorem o3 (s:St) (i:Nat):s.asList (.own i)=match(s.mem i).map bX.frz with
  |some (.frows e xs)=>some ⟨e,xs⟩
  |_=>none:=by
 simp only[St.asList]
 cases s.mem i with
 |none=>rfl
 |some b=>cases b<;>rfl
theorem jp.own {i:Nat} (h:jp s s' i):s'.asList (.own i)=s.asList (.own i):=by
 rw[o3,o3,h.frz]
theorem fM {p:PV} (h:∀i∈p.owns,jp s s' i):s'.asList p=s.asList p:=by
 cases p<;>try rfl
 exact(h _ (by simp[PV.owns])).own
theorem rZ {s:St} {id:Nat} (hd:bw s id=false):s.asRow (.own id)=s.asList (.own id):=by
 unfold bw at hd
 simp only[St.asRow]
 cases hm:s.mem id with
 |none=>rfl
 |some b=>
  rw[hm]at hd
  cases b<;>first|rfl|simp at hd
theorem sa {p:PV} (h:∀i∈p.owns,jp s s' i):s'.asRow p=s.asRow p:=by
 have h1:=fM h
 cases p<;>try exact h1
 rename_i id
 rcases h id (by simp[PV.owns])with h0|⟨h2,h3,_⟩
 ·simp only[St.asRow,h0,h1]
 ·rw[rZ h2,rZ h3,h1]
theorem zL {p:PV} (h:∀i∈p.owns,jp s s' i):s'.dat p=s.dat p:=by
 cases p<;>try rfl
 simp only[St.dat,fM h]
theorem dv {cs:List PV} (h:∀i∈aJ cs,jp s s' i):cs.map s'.dat=cs.map s.dat:=
 List.map_congr_left fun p hp=>zL fun i hi=>h i (List.mem_flatMap.2 ⟨p,hp,hi⟩)
theorem sb (s:St) (i:Nat):nN s i=match(s.mem i).map bX.frz with
  |some (.fbox cs)=>some cs
  |_=>none:=by
 simp only[nN]
 cases s.mem i with
 |none=>rfl
 |some b=>cases b<;>rfl
theorem jp.box {i:Nat} (h:jp s s' i):nN s' i=nN s i:=by
 rw[sb,sb,h.frz]
theorem uT (s:St) (i:Nat) (q:dz) (n:Nat):s.look (.ptr i q) n=(nN s i).bind fun cs=>iq cs q n:=by
 simp only[St.look,nN]
 cases s.mem i with
 |none=>rfl
 |some b=>cases b<;>rfl
theorem uU {s:St} {id:Nat} (h:bw s id=false) (i:Int) (q:dz) (n:Nat):s.look (.elt id i q) n=match(s.mem id).map bX.frz with
  |some (.frows e xs)=>iq (inj e (rd xs i)) q n
  |_=>none:=by
 unfold bw at h
 simp only[St.look]
 cases hm:s.mem id with
 |none=>rfl
 |some b=>
  rw[hm]at h
  cases b<;>try rfl
  rename_i T e f xs
  simp only[Bool.not_eq_false']at h
  simp only[h,Bool.true_or,cond_true,Option.map_some,bX.frz]
  cases iq (inj e (rd xs i)) q n<;>rfl
theorem uV {p:PV} {n:Nat} (h:∀i∈p.leads,jp s s' i):s'.look p n=s.look p n:=by
 cases p<;>try rfl
 case ptr id q=>rw[uT,uT,(h id (by simp[PV.leads])).box]
 case elt id i q=>
  have h:=h id (by simp[PV.leads])
  rcases h with h|⟨h3,h4,h⟩
  ·simp only[St.look,h]
  ·rw[uU h3,uU h4,h]
theorem uW {i:Nat} (h:jp s s' i):bw s' i=bw s i:=by
 rcases h with h|⟨h1,h2,_⟩
 ·unfold bw;rw[h]
 ·rw[h1,h2]
theorem mJ:∀{τ:Ty} {f:Fl} {cs:List PV} {q:τ.den×List PV×List Nat×List Nat},bz s τ f cs=some q→(∀i∈q.2.2.1,s'.mem i=s.mem i)→(∀i∈q.2.2.2,jp s s' i)→bz s' τ f cs=some q:=by
 have dt:∀{τ:Ty} {cs:List PV} {q:τ.den×List PV×List Nat×List Nat},(match d5 cs τ.size,a8 cs τ.size with
  |some a,some b=>match aU τ (a.map s.dat)with
   |some x=>some (x,b,[],aJ a)
   |none=>none
  |_,_=>none)=some q→(∀i∈q.2.2.2,jp s s' i)→(match d5 cs τ.size,a8 cs τ.size with
  |some a,some b=>match aU τ (a.map s'.dat)with
   |some x=>some (x,b,[],aJ a)
   |none=>none
  |_,_=>none)=some q:=by
  intro τ cs q e h
  split at e
  ·rename_i a b ha hb
   split at e
   ·rename_i x hx
    simp only[Option.some.injEq]at e
    subst e
    rw[dv h,hx]
   ·simp at e
  ·simp at e
 intro τ
 induction τ with
 |list e ih=>
  intro f cs q h hU hV
  cases f with
  |own T g=>
   simp only[bz]at h⊢
   split at h
   ·rename_i i cs
    split at h
    ·rename_i T' e' g' xs hm
     rcases Bool.eq_false_or_eq_true (Nat.beq T' T&&decide (g'=g))with hc|hc
     ·rw[hc,cond_true]at h
      split at h
      ·rename_i he hd
       simp only[Option.some.injEq]at h
       subst h
       simp only[hU i (by simp),hm,hc,cond_true,hd]
      ·simp at h
     ·rw[hc]at h;simp at h
    ·simp at h
   ·exact h
   ·simp at h
  |_=>exact dt h hV
 |opt e ih=>
  intro f cs q h hU hV
  cases f with
  |box=>
   simp only[bz]at h⊢
   split at h
   ·exact h
   ·rename_i i cs
    split at h
    ·rename_i bs hm
     rcases Bool.eq_false_or_eq_true (Nat.blt (i%128) 127)with hc|hc
     ·rw[hc,cond_true]at h
      split at h
      ·rename_i x hx
       simp only[Option.some.injEq]at h
       subst h
       simp only[hU i (by simp),hm,hc,cond_true,dv hV,hx]
      ·simp at h
     ·rw[hc]at h;simp at h
    ·simp at h
   ·simp at h
  |_=>exact dt h hV
 |pair a b iha ihb=>
  intro f cs q h hU hV
  cases f with
  |pair f g=>
   simp only[bz]at h⊢
   split at h
   ·rename_i x cs1 U V h1
    split at h
    ·rename_i y cs2 U' V' h2
     simp only[Option.some.injEq]at h
     subst h
     rw[iha h1 (fun i hi=>hU i (by simp;exact .inl hi)) (fun i hi=>hV i (by simp;exact .inl hi))]
     simp only[]
     rw[ihb h2 (fun i hi=>hU i (by simp;exact .inr hi)) (fun i hi=>hV i (by simp;exact .inr hi))]
    ·simp at h
   ·simp at h
  |_=>exact dt h hV
 |_=>intro f cs q h hU hV;exact dt h hV
theorem AQ {p:PK} {x:SV} {A:Ar} (e:eC s p x=some A) (hU:∀i∈A.U++A.P,s'.mem i=s.mem i) (hV:∀i∈A.V,jp s s' i):eC s' p x=some A:=by
 cases p with
 |raw=>
  simp only[eC]at e⊢
  split at e
  ·simp only[Option.some.injEq]at e;subst e;rw[zL hV]
  ·simp at e
 |val τ=>
  simp only[eC]at e⊢
  split at e
  ·split at e
   ·rename_i d hd
    split at e
    ·rename_i y hy
     simp only[Option.some.injEq]at e;subst e
     rw[dv hV,hd];simp only[hy]
    ·simp at e
   ·simp at e
  ·simp at e
 |give τ f=>
  simp only[eC]at e⊢
  split at e
  ·split at e
   ·rename_i d U V hd
    split at e
    ·rename_i y hy
     simp only[Option.some.injEq]at e;subst e
     rw[mJ hd (fun i hi=>hU i (by simp;exact hi)) hV];simp only[hy]
    ·simp at e
   ·simp at e
  ·simp at e
 |lend τ f=>
  simp only[eC]at e⊢
  split at e
  ·split at e
   ·rename_i d U V hd
    split at e
    ·rename_i y hy
     simp only[Option.some.injEq]at e;subst e
     rw[mJ hd (fun i hi=>hU i (by simp;exact hi)) hV];simp only[hy]
    ·simp at e
   ·simp at e
  ·simp at e
 |ro τ=>
  simp only[eC]at e⊢
  split at e
  ·rename_i cs hcs
   split at e
   ·rename_i d hd
    simp only[Option.some.injEq]at e;subst e
    rw[uV fun i hi=>hV i (by simp;exact .inl hi),hcs]
    simp only[]
    rw[dv fun i hi=>hV i (by simp;exact .inr hi),hd]
   ·simp at e
  ·simp at e
 |var τ f=>
  simp only[eC]at e⊢
  split at e
  ·rename_i id o hx
   split at e
   ·rename_i bs hm
    split at e
    ·rename_i cs hcs
     split at e
     ·rename_i d U V hd
      simp only[Option.some.injEq]at e;subst e
      rw[hU id (by simp),hm]
      simp only[hcs]
      rw[mJ hd (fun i hi=>hU i (by simp;exact .inl hi)) hV]
     ·simp at e
    ·simp at e
   ·simp at e
  ·simp at e
theorem o4:∀{ps:List PK} {xs:List SV} {A:Ar},ci s ps xs=some A→(∀i∈A.U++A.P,s'.mem i=s.mem i)→(∀i∈A.V,jp s s' i)→ci s' ps xs=some A
 | [],[],A,e,_,_=>e
 | [],_::_,A,e,_,_=>by simp[ci]at e
 |_::_,[],A,e,_,_=>by simp[ci]at e
 |p::ps,x::xs,A,e,hU,hV=>by
  simp only[ci]at e⊢
  split at e
  ·rename_i a b ha hb
   simp only[Option.some.injEq]at e;subst e
   rw[AQ ha (fun i hi=>hU i (by simp at hi⊢;rcases hi with hi|hi<;>simp[hi])) (fun i hi=>hV i (by simp;exact .inl hi)),
    o4 hb (fun i hi=>hU i (by simp at hi⊢;rcases hi with hi|hi<;>simp[hi])) (fun i hi=>hV i (by simp;exact .inr hi))]
  ·simp at e
theorem AR {p:PK} {x:SV} {q:qY×List Nat} (e:sF s p x=some q) (h:∀i∈q.2,jp s s' i):sF s' p x=some q:=by
 cases p<;>simp only[sF]at e⊢ <;>try (simp at e;done)
 case val τ=>
  split at e
  ·split at e
   ·rename_i d hd
    split at e
    ·rename_i y hy
     simp only[Option.some.injEq]at e;subst e
     rw[dv h,hd];simp only[hy]
    ·simp at e
   ·simp at e
  ·simp at e
 case ro τ=>
  split at e
  ·rename_i id hx
   split at e
   ·rename_i cs hcs
    split at e
    ·rename_i d hd
     simp only[Option.some.injEq]at e;subst e
     rw[(h id (by simp)).box,hcs]
     simp only[]
     rw[dv fun i hi=>h i (by simp[hi]),hd]
    ·simp at e
   ·simp at e
  ·exact e
  ·simp at e
 case var τ f=>exact e
theorem o5:∀{ps:List PK} {xs:List SV} {q:List qY×List Nat},fp s ps xs=some q→(∀i∈q.2,jp s s' i)→fp s' ps xs=some q
 | [],[],q,e,_=>e
 | [],_::_,q,e,_=>by simp[fp]at e
 |_::_,[],q,e,_=>by simp[fp]at e
 |p::ps,x::xs,q,e,h=>by
  simp only[fp]at e⊢
  split at e
  ·rename_i c i cs is hc hcs
   simp only[Option.some.injEq]at e;subst e
   rw[AR hc fun j hj=>h j (by simp;exact .inl hj),o5 hcs fun j hj=>h j (by simp;exact .inr hj)]
  ·simp at e
theorem o6 {e:Ty}:∀{ps:List (Nat×SV)} {i:Nat},(∀j∈aJ (bi ps),jp s s' j)→iX e s' i ps=iX e s i ps
 | [],_,_=>rfl
 |(j,x)::ps,i,h=>by
  simp only[iX]
  refine cv _ _ _ _ _ ?_ rfl
  cases hx:x.cells with
  |none=>rfl
  |some c=>
   simp only[]
   simp only[bi,hx,Option.getD_some,aJ,List.flatMap_append,List.mem_append]at h
   rw[dv fun k hk=>h k (.inl hk),o6 fun k hk=>h k (.inr hk)]
theorem xD {e:Ty} {y:PV} (h:∀i∈y.owns,jp s s' i):lw s' e y=lw s e y:=by
 have h1:=fM h
 unfold lw
 cases y<;>first|rfl|simp only[h1]
theorem AS {y:PV} (h:∀i∈y.owns,jp s s' i):kU s' y=kU s y:=by
 cases y<;>try rfl
 rename_i id
 have h:=h id (by simp[PV.owns])
 simp only[kU]
 rcases h with h|⟨h1,h2,_⟩
 ·rw[h]
 ·have key:∀s:St,bw s id=false→(match s.mem id with
   |some (.rows _ _ f _)=>bif f.isNo then[]else[bG.frz id]
   |_=>[])=[]:=by
   intro s hd
   unfold bw at hd
   cases hm:s.mem id with
   |none=>rfl
   |some b=>
    rw[hm]at hd
    cases b<;>try rfl
    rename_i T e f xs
    simp only[Bool.not_eq_false']at hd
    simp only[hd,cond_true]
  exact(key s' h2).trans (key s h1).symm
theorem cH {id:Nat} {x:Option R} (h:s'.mem id=s.mem id):cw s' id x=cw s id x:=by
 unfold cw;rw[h]
theorem lc {new:List PV} (h0:aJ new=[]) (cs:List PV) (q:dz) (n:Nat):gR s'.dat cs q n new=gR s.dat cs q n new:=by
 have:=dv (s:=s) (s':=s') (cs:=new) fun i hi=>by rw[h0]at hi;cases hi
 unfold gR
 cases q with
 | «at»o=>rfl
 |arr o e m j q=>simp only[this]
theorem Ey (s:St) (p:PV):(s.dat p).owns=[]:=by
 cases p<;>try rfl
 case own id=>simp only[St.dat];cases s.asList (.own id)<;>rfl
 case fn f caps=>simp only[St.dat];generalize List.all caps _=b;cases b<;>rfl
theorem AT (s:St) (cs:List PV):aJ (cs.map s.dat)=[]:=by
 induction cs with
 |nil=>rfl
 |cons c cs ih=>simp only[List.map_cons,aJ,List.flatMap_cons]at ih⊢;rw[Ey,ih];rfl
theorem xE {t:TypeId} {p:PV} {x:SV} {us:List bG} {rs:List Nat} (e:gW C s t p x fh=some (us,rs)) (hw:∀i∈bb us,s'.mem i=s.mem i) (hr:∀i∈updF us++rs,jp s s' i):gW C s' t p x fh=some (us,rs):=by
 rw[←e]
 unfold gW at e⊢
 split at e
 ·rename_i I new hI hnew
  rcases ac e with⟨hc,e⟩|⟨_,e⟩
  ·simp only[hc,cond_true]
   split at e
   ·rename_i id q _
    split at e
    ·rename_i cs hm
     have hid:id∈bb us:=by
      split at e
      ·split at e
       ·simp only[fh,Option.some.injEq,Prod.mk.injEq]at e;rw[←e.1];simp[bb]
       ·simp at e
      ·rcases ac e with⟨_,e⟩|⟨_,e⟩
       ·split at e
        ·simp only[fh,Option.some.injEq,Prod.mk.injEq]at e;rw[←e.1];simp[bb]
        ·simp at e
       ·simp at e
     simp only[hw id hid,hm]
     split at e
     ·rfl
     ·rcases ac e with⟨hn,e⟩|⟨_,e⟩
      ·have:=lc (s:=s) (s':=s') (show aJ new=[] by simpa using hn)
       simp only[this]
      ·simp at e
    ·simp at e
   ·rename_i id i q _
    split at e
    ·rename_i T el f xs hm
     rcases ac e with⟨hc2,e⟩|⟨hc2,e⟩
     ·split at e
      ·rename_i cs' hcs
       split at e
       ·rename_i x' hx'
        simp only[fh,Option.some.injEq,Prod.mk.injEq]at e
        have hid:id∈bb us:=by
         rw[←e.1]
         have:∀(l:List Nat) (us:List bG),bb (l.map .frz++us)=bb us:=fun l us=>by induction l with|nil=>rfl|cons _ _ ih=>simpa[bb]using ih
         simp[Bd,this,bb]
        simp only[hw id hid,hm,hc2,cond_true]
        rw[dv fun i hi=>hr i (by rw[←e.2];simp[hi]),lc (s:=s) (AT s new)];simp only[hcs,hx']
       ·simp at e
      ·simp at e
     ·have hd:(bif (aJ new).isEmpty then gU el f (rd xs i) q I.size (new.map s'.dat)else none)=bif (aJ new).isEmpty then gU el f (rd xs i) q I.size (new.map s.dat)else none:=by
       cases hn:(aJ new).isEmpty with
       |false=>rfl
       |true=>rw[dv (s:=s) (s':=s') fun i hi=>by rw[List.isEmpty_iff.1 hn]at hi;simp at hi]
      have hid:id∈bb us:=by
       split at e
       ·simp only[fh,Option.some.injEq,Prod.mk.injEq]at e;rw[←e.1];simp[bb]
       ·split at e
        ·rcases ac e with⟨_,e⟩|⟨_,e⟩
         ·split at e
          ·simp only[fh,Option.some.injEq,Prod.mk.injEq]at e;rw[←e.1];simp[bb]
          ·simp at e
         ·simp at e
        ·simp at e
      simp only[hw id hid,hm,hc2,cond_false,hd]
    ·rename_i T el f xs i' cs0 hm
     rcases ac e with⟨hc2,e⟩|⟨_,e⟩
     ·have hid:id∈bb us:=by
       split at e
       ·split at e
        ·simp only[fh,Option.some.injEq,Prod.mk.injEq]at e;rw[←e.1];simp[bb]
        ·simp at e
       ·rcases ac e with⟨_,e⟩|⟨_,e⟩
        ·split at e
         ·simp only[fh,Option.some.injEq,Prod.mk.injEq]at e;rw[←e.1];simp[bb]
         ·simp at e
        ·simp at e
      simp only[hw id hid,hm,hc2,cond_true]
      split at e
      ·rfl
      ·rcases ac e with⟨hn,e⟩|⟨_,e⟩
       ·have:=lc (s:=s) (s':=s') (show aJ new=[] by simpa using hn)
        simp only[this]
       ·simp at e
     ·simp at e
    ·simp at e
   ·simp at e
  ·simp at e
 ·simp at e
theorem xF {l:List (Nat×bX)} (h:∀p∈l,s'.mem p.1=s.mem p.1):fV s' l=fV s l:=by
 unfold fV
 induction l with
 |nil=>rfl
 |cons p l ih=>simp only[List.all_cons];rw[h p (by simp),ih fun q hq=>h q (by simp[hq])]
theorem AU {id:Nat} {t:TypeId} {p:PV} {x:SV} {us:List bG} (e:kT C s id t p fh=some (x,us)) (hw:∀i∈bb us,s'.mem i=s.mem i) (hr:∀i∈p.leads,jp s s' i):kT C s' id t p fh=some (x,us):=by
 unfold kT at e⊢
 split at e
 ·rename_i I hI
  rw[uV hr]
  split at e
  ·exact e
  ·rw[←e]
   unfold pQ at e⊢
   split at e
   ·rename_i j i q _
    split at e
    ·rename_i T e1 f xs hm
     rcases ac e with⟨hc,e⟩|⟨_,e⟩
     ·split at e
      ·rename_i cs hcs
       have hus: .set j .dead::(cq (aH id e1 f (rd xs i) 0).2.1++[.set j (.opn T e1 f xs i (aH id e1 f (rd xs i) 0).1)])=us:=by
        rcases mL e with⟨_,e⟩|⟨_,c,_,_,e⟩
        ·simp only[fh,Option.some.injEq,Prod.mk.injEq]at e;exact e.2
        ·simp only[fh,Option.some.injEq,Prod.mk.injEq]at e;exact e.2
       have hWs:∀(l:List (Nat×bX)) (us:List bG),bb (cq l++us)=l.map (·.1)++bb us:=fun l us=>by
        induction l with
        |nil=>rfl
        |cons u a ih=>simpa[bb,cq]using ih
       rw[←hus]at hw
       simp only[bb,hWs]at hw
       simp only[hw j (by simp),hm]
       rw[xF fun p hp=>hw p.1 (List.mem_cons_of_mem _ (List.mem_append_left _ (List.mem_map.2 ⟨p,hp,rfl⟩)))]
       simp only[hcs]
      ·simp at e
     ·simp at e
    ·rename_i hm
     have hj:s'.mem j=s.mem j:=by
      rcases hr j (by simp[PV.leads])with h|⟨h,_⟩
      ·exact h
      ·unfold bw at h;rw[hm]at h;simp at h
     simp only[hj,hm]
    ·simp at e
   ·simp at e
 ·simp at e
theorem Ez {t:TypeId} {x:PV} {k:PV→Option R} (h:∀i∈x.owns,jp s s' i):rx C s' t x k=rx C s t x k:=by
 have h1:=sa h
 unfold rx
 cases x<;>first|rfl|simp only[h1]
theorem AV {src dst:TypeId} {x:PV} {k:PV→Option R} (h:∀i∈x.owns,jp s s' i):kV C s' src dst x k=kV C s src dst x k:=by
 have h1:=fM h
 unfold kV
 cases C.ti src<;>cases C.ti dst<;>cases x<;>first|rfl|simp only[h1]
theorem o7 {t:TypeId} {x i:PV} {k:PV→Option R} (h:∀j∈x.owns,jp s s' j):cb C s' t x i k=cb C s t x i k:=by
 unfold cb
 cases i<;>try rfl
 cases x with
 |own id=>have h1:=sa h;simp only[h1]
 |ptr id p=>cases p<;>rfl
 |elt id j p=>cases p<;>rfl
 |_=>rfl
theorem EA (l:List Nat) (us:List bG):bb (l.map .frz++us)=bb us:=by induction l with|nil=>rfl|cons _ _ ih=>simpa[bb]using ih
theorem lL {x:Option PV} {d:Int} {k:Int→Option R} {r:R} (e:iY x d k=some r):∃n,k n=some r:=by
 unfold iY at e;split at e
 ·exact⟨_,e⟩
 ·exact⟨_,e⟩
 ·simp at e
theorem xG {t:TypeId} {x:PV} {lo hi:Option PV} {p:PV} {us:List bG} (e:gX C s t x lo hi fh=some (p,us)) (hr:∀i∈updF us,jp s s' i):gX C s' t x lo hi fh=some (p,us):=by
 have hx:∀i∈x.owns,jp s s' i:=by
  intro i hi
  cases x<;>simp only[PV.owns,List.not_mem_nil,List.mem_singleton]at hi
  subst hi
  refine hr i ?_
  unfold gX at e
  simp only[]at e
  split at e
  ·rcases ac e with⟨_,e⟩|⟨_,e⟩
   ·obtain⟨l,e⟩:=lL e
    obtain⟨m,e⟩:=lL e
    rcases ac e with⟨_,e⟩|⟨_,e⟩
    ·simp only[fh,Option.some.injEq,Prod.mk.injEq]at e;rw[←e.2];simp[PV.owns,updF]
    ·simp at e
   ·simp at e
  ·simp at e
 have h1:=fM hx
 rw[←e]
 unfold gX
 cases x<;>first|rfl|simp only[h1]
theorem o8 {id:Nat} {t:TypeId} {n p:PV} {us:List bG} (e:cr C s id t n fh=some (p,us)) (hw:∀i∈bb us,s'.mem i=s.mem i):cr C s' id t n fh=some (p,us):=by
 rw[←e]
 unfold cr at e⊢
 split at e
 ·split at e
  ·split at e
   ·rcases ac e with⟨_,e⟩|⟨_,e⟩
    ·have e1:=(aS e).2
     rcases ac e1 with⟨_,e1⟩|⟨_,e1⟩
     ·simp only[fh,Option.some.injEq,Prod.mk.injEq]at e1
      rw[cH (hw id (by rw[←e1.2];simp[bb]))]
     ·simp at e1
    ·simp at e
   ·simp at e
  ·simp at e
 ·simp at e
theorem xH {id:Nat} {src dst:TypeId} {x p:PV} {us:List bG} (e:gY C s id src dst x fh=some (p,us)) (hw:∀i∈bb us,s'.mem i=s.mem i):gY C s' id src dst x fh=some (p,us):=by
 rw[←e]
 unfold gY at e⊢
 split at e
 ·rcases ac e with⟨hb,e⟩|⟨_,e⟩
  ·rw[hb,cond_true,cond_true]
   split at e
   ·have e1:=(aS e).2
    rcases ac e1 with⟨_,e1⟩|⟨_,e1⟩
    ·simp only[fh,Option.some.injEq,Prod.mk.injEq]at e1
     rw[cH (hw id (by rw[←e1.2];simp[bb]))]
    ·simp at e1
   ·simp at e
  ·simp at e
 ·simp at e
theorem EB {id:Nat} {e:TypeId} {τ:Ty} {x y:PV} (hy:∀j∈y.owns,jp s s' j) (hx:∀l∈x.owns,s'.mem l=s.mem l):oe s' id e τ x y=oe s id e τ x y:=by
 cases y<;>try rfl
 rename_i j
 have hx':∀l,x= .own l→s'.mem l=s.mem l:=fun l hl=>hx l (by rw[hl];simp[PV.owns])
 rcases hy j (by simp[PV.owns])with h|⟨h1,h2,_⟩
 ·unfold oe
  simp only[h]
  cases x<;>try rfl
  simp only[hx' _ rfl]
 ·have key:∀s:St,bw s j=false→oe s id e τ x (.own j)=none:=by
   intro s hd
   unfold bw at hd
   unfold oe
   simp only[]
   cases hm:s.mem j with
   |none=>rfl
   |some b=>
    rw[hm]at hd
    cases b<;>first|rfl|simp at hd|skip
    rename_i T e0 f xs
    simp[hd]
  rw[key s h1,key s' h2]
theorem EC {id m:Nat} {e:TypeId} {τ:Ty} {x y:PV} {us:List bG} (h:oe s id e τ x y=some (m,us)):(∀i∈y.owns,i∈bb us)∧(∀i∈x.owns,i∈bb us)∧id∈bb us:=by
 unfold oe at h
 split at h
 ·split at h
  ·rcases ac h with⟨_,h⟩|⟨_,h⟩
   ·split at h
    ·split at h
     ·simp only[Option.some.injEq,Prod.mk.injEq]at h;rw[←h.2];simp[PV.owns,bb]
     ·split at h
      ·rcases ac h with⟨_,h⟩|⟨_,h⟩
       ·split at h
        ·simp only[Option.some.injEq,Prod.mk.injEq]at h;rw[←h.2];simp[PV.owns,bb]
        ·simp at h
       ·simp at h
      ·simp at h
     ·simp at h
    ·simp at h
   ·simp at h
  ·rcases ac h with⟨_,h⟩|⟨_,h⟩
   ·split at h
    ·split at h
     ·split at h
      ·rcases ac h with⟨_,h⟩|⟨_,h⟩
       ·split at h
        ·simp only[Option.some.injEq,Prod.mk.injEq]at h;rw[←h.2];simp[PV.owns,bb]
        ·simp at h
       ·simp at h
      ·simp at h
     ·simp at h
    ·simp at h
   ·simp at h
  ·simp at h
 ·simp at h
theorem uX {id:Nat} {sl:TypeId} {x y p:PV} {us:List bG} (e:dJ C s id sl x y fh=some (p,us)) (hw:∀i∈bb us,s'.mem i=s.mem i) (hy:∀i∈y.owns,jp s s' i):dJ C s' id sl x y fh=some (p,us):=by
 rw[←e]
 have hu:=AS hy
 have hwm:∀vs:List bG,∀i∈bb vs,i∈bb (kU s y++vs):=by
  intro vs i hi
  have:∀a b:List bG,bb (a++b)=bb a++bb b:=fun a b=>by
   induction a with
   |nil=>rfl
   |cons u a ih=>cases u<;>simp[bb,ih]
  rw[this];simp[hi]
 have hwa:∀a b:List bG,bb (a++b)=bb a++bb b:=fun a b=>by
  induction a with
  |nil=>rfl
  |cons u a ih=>cases u<;>simp[bb,ih]
 have hxw:∀l∈x.owns,s'.mem l=s.mem l:=by
  intro l hl
  refine hw l ?_
  unfold dJ at e
  split at e
  ·split at e
   ·rcases ac e with⟨hb,e⟩|⟨_,e⟩
    ·split at e
     ·rename_i had
      have e1:=(aS e).2
      rcases ac e1 with⟨_,e1⟩|⟨_,e1⟩
      ·simp only[fh,Option.some.injEq,Prod.mk.injEq]at e1
       rw[←e1.2];exact(EC had).2.1 l hl
      ·simp at e1
     ·split at e
      ·split at e
       ·simp[PV.owns]at hl
       ·split at e
        ·rcases ac e with⟨_,e⟩|⟨_,e⟩
         ·split at e
          ·have e1:=(aS e).2
           rcases ac e1 with⟨_,e1⟩|⟨_,e1⟩
           ·simp only[fh,Option.some.injEq,Prod.mk.injEq]at e1
            simp only[PV.owns,List.mem_singleton]at hl
            rw[←e1.2,hwa,hl];simp[bb]
           ·simp at e1
          ·simp at e
         ·simp at e
        ·simp at e
       ·simp at e
      ·simp at e
    ·simp at e
   ·simp at e
  ·simp at e
 unfold dJ at e⊢
 split at e
 ·split at e
  ·rcases ac e with⟨hb,e⟩|⟨_,e⟩
   ·rw[xD hy,EB hy hxw]
    simp only[hb,cond_true]
    split at e
    ·rename_i had
     have e1:=(aS e).2
     rcases ac e1 with⟨_,e1⟩|⟨_,e1⟩
     ·simp only[fh,Option.some.injEq,Prod.mk.injEq]at e1
      rw[cH (hw id (by rw[←e1.2];exact(EC had).2.2))]
     ·simp at e1
    rename_i hno0
    clear hno0
    split at e
    ·split at e
     ·have e1:=(aS e).2
      rcases ac e1 with⟨_,e1⟩|⟨_,e1⟩
      ·simp only[fh,Option.some.injEq,Prod.mk.injEq]at e1
       rw[cH (hw id (by rw[←e1.2];exact hwm _ _ (by simp[bb]))),hu]
      ·simp at e1
     ·rename_i j _
      split at e
      ·rename_i T e' f xs hm
       rcases ac e with⟨hc,e⟩|⟨_,e⟩
       ·split at e
        ·rename_i h hd
         have e1:=(aS e).2
         rcases ac e1 with⟨_,e1⟩|⟨_,e1⟩
         ·simp only[fh,Option.some.injEq,Prod.mk.injEq]at e1
          have hj:s'.mem j=s.mem j:=hw j (by rw[←e1.2];exact hwm _ _ (by simp[bb]))
          simp only[hj,hm,hc,cond_true,hd]
          rw[cH (hw id (by rw[←e1.2];exact hwm _ _ (by simp[bb]))),hu]
         ·simp at e1
        ·simp at e
       ·simp at e
      ·simp at e
     ·simp at e
    ·simp at e
   ·simp at e
  ·simp at e
 ·simp at e
theorem rh {f:FuncId} {xs:List SV} {p:PV} {us:List bG} {rs:List Nat} (e:dj C s f xs js=some (p,us,rs)) (hr:∀i∈rs,jp s s' i):dj C s' f xs js=some (p,us,rs):=by
 rw[←e]
 unfold dj at e⊢
 split at e
 ·split at e
  ·split at e
   ·rename_i cs is hcs
    rcases ac e with⟨_,e⟩|⟨_,e⟩
    ·simp only[js,Option.some.injEq,Prod.mk.injEq]at e
     rw[o5 hcs fun i hi=>hr i (by rw[←e.2.2];exact hi)]
    ·simp at e
   ·simp at e
  ·simp at e
 ·rfl
theorem AW {env:C.Env} {id:Nat} {f:FuncId} {xs:List SV} {q:SV×List bG×List Nat} (hs:(C.alts f).length≤1) (e:jo C env id s f xs js=some q) (hw:∀i∈bb q.2.1,s'.mem i=s.mem i) (hr:∀i∈updF q.2.1++q.2.2,jp s s' i):jo C env id s' f xs js=some q:=by
 unfold jo at e⊢
 match h:C.alts f,hs with
 | [],_=>rw[h]at e;simp[jL]at e
 | [g],_=>
  rw[h]at e
  simp only[jL]at e⊢
  split at e
  ·rename_i sg hsg
   split at e
   ·rename_i A hA
    rw[lS]at e
    rcases ac e with⟨hc,e⟩|⟨_,e⟩
    ·rw[Option.bind_eq_some_iff]at e
     obtain⟨r,hr0,e⟩:=e
     have e':=e
     rw[Option.bind_eq_some_iff]at e
     obtain⟨q',hq,e⟩:=e
     have hqq:q'=q:=by simpa using e
     subst hqq
     unfold vz at hq
     generalize hj:aH id (C.resTy g) sg.resFl r 0=qq at hq
     obtain⟨cs,new,j⟩:=qq
     simp only[]at hq
     split at hq
     ·rename_i x back hx hb
      rcases ac hq with⟨hd,hq⟩|⟨_,hq⟩
      ·split at hq
       ·rename_i us hus
        simp only[Option.some.injEq]at hq
        subst hq
        simp only[]at hw hr
        have hWa:∀a b:List bG,bb (a++b)=bb a++bb b:=fun a b=>by
         induction a with
         |nil=>rfl
         |cons u a ih=>cases u<;>simp[bb,ih]
        have hWd:∀l:List Nat,bb (l.map (.set · .dead))=l:=fun l=>by
         induction l with
         |nil=>rfl
         |cons u a ih=>simpa[bb]using ih
        have hWs:∀l:List (Nat×bX),bb (cq l)=l.map (·.1):=fun l=>by
         induction l with
         |nil=>rfl
         |cons u a ih=>simpa[bb,cq]using ih
        rw[hWa,hWa,hWa,hWd,hWs]at hw
        have hUP:∀i∈A.U++A.P,s'.mem i=s.mem i:=fun i hi=>hw i (List.mem_append_left _ (List.mem_append_right _ (List.mem_append_left _ hi)))
        have hA':=o4 hA hUP fun i hi=>hr i (List.mem_append_right _ hi)
        rw[hA']
        simp only[]
        rw[lS,hc,cond_true,hr0,Option.bind_some]
        unfold vz
        rw[hj]
        simp only[hx,hb]
        have hf:fV s' new=fV s new:=by
         unfold fV
         have:∀l:List (Nat×bX),(∀p∈l,s'.mem p.1=s.mem p.1)→(l.all fun p=>match s'.mem p.1 with|none=>true|some _=>false)=l.all fun p=>match s.mem p.1 with|none=>true|some _=>false:=fun l hl=>by
          induction l with
          |nil=>rfl
          |cons p l ih=>simp only[List.all_cons];rw[hl p (by simp),ih fun q hq=>hl q (by simp[hq])]
         exact this new fun p hp=>hw p.1 (List.mem_append_left _ (List.mem_append_right _ (List.mem_append_right _ (List.mem_map.2 ⟨p,hp,rfl⟩))))
        rw[hf,hd]
        simp only[zW,Bool.and_eq_true]at hc
        have hbk:∀i∈pR A.bk,s.mem i=s'.mem i:=fun i hi=>by
         have:=List.all_eq_true.1 hc.2 i hi
         obtain⟨k,hk,hki⟩:=List.any_eq_true.1 this
         rw[Nat.eq_of_beq_eq_true hki]
         exact(hUP k hk).symm
        rw[←nC hbk,hus]
        rfl
       ·simp at hq
      ·simp at hq
     ·simp at hq
    ·simp at e
   ·simp at e
  ·simp at e
 |_::_::_,hs=>simp at hs
theorem zM {ps:List (Nat×Operand)} (h:∀x∈ps.map (·.2),s'.ev x=s.ev x):s'.evs ps=s.evs ps:=
 List.map_congr_left fun p hp=>by rw[h p.2 (List.mem_map.2 ⟨p,hp,rfl⟩)]
theorem zN {x:Option Operand} (h:∀y∈x.toArray,s'.ev y=s.ev y):(x.map fun o=>(s'.ev o).pv)=x.map fun o=>(s.ev o).pv:=by
 cases x with
 |none=>rfl
 |some o=>simp only[Option.map_some];rw[h o (by simp)]
theorem Jy {env:C.Env} {id:Nat} {op:Op} {q:SV×List bG×List Nat} (hs:iC C op=true) (h:∀x∈op.operands,s'.ev x=s.ev x) (e:yk C env id op s js=some q)
  (hw:∀i∈bb q.2.1,s'.mem i=s.mem i) (hr:∀i∈updF q.2.1++q.2.2,jp s s' i):yk C env id op s' js=some q:=by
 cases op<;>simp only[yk]at e⊢ <;>try (simp at e;done)
 case move x=>rw[h x (by simp[Op.operands])];exact e
 case assign x=>rw[h x (by simp[Op.operands])];exact e
 case pick c x y=>rw[h c (by simp[Op.operands]),h x (by simp[Op.operands]),h y (by simp[Op.operands])];exact e
 case binOp op t x y _=>rw[h x (by simp[Op.operands]),h y (by simp[Op.operands])];exact e
 case unOp op _ x=>rw[h x (by simp[Op.operands])];exact e
 case fieldAddr t x f=>rw[h x (by simp[Op.operands])];exact e
 case field t x f=>rw[h x (by simp[Op.operands])];exact e
 case index t x i=>rw[h x (by simp[Op.operands]),h i (by simp[Op.operands])];exact e
 case nilCheck x=>rw[h x (by simp[Op.operands])];exact e
 case extract t i=>rw[h t (by simp[Op.operands])];exact e
 case build t ps=>rw[zM fun x hx=>h x (by simpa[Op.operands]using hx)];exact e
 case alloc t=>
  split at e
  ·have e1:=(aS e).2
   simp only[js,Option.some.injEq]at e1
   rw[cH (hw id (by rw[←e1];simp[bb]))];exact e
  ·simp at e
 case box t x=>
  rw[h x (by simp[Op.operands])]
  split at e
  ·rcases ac e with⟨hb,e⟩|⟨_,e⟩
   ·have e1:=(aS e).2
    simp only[js,Option.some.injEq]at e1
    rw[hb,cond_true,cH (hw id (by rw[←e1];simp[bb]))];exact e
   ·simp at e
  ·simp at e
 case buildSlice t n ps=>
  rw[zM fun x hx=>h x (by simpa[Op.operands]using hx)]
  split at e
  ·split at e
   ·split at e
    ·rename_i b hdp
     rcases ac e with⟨hb,e⟩|⟨_,e⟩
     ·have e1:=(aS e).2
      simp only[js,Option.some.injEq]at e1
      simp only[hb,cond_true]
      rw[cH (hw id (by rw[←e1];simp[bb]))];exact e
     ·simp at e
    split at e
    ·rename_i xs hxs
     rcases ac e with⟨hb,e⟩|⟨_,e⟩
     ·have e1:=(aS e).2
      simp only[js,Option.some.injEq]at e1
      have hag:∀j∈aJ (bi (s.evs ps.toList)),jp s s' j:=fun j hj=>hr j (by rw[←e1];simp[hj])
      rw[o6 hag,hxs]
      simp only[hb,cond_true]
      rw[cH (hw id (by rw[←e1];simp only[Bd];rw[EA];simp[bb]))];exact e
     ·simp at e
    ·simp at e
   ·simp at e
  ·simp at e
 case makeSlice t n c=>
  rw[h n (by simp[Op.operands])]
  rcases ac e with⟨hb,e⟩|⟨_,e⟩
  ·rw[hb,cond_true]
   rw[iS,Option.bind_eq_some_iff]at e⊢
   obtain⟨⟨p,us⟩,e1,e2⟩:=e
   refine⟨(p,us),o8 e1 fun i hi=>hw i ?_,e2⟩
   simp only[pB,js,Option.some.injEq]at e2
   rw[←e2];exact hi
  ·simp at e
 case load t a=>
  rw[h a (by simp[Op.operands])]
  split at e
  ·rename_i p hp
   rw[tR,Option.bind_eq_some_iff]at e⊢
   obtain⟨⟨x,us⟩,e1,e2⟩:=e
   simp only[pB,js,Option.some.injEq]at e2
   exact⟨(x,us),AU e1 (fun i hi=>hw i (by rw[←e2];exact hi)) (fun i hi=>hr i (by rw[←e2];simp[hi])),by simp only[pB,js,e2]⟩
  ·simp at e
 case store t a x=>
  rw[h a (by simp[Op.operands]),h x (by simp[Op.operands])]
  split at e
  ·rw[pC,Option.bind_eq_some_iff]at e⊢
   obtain⟨⟨us,rs⟩,e1,e2⟩:=e
   simp only[pB,js,Option.some.injEq]at e2
   refine⟨(us,rs),xE e1 (fun i hi=>hw i ?_) (fun i hi=>hr i ?_),by simp only[pB,js,e2]⟩
   ·rw[←e2];exact hi
   ·rw[←e2];exact hi
  ·simp at e
 case indexAddr t x i=>
  rw[h x (by simp[Op.operands]),h i (by simp[Op.operands])]
  rw[o7 fun j hj=>hr j (by
   rw[iT,Option.bind_eq_some_iff]at e
   obtain⟨p,_,e2⟩:=e
   simp only[js,Option.some.injEq]at e2
   rw[←e2];simp[hj])]
  exact e
 case slice t x lo hi mx=>
  cases mx with
  |some _=>simp at e
  |none=>
   simp only at e⊢
   rw[h x (by simp[Op.operands]),zN (s:=s) (s':=s') fun y hy=>h y (by simp[Op.operands]at hy⊢;simp[hy]),zN (s:=s) (s':=s') fun y hy=>h y (by simp[Op.operands]at hy⊢;simp[hy])]
   rw[pD,Option.bind_eq_some_iff]at e⊢
   obtain⟨⟨p,us⟩,e1,e2⟩:=e
   simp only[pB,js,Option.some.injEq]at e2
   exact⟨(p,us),xG e1 fun i hi=>hr i (by rw[←e2];simp[hi]),by simp only[pB,js,e2]⟩
 case convert src dst x=>
  rw[h x (by simp[Op.operands])]
  split at e
  ·rename_i p hp
   rcases ac e with⟨hb,e⟩|⟨hb,e⟩
   ·rw[hb,cond_true]
    rw[pE,Option.bind_eq_some_iff]at e⊢
    obtain⟨⟨p,us⟩,e1,e2⟩:=e
    refine⟨(p,us),xH e1 fun i hi=>hw i ?_,e2⟩
    simp only[pB,js,Option.some.injEq]at e2
    rw[←e2];exact hi
   ·rw[hb,cond_false]
    rw[AV fun j hj=>hr j (by
     rw[tS,Option.bind_eq_some_iff]at e
     obtain⟨y,_,e2⟩:=e
     simp only[js,Option.some.injEq]at e2
     rw[←e2];simp[hj])]
    exact e
  ·simp at e
 case makeFunc fn first captured=>
  cases fn<;>simp only[]at e⊢ <;>try (simp at e;done)
  split at e
  ·have:captured.toList.map s'.ev=captured.toList.map s.ev:=List.map_congr_left fun x hx=>h x (by simp only[Op.operands];exact Array.mem_append_right _ (by simpa using hx))
   rw[this,gD,Option.bind_eq_some_iff]
   rw[gD,Option.bind_eq_some_iff]at e
   obtain⟨⟨p,us,rs⟩,e1,e2⟩:=e
   simp only[Hv,js,Option.some.injEq]at e2
   exact⟨(p,us,rs),rh e1 fun i hi=>hr i (by rw[←e2];simp[hi]),by simp only[Hv,js,e2]⟩
  ·simp at e
 case call c=>
  obtain⟨callee,args,argTypes⟩:=c
  have hargs:args.toList.map s'.ev=args.toList.map s.ev:=List.map_congr_left fun x hx=>h x (by simp only[Op.operands,Call.operands];exact Array.mem_append_right _ (by simpa using hx))
  have harg:∀x∈args.toList,s'.ev x=s.ev x:=fun x hx=>h x (by simp only[Op.operands,Call.operands];exact Array.mem_append_right _ (by simpa using hx))
  cases callee with
  |value f=>
   cases f<;>simp only[iC]at hs<;>try (simp at hs;done)
   rename_i f
   simp only at e⊢
   rw[hargs]
   exact AW (Nat.le_of_ble_eq_true hs) e hw hr
  |invoke _ _=>simp at e
  |builtin b=>
   cases b<;>simp only[]at e⊢ <;>try (simp at e;done)
   case len=>
    split at e
    ·rename_i x t h1 h2
     rw[harg x (by rw[h1];simp)]
     rw[Ez fun j hj=>hr j (by
      rw[xP,Option.bind_eq_some_iff]at e
      obtain⟨y,_,e2⟩:=e
      simp only[js,Option.some.injEq]at e2
      rw[←e2];simp[hj])]
     exact e
    ·simp at e
   case append=>
    split at e
    ·rename_i x y t t' h1 h2
     rw[harg x (by rw[h1];simp),harg y (by rw[h1];simp)]
     rcases ac e with⟨hb,e⟩|⟨hb,e⟩
     ·rw[hb,cond_true]
      rw[mS,Option.bind_eq_some_iff]at e⊢
      obtain⟨⟨p,us⟩,e1,e2⟩:=e
      simp only[pB,js,Option.some.injEq]at e2
      exact⟨(p,us),uX e1 (fun i hi=>hw i (by rw[←e2];exact hi)) (fun i hi=>hr i (by rw[←e2];simp[hi])),by simp only[pB,js,e2]⟩
     ·simp at e
    ·simp at e
   case max=>
    have:(args.toList.map fun x=>(s'.ev x).pv)=args.toList.map fun x=>(s.ev x).pv:=List.map_congr_left fun x hx=>by rw[harg x hx]
    rw[this];exact e
   case min=>
    have:(args.toList.map fun x=>(s'.ev x).pv)=args.toList.map fun x=>(s.ev x).pv:=List.map_congr_left fun x hx=>by rw[harg x hx]
    rw[this];exact e
end Go.Ps
