import Derived.Test.YtpnefldgohbepaaGreatPsP
namespace Go.Ps
set_option linter.unusedVariables false
variable {C:cv} {R:Type} {s s':St}
def kg (s s':St) (i:Nat):Prop:=s'.mem i=s.mem i∨(b9 s i=false∧b9 s' i=false∧(s'.mem i).map cF.frz=(s.mem i).map cF.frz)
theorem kg.frz {i:Nat} (h:kg s s' i):(s'.mem i).map cF.frz=(s.mem i).map cF.frz:=by
 rcases h with h|⟨_,_,h⟩
 ·rw[h]
 ·exact h
theorem qi (s:St) (i:Nat):s.asList (.own i)=match(s.mem i).map cF.frz with
  |some (.frows e xs)=>some ⟨e,xs⟩
  |_=>none:=by
 simp only[St.asList]
 cases s.mem i with
 |none=>rfl
 |some b=>cases b<;>rfl
theorem kg.own {i:Nat} (h:kg s s' i):s'.asList (.own i)=s.asList (.own i):=by
 rw[qi,qi,h.frz]
theorem gH {p:PV} (h:∀i∈p.owns,kg s s' i):s'.asList p=s.asList p:=by
 cases p<;>try rfl
 exact(h _ (by simp[PV.owns])).own
theorem tH {s:St} {id:Nat} (hd:b9 s id=false):s.asRow (.own id)=s.asList (.own id):=by
 unfold b9 at hd
 simp only[St.asRow]
 cases hm:s.mem id with
 |none=>rfl
 |some b=>
  rw[hm]at hd
  cases b<;>first|rfl|simp at hd
theorem tI {p:PV} (h:∀i∈p.owns,kg s s' i):s'.asRow p=s.asRow p:=by
 have h1:=gH h
 cases p<;>try exact h1
 rename_i id
 rcases h id (by simp[PV.owns])with h0|⟨h2,h3,_⟩
 ·simp only[St.asRow,h0,h1]
 ·rw[tH h2,tH h3,h1]
theorem By {p:PV} (h:∀i∈p.owns,kg s s' i):s'.dat p=s.dat p:=by
 cases p<;>try rfl
 simp only[St.dat,gH h]
theorem ez {cs:List PV} (h:∀i∈a7 cs,kg s s' i):cs.map s'.dat=cs.map s.dat:=
 List.map_congr_left fun p hp=>By fun i hi=>h i (List.mem_flatMap.2 ⟨p,hp,hi⟩)
theorem tJ (s:St) (i:Nat):lR s i=match(s.mem i).map cF.frz with
  |some (.fbox cs)=>some cs
  |_=>none:=by
 simp only[lR]
 cases s.mem i with
 |none=>rfl
 |some b=>cases b<;>rfl
theorem kg.box {i:Nat} (h:kg s s' i):lR s' i=lR s i:=by
 rw[tJ,tJ,h.frz]
theorem wk (s:St) (i:Nat) (q:eu) (n:Nat):s.look (.ptr i q) n=(lR s i).bind fun cs=>i7 cs q n:=by
 simp only[St.look,lR]
 cases s.mem i with
 |none=>rfl
 |some b=>cases b<;>rfl
theorem wl {s:St} {id:Nat} (h:b9 s id=false) (i:Int) (q:eu) (n:Nat):s.look (.elt id i q) n=match(s.mem id).map cF.frz with
  |some (.frows e xs)=>i7 (inj e (rd xs i)) q n
  |_=>none:=by
 unfold b9 at h
 simp only[St.look]
 cases hm:s.mem id with
 |none=>rfl
 |some b=>
  rw[hm]at h
  cases b<;>try rfl
  rename_i T e f xs
  simp only[Bool.not_eq_false']at h
  simp only[h,Bool.true_or,ae,Option.map_some,cF.frz]
  cases i7 (inj e (rd xs i)) q n<;>rfl
theorem wm {p:PV} {n:Nat} (h:∀i∈p.leads,kg s s' i):s'.look p n=s.look p n:=by
 cases p<;>try rfl
 case ptr id q=>rw[wk,wk,(h id (by simp[PV.leads])).box]
 case elt id i q=>
  have h:=h id (by simp[PV.leads])
  rcases h with h|⟨h3,h4,h⟩
  ·simp only[St.look,h]
  ·rw[wl h3,wl h4,h]
theorem wn {i:Nat} (h:kg s s' i):b9 s' i=b9 s i:=by
 rcases h with h|⟨h1,h2,_⟩
 ·unfold b9;rw[h]
 ·rw[h1,h2]
theorem k9:∀{τ:Ty} {f:Fl} {cs:List PV} {q:τ.den×List PV×List Nat×List Nat},bZ s τ f cs=some q→(∀i∈q.2.2.1,s'.mem i=s.mem i)→(∀i∈q.2.2.2,kg s s' i)→bZ s' τ f cs=some q:=by
 have dt:∀{τ:Ty} {cs:List PV} {q:τ.den×List PV×List Nat×List Nat},(match eU cs τ.size,bA cs τ.size with
  |some a,some b=>match bn τ (a.map s.dat)with
   |some x=>some (x,b,[],a7 a)
   |none=>none
  |_,_=>none)=some q→(∀i∈q.2.2.2,kg s s' i)→(match eU cs τ.size,bA cs τ.size with
  |some a,some b=>match bn τ (a.map s'.dat)with
   |some x=>some (x,b,[],a7 a)
   |none=>none
  |_,_=>none)=some q:=by
  intro τ cs q e h
  split at e
  ·rename_i a b ha hb
   split at e
   ·rename_i x hx
    simp only[aa]at e
    subst e
    rw[ez h,hx]
   ·simp at e
  ·simp at e
 intro τ
 induction τ with
 |list e ih=>
  intro f cs q h hU hV
  cases f with
  |own T g=>
   simp only[bZ]at h⊢
   split at h
   ·rename_i i cs
    split at h
    ·rename_i T' e' g' xs hm
     rcases Bool.eq_false_or_eq_true (Nat.beq T' T&&decide (g'=g))with hc|hc
     ·rw[hc,ae]at h
      split at h
      ·rename_i he hd
       simp only[aa]at h
       subst h
       simp only[hU i (by simp),hm,hc,ae,hd]
      ·simp at h
     ·rw[hc]at h;simp at h
    ·simp at h
   ·exact h
   ·simp at h
  |_=>exact dt h hV
 |opt e ih=>
  intro f cs q h hU hV
  cases f with
  |box=>
   simp only[bZ]at h⊢
   split at h
   ·exact h
   ·rename_i i cs
    split at h
    ·rename_i bs hm
     rcases Bool.eq_false_or_eq_true (Nat.blt (i%128) 127)with hc|hc
     ·rw[hc,ae]at h
      split at h
      ·rename_i x hx
       simp only[aa]at h
       subst h
       simp only[hU i (by simp),hm,hc,ae,ez hV,hx]
      ·simp at h
     ·rw[hc]at h;simp at h
    ·simp at h
   ·simp at h
  |_=>exact dt h hV
 |pair a b iha ihb=>
  intro f cs q h hU hV
  cases f with
  |pair f g=>
   simp only[bZ]at h⊢
   split at h
   ·rename_i x cs1 U V h1
    split at h
    ·rename_i y cs2 U' V' h2
     simp only[aa]at h
     subst h
     rw[iha h1 (fun i hi=>hU i (by simp;exact .inl hi)) (fun i hi=>hV i (by simp;exact .inl hi))]
     simp only[]
     rw[ihb h2 (fun i hi=>hU i (by simp;exact .inr hi)) (fun i hi=>hV i (by simp;exact .inr hi))]
    ·simp at h
   ·simp at h
  |_=>exact dt h hV
 |_=>intro f cs q h hU hV;exact dt h hV
theorem CG {p:PK} {x:SV} {A:Ar} (e:eW s p x=some A) (hU:∀i∈A.U++A.P,s'.mem i=s.mem i) (hV:∀i∈A.V,kg s s' i):eW s' p x=some A:=by
 cases p with
 |raw=>
  simp only[eW]at e⊢
  split at e
  ·simp only[aa]at e;subst e;rw[By hV]
  ·simp at e
 |val τ=>
  simp only[eW]at e⊢
  split at e
  ·split at e
   ·rename_i d hd
    split at e
    ·rename_i y hy
     simp only[aa]at e;subst e
     rw[ez hV,hd];simp only[hy]
    ·simp at e
   ·simp at e
  ·simp at e
 |give τ f=>
  simp only[eW]at e⊢
  split at e
  ·split at e
   ·rename_i d U V hd
    split at e
    ·rename_i y hy
     simp only[aa]at e;subst e
     rw[k9 hd (fun i hi=>hU i (by simp;exact hi)) hV];simp only[hy]
    ·simp at e
   ·simp at e
  ·simp at e
 |lend τ f=>
  simp only[eW]at e⊢
  split at e
  ·split at e
   ·rename_i d U V hd
    split at e
    ·rename_i y hy
     simp only[aa]at e;subst e
     rw[k9 hd (fun i hi=>hU i (by simp;exact hi)) hV];simp only[hy]
    ·simp at e
   ·simp at e
  ·simp at e
 |ro τ=>
  simp only[eW]at e⊢
  split at e
  ·rename_i cs hcs
   split at e
   ·rename_i d hd
    simp only[aa]at e;subst e
    rw[wm fun i hi=>hV i (by simp;exact .inl hi),hcs]
    simp only[]
    rw[ez fun i hi=>hV i (by simp;exact .inr hi),hd]
   ·simp at e
  ·simp at e
 |var τ f=>
  simp only[eW]at e⊢
  split at e
  ·rename_i id o hx
   split at e
   ·rename_i bs hm
    split at e
    ·rename_i cs hcs
     split at e
     ·rename_i d U V hd
      simp only[aa]at e;subst e
      rw[hU id (by simp),hm]
      simp only[hcs]
      rw[k9 hd (fun i hi=>hU i (by simp;exact .inl hi)) hV]
     ·simp at e
    ·simp at e
   ·simp at e
  ·simp at e
 |dvar τ f=>
  simp only[eW]at e⊢
  split at e
  ·rename_i i0 hx
   split at e
   ·rename_i id hm0
    split at e
    ·rename_i bs hm
     split at e
     ·rename_i cs hcs
      split at e
      ·rename_i d U V hd
       simp only[aa]at e;subst e
       rw[(hV i0 (by simp)).box,hm0]
       simp only[]
       rw[hU id (by simp),hm]
       simp only[hcs]
       rw[k9 hd (fun i hi=>hU i (by simp;exact .inl hi)) (fun i hi=>hV i (by simp;exact .inr hi))]
      ·simp at e
     ·simp at e
    ·simp at e
   ·simp at e
  ·simp at e
theorem qj:∀{ps:List PK} {xs:List SV} {A:Ar},cQ s ps xs=some A→(∀i∈A.U++A.P,s'.mem i=s.mem i)→(∀i∈A.V,kg s s' i)→cQ s' ps xs=some A
 | [],[],A,e,_,_=>e
 | [],_::_,A,e,_,_=>by simp[cQ]at e
 |_::_,[],A,e,_,_=>by simp[cQ]at e
 |p::ps,x::xs,A,e,hU,hV=>by
  simp only[cQ]at e⊢
  split at e
  ·rename_i a b ha hb
   simp only[aa]at e;subst e
   rw[CG ha (fun i hi=>hU i (by simp at hi⊢;rcases hi with hi|hi<;>simp[hi])) (fun i hi=>hV i (by simp;exact .inl hi)),
    qj hb (fun i hi=>hU i (by simp at hi⊢;rcases hi with hi|hi<;>simp[hi])) (fun i hi=>hV i (by simp;exact .inr hi))]
  ·simp at e
theorem CH {p:PK} {x:SV} {q:sL×List Nat} (e:t6 s p x=some q) (h:∀i∈q.2,kg s s' i):t6 s' p x=some q:=by
 cases p<;>simp only[t6]at e⊢ <;>try (simp at e;done)
 case val τ=>
  split at e
  ·split at e
   ·rename_i d hd
    split at e
    ·rename_i y hy
     simp only[aa]at e;subst e
     rw[ez h,hd];simp only[hy]
    ·simp at e
   ·simp at e
  ·simp at e
 case ro τ=>
  split at e
  ·rename_i id hx
   split at e
   ·rename_i cs hcs
    split at e
    ·rename_i d hd
     simp only[aa]at e;subst e
     rw[(h id (by simp)).box,hcs]
     simp only[]
     rw[ez fun i hi=>h i (by simp[hi]),hd]
    ·simp at e
   ·simp at e
  ·exact e
  ·simp at e
 case var τ f=>exact e
 case dvar τ f=>exact e
theorem qk:∀{ps:List PK} {xs:List SV} {q:List sL×List Nat},gq s ps xs=some q→(∀i∈q.2,kg s s' i)→gq s' ps xs=some q
 | [],[],q,e,_=>e
 | [],_::_,q,e,_=>by simp[gq]at e
 |_::_,[],q,e,_=>by simp[gq]at e
 |p::ps,x::xs,q,e,h=>by
  simp only[gq]at e⊢
  split at e
  ·rename_i c i cs is hc hcs
   simp only[aa]at e;subst e
   rw[CH hc fun j hj=>h j (by simp;exact .inl hj),qk hcs fun j hj=>h j (by simp;exact .inr hj)]
  ·simp at e
theorem ql {e:Ty}:∀{ps:List (Nat×SV)} {i:Nat},(∀j∈a7 (bK ps),kg s s' j)→jC e s' i ps=jC e s i ps
 | [],_,_=>rfl
 |(j,x)::ps,i,h=>by
  simp only[jC]
  refine c9 _ _ _ _ _ ?_ rfl
  cases hx:x.cells with
  |none=>rfl
  |some c=>
   simp only[]
   simp only[bK,hx,Option.getD_some,a7,List.flatMap_append,List.mem_append]at h
   rw[ez fun k hk=>h k (.inl hk),ql fun k hk=>h k (.inr hk)]
theorem y7 {e:Ty} {y:PV} (h:∀i∈y.owns,kg s s' i):mn s' e y=mn s e y:=by
 have h1:=gH h
 unfold mn
 cases y<;>first|rfl|simp only[h1]
theorem CI {y:PV} (h:∀i∈y.owns,kg s s' i):lP s' y=lP s y:=by
 cases y<;>try rfl
 rename_i id
 have h:=h id (by simp[PV.owns])
 simp only[lP]
 rcases h with h|⟨h1,h2,_⟩
 ·rw[h]
 ·have key:∀s:St,b9 s id=false→(match s.mem id with
   |some (.rows _ _ f _)=>bif f.isNo then[]else[cj.frz id]
   |_=>[])=[]:=by
   intro s hd
   unfold b9 at hd
   cases hm:s.mem id with
   |none=>rfl
   |some b=>
    rw[hm]at hd
    cases b<;>try rfl
    rename_i T e f xs
    simp only[Bool.not_eq_false']at hd
    simp only[hd,ae]
  exact(key s' h2).trans (key s h1).symm
theorem di {id:Nat} {x:Option R} (h:s'.mem id=s.mem id):dc s' id x=dc s id x:=by
 unfold dc;rw[h]
theorem l8 {new:List PV} (h0:a7 new=[]) (cs:List PV) (q:eu) (n:Nat):iC s'.dat cs q n new=iC s.dat cs q n new:=by
 have:=ez (s:=s) (s':=s') (cs:=new) fun i hi=>by rw[h0]at hi;cases hi
 unfold iC
 cases q with
 | «at»o=>rfl
 |arr o e m j q=>simp only[this]
theorem GI (s:St) (p:PV):(s.dat p).owns=[]:=by
 cases p<;>try rfl
 case own id=>simp only[St.dat];cases s.asList (.own id)<;>rfl
 case fn f caps=>simp only[St.dat];generalize List.all caps _=b;cases b<;>rfl
theorem CJ (s:St) (cs:List PV):a7 (cs.map s.dat)=[]:=by
 induction cs with
 |nil=>rfl
 |cons c cs ih=>simp only[List.map_cons,a7,List.flatMap_cons]at ih⊢;rw[GI,ih];rfl
theorem y8 {t:TypeId} {p:PV} {x:SV} {us:List cj} {rs:List Nat} (e:iF C s t p x gm=some (us,rs)) (hw:∀i∈bD us,s'.mem i=s.mem i) (hr:∀i∈updF us++rs,kg s s' i):iF C s' t p x gm=some (us,rs):=by
 rw[←e]
 unfold iF at e⊢
 split at e
 ·rename_i I new hI hnew
  rcases ah e with⟨hc,e⟩|⟨_,e⟩
  ·simp only[hc,ae]
   split at e
   ·rename_i id q _
    split at e
    ·rename_i cs hm
     have hid:id∈bD us:=by
      split at e
      ·split at e
       ·simp only[gm,aa,ay]at e;rw[←e.1];simp[bD]
       ·simp at e
      ·rcases ah e with⟨_,e⟩|⟨_,e⟩
       ·split at e
        ·simp only[gm,aa,ay]at e;rw[←e.1];simp[bD]
        ·simp at e
       ·simp at e
     simp only[hw id hid,hm]
     split at e
     ·rfl
     ·rcases ah e with⟨hn,e⟩|⟨_,e⟩
      ·have:=l8 (s:=s) (s':=s') (show a7 new=[] by simpa using hn)
       simp only[this]
      ·simp at e
    ·simp at e
   ·rename_i id i q _
    split at e
    ·rename_i T el f xs hm
     rcases ah e with⟨hc2,e⟩|⟨hc2,e⟩
     ·split at e
      ·rename_i cs' hcs
       split at e
       ·rename_i x' hx'
        simp only[gm,aa,ay]at e
        have hid:id∈bD us:=by
         rw[←e.1]
         have:∀(l:List Nat) (us:List cj),bD (l.map .frz++us)=bD us:=fun l us=>by induction l with|nil=>rfl|cons _ _ ih=>simpa[bD]using ih
         simp[C0,this,bD]
        simp only[hw id hid,hm,hc2,ae]
        rw[ez fun i hi=>hr i (by rw[←e.2];simp[hi]),l8 (s:=s) (CJ s new)];simp only[hcs,hx']
       ·simp at e
      ·simp at e
     ·have hd:(bif (a7 new).isEmpty then iE el f (rd xs i) q I.size (new.map s'.dat)else none)=bif (a7 new).isEmpty then iE el f (rd xs i) q I.size (new.map s.dat)else none:=by
       cases hn:(a7 new).isEmpty with
       |false=>rfl
       |true=>rw[ez (s:=s) (s':=s') fun i hi=>by rw[List.isEmpty_iff.1 hn]at hi;simp at hi]
      have hid:id∈bD us:=by
       split at e
       ·simp only[gm,aa,ay]at e;rw[←e.1];simp[bD]
       ·split at e
        ·rcases ah e with⟨_,e⟩|⟨_,e⟩
         ·split at e
          ·simp only[gm,aa,ay]at e;rw[←e.1];simp[bD]
          ·simp at e
         ·simp at e
        ·simp at e
      simp only[hw id hid,hm,hc2,ac,hd]
    ·rename_i T el f xs i' cs0 hm
     rcases ah e with⟨hc2,e⟩|⟨_,e⟩
     ·have hid:id∈bD us:=by
       split at e
       ·split at e
        ·simp only[gm,aa,ay]at e;rw[←e.1];simp[bD]
        ·simp at e
       ·rcases ah e with⟨_,e⟩|⟨_,e⟩
        ·split at e
         ·simp only[gm,aa,ay]at e;rw[←e.1];simp[bD]
         ·simp at e
        ·simp at e
      simp only[hw id hid,hm,hc2,ae]
      split at e
      ·rfl
      ·rcases ah e with⟨hn,e⟩|⟨_,e⟩
       ·have:=l8 (s:=s) (s':=s') (show a7 new=[] by simpa using hn)
        simp only[this]
       ·simp at e
     ·simp at e
    ·simp at e
   ·simp at e
  ·simp at e
 ·simp at e
theorem y9 {l:List (Nat×cF)} (h:∀p∈l,s'.mem p.1=s.mem p.1):gP s' l=gP s l:=by
 unfold gP
 induction l with
 |nil=>rfl
 |cons p l ih=>simp only[List.all_cons];rw[h p (by simp),ih fun q hq=>h q (by simp[hq])]
theorem CK {id:Nat} {t:TypeId} {p:PV} {x:SV} {us:List cj} (e:lO C s id t p gm=some (x,us)) (hw:∀i∈bD us,s'.mem i=s.mem i) (hr:∀i∈p.leads,kg s s' i):lO C s' id t p gm=some (x,us):=by
 unfold lO at e⊢
 split at e
 ·rename_i I hI
  rw[wm hr]
  split at e
  ·exact e
  ·rw[←e]
   unfold qX at e⊢
   split at e
   ·rename_i j i q _
    split at e
    ·rename_i T e1 f xs hm
     rcases ah e with⟨hc,e⟩|⟨_,e⟩
     ·split at e
      ·rename_i cs hcs
       have hus: .set j .dead::(cY (aZ id e1 f (rd xs i) 0).2.1++[.set j (.opn T e1 f xs i (aZ id e1 f (rd xs i) 0).1)])=us:=by
        rcases nI e with⟨_,e⟩|⟨_,c,_,_,e⟩
        ·simp only[gm,aa,ay]at e;exact e.2
        ·simp only[gm,aa,ay]at e;exact e.2
       have hWs:∀(l:List (Nat×cF)) (us:List cj),bD (cY l++us)=l.map (·.1)++bD us:=fun l us=>by
        induction l with
        |nil=>rfl
        |cons u a ih=>simpa[bD,cY]using ih
       rw[←hus]at hw
       simp only[bD,hWs]at hw
       simp only[hw j (by simp),hm]
       rw[y9 fun p hp=>hw p.1 (List.mem_cons_of_mem _ (List.mem_append_left _ (List.mem_map.2 ⟨p,hp,rfl⟩)))]
       simp only[hcs]
      ·simp at e
     ·simp at e
    ·rename_i hm
     have hj:s'.mem j=s.mem j:=by
      rcases hr j (by simp[PV.leads])with h|⟨h,_⟩
      ·exact h
      ·unfold b9 at h;rw[hm]at h;simp at h
     simp only[hj,hm]
    ·simp at e
   ·simp at e
 ·simp at e
theorem GJ {t:TypeId} {x:PV} {k:PV→Option R} (h:∀i∈x.owns,kg s s' i):tb C s' t x k=tb C s t x k:=by
 have h1:=tI h
 unfold tb
 cases x<;>first|rfl|simp only[h1]
theorem CL {src dst:TypeId} {x:PV} {k:PV→Option R} (h:∀i∈x.owns,kg s s' i):lQ C s' src dst x k=lQ C s src dst x k:=by
 have h1:=gH h
 unfold lQ
 cases C.ti src<;>cases C.ti dst<;>cases x<;>first|rfl|simp only[h1]
theorem qm {t:TypeId} {x i:PV} {k:PV→Option R} (h:∀j∈x.owns,kg s s' j):cK C s' t x i k=cK C s t x i k:=by
 unfold cK
 cases i<;>try rfl
 cases x with
 |own id=>have h1:=tI h;simp only[h1]
 |ptr id p=>cases p<;>rfl
 |elt id j p=>cases p<;>rfl
 |_=>rfl
theorem GK (l:List Nat) (us:List cj):bD (l.map .frz++us)=bD us:=by induction l with|nil=>rfl|cons _ _ ih=>simpa[bD]using ih
theorem mH {x:Option PV} {d:Int} {k:Int→Option R} {r:R} (e:jD x d k=some r):∃n,k n=some r:=by
 unfold jD at e;split at e
 ·exact⟨_,e⟩
 ·exact⟨_,e⟩
 ·simp at e
theorem za {t:TypeId} {x:PV} {lo hi:Option PV} {p:PV} {us:List cj} (e:iG C s t x lo hi gm=some (p,us)) (hr:∀i∈updF us,kg s s' i):iG C s' t x lo hi gm=some (p,us):=by
 have hx:∀i∈x.owns,kg s s' i:=by
  intro i hi
  cases x<;>simp only[PV.owns,List.not_mem_nil,List.mem_singleton]at hi
  subst hi
  refine hr i ?_
  unfold iG at e
  simp only[]at e
  split at e
  ·rcases ah e with⟨_,e⟩|⟨_,e⟩
   ·obtain⟨l,e⟩:=mH e
    obtain⟨m,e⟩:=mH e
    rcases ah e with⟨_,e⟩|⟨_,e⟩
    ·simp only[gm,aa,ay]at e;rw[←e.2];simp[PV.owns,updF]
    ·simp at e
   ·simp at e
  ·simp at e
 have h1:=gH hx
 rw[←e]
 unfold iG
 cases x<;>first|rfl|simp only[h1]
theorem qn {id:Nat} {t:TypeId} {n p:PV} {us:List cj} (e:cZ C s id t n gm=some (p,us)) (hw:∀i∈bD us,s'.mem i=s.mem i):cZ C s' id t n gm=some (p,us):=by
 rw[←e]
 unfold cZ at e⊢
 split at e
 ·split at e
  ·split at e
   ·rcases ah e with⟨_,e⟩|⟨_,e⟩
    ·have e1:=(bo e).2
     rcases ah e1 with⟨_,e1⟩|⟨_,e1⟩
     ·simp only[gm,aa,ay]at e1
      rw[di (hw id (by rw[←e1.2];simp[bD]))]
     ·simp at e1
    ·simp at e
   ·simp at e
  ·simp at e
 ·simp at e
theorem zb {id:Nat} {src dst:TypeId} {x p:PV} {us:List cj} (e:iH C s id src dst x gm=some (p,us)) (hw:∀i∈bD us,s'.mem i=s.mem i):iH C s' id src dst x gm=some (p,us):=by
 rw[←e]
 unfold iH at e⊢
 split at e
 ·rcases ah e with⟨hb,e⟩|⟨_,e⟩
  ·rw[hb,ae,ae]
   split at e
   ·have e1:=(bo e).2
    rcases ah e1 with⟨_,e1⟩|⟨_,e1⟩
    ·simp only[gm,aa,ay]at e1
     rw[di (hw id (by rw[←e1.2];simp[bD]))]
    ·simp at e1
   ·simp at e
  ·simp at e
 ·simp at e
theorem GL {id:Nat} {e:TypeId} {τ:Ty} {x y:PV} (hy:∀j∈y.owns,kg s s' j) (hx:∀l∈x.owns,s'.mem l=s.mem l):pp s' id e τ x y=pp s id e τ x y:=by
 cases y<;>try rfl
 rename_i j
 have hx':∀l,x= .own l→s'.mem l=s.mem l:=fun l hl=>hx l (by rw[hl];simp[PV.owns])
 rcases hy j (by simp[PV.owns])with h|⟨h1,h2,_⟩
 ·unfold pp
  simp only[h]
  cases x<;>try rfl
  simp only[hx' _ rfl]
 ·have key:∀s:St,b9 s j=false→pp s id e τ x (.own j)=none:=by
   intro s hd
   unfold b9 at hd
   unfold pp
   simp only[]
   cases hm:s.mem j with
   |none=>rfl
   |some b=>
    rw[hm]at hd
    cases b<;>first|rfl|simp at hd|skip
    rename_i T e0 f xs
    simp[hd]
  rw[key s h1,key s' h2]
theorem GM {id m:Nat} {e:TypeId} {τ:Ty} {x y:PV} {us:List cj} (h:pp s id e τ x y=some (m,us)):(∀i∈y.owns,i∈bD us)∧(∀i∈x.owns,i∈bD us)∧id∈bD us:=by
 unfold pp at h
 split at h
 ·split at h
  ·rcases ah h with⟨_,h⟩|⟨_,h⟩
   ·split at h
    ·split at h
     ·simp only[aa,ay]at h;rw[←h.2];simp[PV.owns,bD]
     ·split at h
      ·rcases ah h with⟨_,h⟩|⟨_,h⟩
       ·split at h
        ·simp only[aa,ay]at h;rw[←h.2];simp[PV.owns,bD]
        ·simp at h
       ·simp at h
      ·simp at h
     ·simp at h
    ·simp at h
   ·simp at h
  ·rcases ah h with⟨_,h⟩|⟨_,h⟩
   ·split at h
    ·split at h
     ·split at h
      ·rcases ah h with⟨_,h⟩|⟨_,h⟩
       ·split at h
        ·simp only[aa,ay]at h;rw[←h.2];simp[PV.owns,bD]
        ·simp at h
       ·simp at h
      ·simp at h
     ·simp at h
    ·simp at h
   ·simp at h
  ·simp at h
 ·simp at h
theorem wo {id:Nat} {sl:TypeId} {x y p:PV} {us:List cj} (e:eJ C s id sl x y gm=some (p,us)) (hw:∀i∈bD us,s'.mem i=s.mem i) (hy:∀i∈y.owns,kg s s' i):eJ C s' id sl x y gm=some (p,us):=by
 rw[←e]
 have hu:=CI hy
 have hwm:∀vs:List cj,∀i∈bD vs,i∈bD (lP s y++vs):=by
  intro vs i hi
  have:∀a b:List cj,bD (a++b)=bD a++bD b:=fun a b=>by
   induction a with
   |nil=>rfl
   |cons u a ih=>cases u<;>simp[bD,ih]
  rw[this];simp[hi]
 have hwa:∀a b:List cj,bD (a++b)=bD a++bD b:=fun a b=>by
  induction a with
  |nil=>rfl
  |cons u a ih=>cases u<;>simp[bD,ih]
 have hxw:∀l∈x.owns,s'.mem l=s.mem l:=by
  intro l hl
  refine hw l ?_
  unfold eJ at e
  split at e
  ·split at e
   ·rcases ah e with⟨hb,e⟩|⟨_,e⟩
    ·split at e
     ·rename_i had
      have e1:=(bo e).2
      rcases ah e1 with⟨_,e1⟩|⟨_,e1⟩
      ·simp only[gm,aa,ay]at e1
       rw[←e1.2];exact(GM had).2.1 l hl
      ·simp at e1
     ·split at e
      ·split at e
       ·simp[PV.owns]at hl
       ·split at e
        ·rcases ah e with⟨_,e⟩|⟨_,e⟩
         ·split at e
          ·have e1:=(bo e).2
           rcases ah e1 with⟨_,e1⟩|⟨_,e1⟩
           ·simp only[gm,aa,ay]at e1
            simp only[PV.owns,List.mem_singleton]at hl
            rw[←e1.2,hwa,hl];simp[bD]
           ·simp at e1
          ·simp at e
         ·simp at e
        ·simp at e
       ·simp at e
      ·simp at e
    ·simp at e
   ·simp at e
  ·simp at e
 unfold eJ at e⊢
 split at e
 ·split at e
  ·rcases ah e with⟨hb,e⟩|⟨_,e⟩
   ·rw[y7 hy,GL hy hxw]
    simp only[hb,ae]
    split at e
    ·rename_i had
     have e1:=(bo e).2
     rcases ah e1 with⟨_,e1⟩|⟨_,e1⟩
     ·simp only[gm,aa,ay]at e1
      rw[di (hw id (by rw[←e1.2];exact(GM had).2.2))]
     ·simp at e1
    rename_i hno0
    clear hno0
    split at e
    ·split at e
     ·have e1:=(bo e).2
      rcases ah e1 with⟨_,e1⟩|⟨_,e1⟩
      ·simp only[gm,aa,ay]at e1
       rw[di (hw id (by rw[←e1.2];exact hwm _ _ (by simp[bD]))),hu]
      ·simp at e1
     ·rename_i j _
      split at e
      ·rename_i T e' f xs hm
       rcases ah e with⟨hc,e⟩|⟨_,e⟩
       ·split at e
        ·rename_i h hd
         have e1:=(bo e).2
         rcases ah e1 with⟨_,e1⟩|⟨_,e1⟩
         ·simp only[gm,aa,ay]at e1
          have hj:s'.mem j=s.mem j:=hw j (by rw[←e1.2];exact hwm _ _ (by simp[bD]))
          simp only[hj,hm,hc,ae,hd]
          rw[di (hw id (by rw[←e1.2];exact hwm _ _ (by simp[bD]))),hu]
         ·simp at e1
        ·simp at e
       ·simp at e
      ·simp at e
     ·simp at e
    ·simp at e
   ·simp at e
  ·simp at e
 ·simp at e
theorem sT {f:FuncId} {xs:List SV} {p:PV} {us:List cj} {rs:List Nat} (e:d7 C s f xs jY=some (p,us,rs)) (hr:∀i∈rs,kg s s' i):d7 C s' f xs jY=some (p,us,rs):=by
 rw[←e]
 unfold d7 at e⊢
 split at e
 ·split at e
  ·split at e
   ·rename_i cs is hcs
    rcases ah e with⟨_,e⟩|⟨_,e⟩
    ·simp only[jY,aa,ay]at e
     rw[qk hcs fun i hi=>hr i (by rw[←e.2.2];exact hi)]
    ·simp at e
   ·simp at e
  ·simp at e
 ·rfl
theorem tK {env:C.Env} {id:Nat} {f:FuncId} {xs:List SV} {q:SV×List cj×List Nat} (hs:(C.alts f).length≤1) (e:ke C env id s f xs jY=some q) (hw:∀i∈bD q.2.1,s'.mem i=s.mem i) (hr:∀i∈updF q.2.1++q.2.2,kg s s' i):ke C env id s' f xs jY=some q:=by
 unfold ke at e⊢
 match h:C.alts f,hs with
 | [],_=>rw[h]at e;simp[kF]at e
 | [g],_=>
  rw[h]at e
  simp only[kF]at e⊢
  split at e
  ·rename_i sg hsg
   split at e
   ·rename_i A hA
    rw[mM]at e
    rcases ah e with⟨hc,e⟩|⟨_,e⟩
    ·rw[Option.bind_eq_some_iff]at e
     obtain⟨r,hr0,e⟩:=e
     have e':=e
     rw[Option.bind_eq_some_iff]at e
     obtain⟨q',hq,e⟩:=e
     have hqq:q'=q:=by simpa using e
     subst hqq
     unfold wM at hq
     generalize hj:aZ id (C.resTy g) sg.resFl r 0=qq at hq
     obtain⟨cs,new,j⟩:=qq
     simp only[]at hq
     split at hq
     ·rename_i x back hx hb
      rcases ah hq with⟨hd,hq⟩|⟨_,hq⟩
      ·split at hq
       ·rename_i us hus
        simp only[aa]at hq
        subst hq
        simp only[]at hw hr
        have hWa:∀a b:List cj,bD (a++b)=bD a++bD b:=fun a b=>by
         induction a with
         |nil=>rfl
         |cons u a ih=>cases u<;>simp[bD,ih]
        have hWd:∀l:List Nat,bD (l.map (.set · .dead))=l:=fun l=>by
         induction l with
         |nil=>rfl
         |cons u a ih=>simpa[bD]using ih
        have hWs:∀l:List (Nat×cF),bD (cY l)=l.map (·.1):=fun l=>by
         induction l with
         |nil=>rfl
         |cons u a ih=>simpa[bD,cY]using ih
        rw[hWa,hWa,hWa,hWd,hWs]at hw
        have hUP:∀i∈A.U++A.P,s'.mem i=s.mem i:=fun i hi=>hw i (List.mem_append_left _ (List.mem_append_right _ (List.mem_append_left _ hi)))
        have hA':=qj hA hUP fun i hi=>hr i (List.mem_append_right _ hi)
        rw[hA']
        simp only[]
        rw[mM,hc,ae,hr0,af]
        unfold wM
        rw[hj]
        simp only[hx,hb]
        have hf:gP s' new=gP s new:=by
         unfold gP
         have:∀l:List (Nat×cF),(∀p∈l,s'.mem p.1=s.mem p.1)→(l.all fun p=>match s'.mem p.1 with|none=>true|some _=>false)=l.all fun p=>match s.mem p.1 with|none=>true|some _=>false:=fun l hl=>by
          induction l with
          |nil=>rfl
          |cons p l ih=>simp only[List.all_cons];rw[hl p (by simp),ih fun q hq=>hl q (by simp[hq])]
         exact this new fun p hp=>hw p.1 (List.mem_append_left _ (List.mem_append_right _ (List.mem_append_right _ (List.mem_map.2 ⟨p,hp,rfl⟩))))
        rw[hf,hd]
        simp only[BK,az]at hc
        have hbk:∀i∈qY A.bk,s.mem i=s'.mem i:=fun i hi=>by
         have:=List.all_eq_true.1 hc.2 i hi
         obtain⟨k,hk,hki⟩:=List.any_eq_true.1 this
         rw[aM hki]
         exact(hUP k hk).symm
        rw[←oD hbk,hus]
        rfl
       ·simp at hq
      ·simp at hq
     ·simp at hq
    ·simp at e
   ·simp at e
  ·simp at e
 |_::_::_,hs=>simp at hs
theorem Bz {ps:List (Nat×Operand)} (h:∀x∈ps.map (·.2),s'.ev x=s.ev x):s'.evs ps=s.evs ps:=
 List.map_congr_left fun p hp=>by rw[h p.2 (List.mem_map.2 ⟨p,hp,rfl⟩)]
theorem BA {x:Option Operand} (h:∀y∈x.toArray,s'.ev y=s.ev y):(x.map fun o=>(s'.ev o).pv)=x.map fun o=>(s.ev o).pv:=by
 cases x with
 |none=>rfl
 |some o=>simp only[Option.map_some];rw[h o (by simp)]
theorem LO {env:C.Env} {id:Nat} {op:Op} {q:SV×List cj×List Nat} (hs:jg C op=true) (h:∀x∈op.operands,s'.ev x=s.ev x) (e:zI C env id op s jY=some q)
  (hw:∀i∈bD q.2.1,s'.mem i=s.mem i) (hr:∀i∈updF q.2.1++q.2.2,kg s s' i):zI C env id op s' jY=some q:=by
 cases op<;>simp only[zI]at e⊢ <;>try (simp at e;done)
 case move x=>rw[h x (by simp[Op.operands])];exact e
 case assign x=>rw[h x (by simp[Op.operands])];exact e
 case pick c x y=>rw[h c (by simp[Op.operands]),h x (by simp[Op.operands]),h y (by simp[Op.operands])];exact e
 case binOp op t x y _=>rw[h x (by simp[Op.operands]),h y (by simp[Op.operands])];exact e
 case unOp op _ x=>rw[h x (by simp[Op.operands])];exact e
 case fieldAddr t x f=>rw[h x (by simp[Op.operands])];exact e
 case field t x f=>rw[h x (by simp[Op.operands])];exact e
 case index t x i=>rw[h x (by simp[Op.operands]),h i (by simp[Op.operands])];exact e
 case nilCheck x=>rw[h x (by simp[Op.operands])];exact e
 case extract t i=>rw[h t (by simp[Op.operands])];exact e
 case build t ps=>rw[Bz fun x hx=>h x (by simpa[Op.operands]using hx)];exact e
 case alloc t=>
  split at e
  ·have e1:=(bo e).2
   simp only[jY,aa]at e1
   rw[di (hw id (by rw[←e1];simp[bD]))];exact e
  ·simp at e
 case box t x=>
  rw[h x (by simp[Op.operands])]
  split at e
  ·rcases ah e with⟨hb,e⟩|⟨_,e⟩
   ·have e1:=(bo e).2
    simp only[jY,aa]at e1
    rw[hb,ae,di (hw id (by rw[←e1];simp[bD]))];exact e
   ·simp at e
  ·simp at e
 case buildSlice t n ps=>
  rw[Bz fun x hx=>h x (by simpa[Op.operands]using hx)]
  split at e
  ·split at e
   ·split at e
    ·rename_i b hdp
     rcases ah e with⟨hb,e⟩|⟨_,e⟩
     ·have e1:=(bo e).2
      simp only[jY,aa]at e1
      simp only[hb,ae]
      rw[di (hw id (by rw[←e1];simp[bD]))];exact e
     ·simp at e
    split at e
    ·rename_i xs hxs
     rcases ah e with⟨hb,e⟩|⟨_,e⟩
     ·have e1:=(bo e).2
      simp only[jY,aa]at e1
      have hag:∀j∈a7 (bK (s.evs ps.toList)),kg s s' j:=fun j hj=>hr j (by rw[←e1];simp[hj])
      rw[ql hag,hxs]
      simp only[hb,ae]
      rw[di (hw id (by rw[←e1];simp only[C0];rw[GK];simp[bD]))];exact e
     ·simp at e
    ·simp at e
   ·simp at e
  ·simp at e
 case makeSlice t n c=>
  rw[h n (by simp[Op.operands])]
  rcases ah e with⟨hb,e⟩|⟨_,e⟩
  ·rw[hb,ae]
   rw[jx,Option.bind_eq_some_iff]at e⊢
   obtain⟨⟨p,us⟩,e1,e2⟩:=e
   refine⟨(p,us),qn e1 fun i hi=>hw i ?_,e2⟩
   simp only[un2,jY,aa]at e2
   rw[←e2];exact hi
  ·simp at e
 case load t a=>
  rw[h a (by simp[Op.operands])]
  split at e
  ·rename_i p hp
   rw[vh,Option.bind_eq_some_iff]at e⊢
   obtain⟨⟨x,us⟩,e1,e2⟩:=e
   simp only[un2,jY,aa]at e2
   exact⟨(x,us),CK e1 (fun i hi=>hw i (by rw[←e2];exact hi)) (fun i hi=>hr i (by rw[←e2];simp[hi])),by simp only[un2,jY,e2]⟩
  ·simp at e
 case store t a x=>
  rw[h a (by simp[Op.operands]),h x (by simp[Op.operands])]
  split at e
  ·rw[qJ,Option.bind_eq_some_iff]at e⊢
   obtain⟨⟨us,rs⟩,e1,e2⟩:=e
   simp only[un2,jY,aa]at e2
   refine⟨(us,rs),y8 e1 (fun i hi=>hw i ?_) (fun i hi=>hr i ?_),by simp only[un2,jY,e2]⟩
   ·rw[←e2];exact hi
   ·rw[←e2];exact hi
  ·simp at e
 case indexAddr t x i=>
  rw[h x (by simp[Op.operands]),h i (by simp[Op.operands])]
  rw[qm fun j hj=>hr j (by
   rw[jy,Option.bind_eq_some_iff]at e
   obtain⟨p,_,e2⟩:=e
   simp only[jY,aa]at e2
   rw[←e2];simp[hj])]
  exact e
 case slice t x lo hi mx=>
  cases mx with
  |some _=>simp at e
  |none=>
   simp only at e⊢
   rw[h x (by simp[Op.operands]),BA (s:=s) (s':=s') fun y hy=>h y (by simp[Op.operands]at hy⊢;simp[hy]),BA (s:=s) (s':=s') fun y hy=>h y (by simp[Op.operands]at hy⊢;simp[hy])]
   rw[qK,Option.bind_eq_some_iff]at e⊢
   obtain⟨⟨p,us⟩,e1,e2⟩:=e
   simp only[un2,jY,aa]at e2
   exact⟨(p,us),za e1 fun i hi=>hr i (by rw[←e2];simp[hi]),by simp only[un2,jY,e2]⟩
 case convert src dst x=>
  rw[h x (by simp[Op.operands])]
  split at e
  ·rename_i p hp
   rcases ah e with⟨hb,e⟩|⟨hb,e⟩
   ·rw[hb,ae]
    rw[qL,Option.bind_eq_some_iff]at e⊢
    obtain⟨⟨p,us⟩,e1,e2⟩:=e
    refine⟨(p,us),zb e1 fun i hi=>hw i ?_,e2⟩
    simp only[un2,jY,aa]at e2
    rw[←e2];exact hi
   ·rw[hb,ac]
    rw[CL fun j hj=>hr j (by
     rw[vj,Option.bind_eq_some_iff]at e
     obtain⟨y,_,e2⟩:=e
     simp only[jY,aa]at e2
     rw[←e2];simp[hj])]
    exact e
  ·simp at e
 case makeFunc fn first captured=>
  cases fn<;>simp only[]at e⊢ <;>try (simp at e;done)
  split at e
  ·have:captured.toList.map s'.ev=captured.toList.map s.ev:=List.map_congr_left fun x hx=>h x (by simp only[Op.operands];exact Array.mem_append_right _ (by simpa using hx))
   rw[this,ik,Option.bind_eq_some_iff]
   rw[ik,Option.bind_eq_some_iff]at e
   obtain⟨⟨p,us,rs⟩,e1,e2⟩:=e
   simp only[JG,jY,aa]at e2
   exact⟨(p,us,rs),sT e1 fun i hi=>hr i (by rw[←e2];simp[hi]),by simp only[JG,jY,e2]⟩
  ·simp at e
 case call c=>
  obtain⟨callee,args,argTypes⟩:=c
  have hargs:args.toList.map s'.ev=args.toList.map s.ev:=List.map_congr_left fun x hx=>h x (by simp only[Op.operands,Call.operands];exact Array.mem_append_right _ (by simpa using hx))
  have harg:∀x∈args.toList,s'.ev x=s.ev x:=fun x hx=>h x (by simp only[Op.operands,Call.operands];exact Array.mem_append_right _ (by simpa using hx))
  cases callee with
  |value f=>
   have fn:∀x:SV,JH C env id s x (args.toList.map s.ev) jY=some q→JH C env id s' x (args.toList.map s.ev) jY=some q:=by
    intro x e
    unfold JH at e⊢
    split at e
    ·split at e
     ·rcases ah e with⟨hc,e⟩|⟨_,e⟩
      ·simp only[hc,ae]
       exact tK (bC hc) e hw hr
      ·simp at e
     ·simp at e
    ·simp at e
   have hf:s'.ev f=s.ev f:=h f (by simp[Op.operands,Call.operands])
   cases f
   case func f=>
    simp only[jg]at hs
    simp only at e⊢
    rw[hargs]
    exact tK (bC hs) e hw hr
   all_goals
    simp only at e⊢
    rw[hargs,hf]
    exact fn _ e
  |invoke _ _=>simp at e
  |builtin b=>
   cases b<;>simp only[]at e⊢ <;>try (simp at e;done)
   case len=>
    split at e
    ·rename_i x t h1 h2
     rw[harg x (by rw[h1];simp)]
     rw[GJ fun j hj=>hr j (by
      rw[zk,Option.bind_eq_some_iff]at e
      obtain⟨y,_,e2⟩:=e
      simp only[jY,aa]at e2
      rw[←e2];simp[hj])]
     exact e
    ·simp at e
   case append=>
    split at e
    ·rename_i x y t t' h1 h2
     rw[harg x (by rw[h1];simp),harg y (by rw[h1];simp)]
     rcases ah e with⟨hb,e⟩|⟨hb,e⟩
     ·rw[hb,ae]
      rw[nP,Option.bind_eq_some_iff]at e⊢
      obtain⟨⟨p,us⟩,e1,e2⟩:=e
      simp only[un2,jY,aa]at e2
      exact⟨(p,us),wo e1 (fun i hi=>hw i (by rw[←e2];exact hi)) (fun i hi=>hr i (by rw[←e2];simp[hi])),by simp only[un2,jY,e2]⟩
     ·simp at e
    ·simp at e
   case max=>
    have:(args.toList.map fun x=>(s'.ev x).pv)=args.toList.map fun x=>(s.ev x).pv:=List.map_congr_left fun x hx=>by rw[harg x hx]
    rw[this];exact e
   case min=>
    have:(args.toList.map fun x=>(s'.ev x).pv)=args.toList.map fun x=>(s.ev x).pv:=List.map_congr_left fun x hx=>by rw[harg x hx]
    rw[this];exact e
end Go.Ps
