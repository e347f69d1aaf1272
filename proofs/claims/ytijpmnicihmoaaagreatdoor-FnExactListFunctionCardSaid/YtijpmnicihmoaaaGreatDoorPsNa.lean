import Derived.Test.YtijpmnicihmoaaaGreatDoorPsMa
namespace Go.Ps
set_option linter.unusedVariables false
variable {S S':Nat→Prop} {σ σ':Sg} {w w':World} {E:En} {G:Gh} {s s':St} {a:Act} {C:co} {R:Type} {r:R}
variable {next:Act→World→Prop} {Q:Exit→Act→World→Prop} {o:Oper} {env:C.Env}
def KI (E:En) (a:Act) (s:St) (o:Oper) (k:SV→List ca→List Nat→Option R) (r:R) (next:Act→World→Prop):Prop:=
 ∀x v us rs G' w',aK (Gh.S G') (Gh.σ G') w' x v→aV E G' (s.upds us) a w'→k x us rs=some r→next (a.put o.dst v) w'
theorem bb {X:Sem Value} {k:SV→List ca→List Nat→Option R} (ho:execOp a.eval o=(do pure (.value (←X)))) (hd:cO E a C.P X w s k r) (hk:KI E a s o k r next):o.wp C.P a w next Q:=by
 obtain⟨x,v,us,rs,G',w',h1,h2,h3,h4⟩:=hd
 unfold Oper.wp
 rw[ho]
 simp only[Sem.run_bind,h1,Result.andThen_ok,Sem.run_pure]
 exact hk x v us rs G' w' h2 h3 h4
theorem my (h:aV E G s a w) {x:Operand} {p:PV} (e:s.ev x= .v p):aK G.S G.σ w (.v p) (a.eval x):=by
 have:=db h x;rwa [e]at this
theorem il (h:aV E G s a w) (x:Operand) {p:PV} (hp:(s.ev x).pv=p) (hne:p≠ .undef):bc G.S G.σ w p [a.eval x]:=by
 have hr:=db h x
 cases hs:s.ev x with
 |v q=>rw[hs]at hr hp;simp only[SV.pv]at hp;subst hp;exact aK.of_v hr hne
 |agg _=>rw[hs]at hp;exact absurd hp.symm hne
 |tup _ _=>rw[hs]at hp;exact absurd hp.symm hne
theorem uN (h:aV E G s a w):∀(xs:List Operand),dK (fun x v=>aK G.S G.σ w x v) (xs.map s.ev) (xs.map a.eval)
 | []=> .nil
 |x::xs=> .cons (db h x) (uN h xs)
theorem uO (h:aV E G s a w):∀(xs:List Operand),(∀x∈xs,(s.ev x).pv≠ .undef)→dK (fun p v=>bc G.S G.σ w p [v]) (xs.map fun x=>(s.ev x).pv) (xs.map a.eval)
 | [],_=> .nil
 |x::xs,hn=> .cons (il h x rfl (hn x (by simp))) (uO h xs fun y hy=>hn y (by simp[hy]))
theorem dK.append {α β:Type} {Q:α→β→Prop}:∀{xs xs':List α} {ys ys':List β},dK Q xs ys→dK Q xs' ys'→dK Q (xs++xs') (ys++ys')
 |_,_,_,_,.nil,h=>h
 |_,_,_,_,.cons h t,h'=> .cons h (t.append h')
theorem oe (hC:C.OK) (hE:iH E.I C env) (h:aV E G s a w) {id:Nat} (hid:id%128=0) {f:FuncId} {xs:List SV} {vals:List Value} (hx:dK (fun x v=>aK G.S G.σ w x v) xs vals) {k:SV→List ca→List Nat→Option R}:
  ∀(gs:List Nat),(∀g∈gs,C.real g=f)→km C env id s xs k gs=some r→
  (∃g sg,g∈gs∧C.sig g=some sg)∧Calls C.P f vals.toArray w fun e w'=>∃v x us rs G',e= .returned v∧aK (Gh.S G') (Gh.σ G') w' x v∧aV E G' (s.upds us) a w'∧k x us rs=some r
 | [],_,e=>by simp[km]at e
 |g::gs,hg,e=>by
  have next:km C env id s xs k gs=some r→_:=fun e=>by
   have:=oe hC hE h hid hx gs (fun g hg'=>hg g (by simp[hg'])) e
   exact(⟨let⟨g,sg,h1,h2⟩:=this.1;⟨g,sg,by simp[h1],h2⟩,this.2⟩:(∃g' sg,g'∈g::gs∧C.sig g'=some sg)∧Calls C.P f vals.toArray w fun e w'=>∃v x us rs G',e= .returned v∧aK (Gh.S G') (Gh.σ G') w' x v∧aV E G' (s.upds us) a w'∧k x us rs=some r)
  simp only[km]at e
  split at e
  ·rename_i sg hsg
   split at e
   ·rename_i A hA
    refine⟨⟨g,sg,by simp,hsg⟩, ?_⟩
    have:=wY hC hE h hid hsg hx hA e
    rw[hg g (by simp)]at this
    exact this
   ·exact next e
  ·exact next e
theorem A5 (hC:C.OK) (hE:iH E.I C env) (h:aV E G s a w) {id:Nat} (hid:id%128=0) {f:FuncId} {xs:List SV} {vals:List Value} (hx:dK (fun x v=>aK G.S G.σ w x v) xs vals) {k:SV→List ca→List Nat→Option R} (e:jK C env id s f xs k=some r) (hk:KI E a s o k r next)
  (hrun:(execOp a.eval o).run C.P w=(callFunc f vals.toArray).run C.P w):o.wp C.P a w next Q:=by
 obtain⟨⟨g,sg,hg,hsg⟩,hcall⟩:=oe hC hE h hid hx (C.alts f) (fun g hg=>hC.alts f g hg) e
 unfold Oper.wp
 rw[hrun,←hC.alts f g hg,uq hC hsg,Oper.upon_enter]
 rw[hC.alts f g hg]
 refine hcall.mono ?_
 rintro en w' ⟨v,x,us,rs,G',rfl,h1,h2,h3⟩
 exact hk x v us rs G' w' h1 h2 h3
theorem y7 {id:Nat} {sl:TypeId} {x y:PV} {k:PV→List ca→Option R} (e:ei C s id sl x y k=some r):x≠ .undef∧y≠ .undef:=by
 unfold ei at e
 split at e
 ·split at e
  ·rcases ah e with⟨_,e⟩|⟨_,e⟩
   ·split at e
    ·rename_i hm
     refine⟨fun hx=> ?_,fun hy=> ?_⟩
     ·subst hx
      unfold oF at hm
      split at hm
      ·split at hm
       ·rcases ah hm with⟨_,hm⟩|⟨_,hm⟩
        ·split at hm<;>simp at hm
        ·simp at hm
       ·rcases ah hm with⟨_,hm⟩|⟨_,hm⟩
        ·split at hm<;>simp at hm
        ·simp at hm
       ·simp at hm
      ·simp at hm
     ·subst hy;simp[oF]at hm
    split at e
    ·rename_i hm
     refine⟨fun hx=> ?_,fun hy=> ?_⟩
     ·subst hx;simp at e
     ·subst hy;simp[lQ,St.asList]at hm
    ·simp at e
   ·simp at e
  ·simp at e
 ·simp at e
theorem A6:∀{ps:List PV} {kd:IntKind} {x:Int} {p:PV},yV kd x ps=some p→∀q∈ps,q≠ .undef
 | [],_,_,_,_,q,h=>by simp at h
 |q::ps,kd,x,p,e,q',h=>by
  cases q<;>simp only[yV]at e<;>try (simp at e;done)
  rcases List.mem_cons.1 h with rfl|h
  ·simp
  ·exact A6 e q' h
theorem A7:∀{ps:List PV} {kd:IntKind} {x:Int} {p:PV},yW kd x ps=some p→∀q∈ps,q≠ .undef
 | [],_,_,_,_,q,h=>by simp at h
 |q::ps,kd,x,p,e,q',h=>by
  cases q<;>simp only[yW]at e<;>try (simp at e;done)
  rcases List.mem_cons.1 h with rfl|h
  ·simp
  ·exact A7 e q' h
theorem y8 {P:Program} (h:aV E G s a w) {xs:List Operand} {ats:Array TypeId} {ty:TypeId} {p:PV} (e:I6 (xs.map fun x=>(s.ev x).pv)=some p):∃v,(Builtin.max_ ats ty (xs.map a.eval).toArray).run P w= .ok v w∧bc G.S G.σ w p [v]:=by
 cases xs with
 |nil=>simp[I6]at e
 |cons x xs=>
  simp only[List.map_cons]at e⊢
  cases hx:(s.ev x).pv<;>rw[hx]at e<;>simp only[I6]at e<;>try (simp at e;done)
  have hv:=fj (x:= .undef) (il h x hx (by simp))
  obtain⟨v,h1,h2⟩:=yL (P:=P) _ _ _ _ _ (uO h xs fun y hy=>A6 e _ (List.mem_map.2 ⟨y,hy,rfl⟩)) e
  exact⟨v,by simp only[Builtin.max_,hv];exact h1,h2⟩
theorem y9 {P:Program} (h:aV E G s a w) {xs:List Operand} {ats:Array TypeId} {ty:TypeId} {p:PV} (e:I7 (xs.map fun x=>(s.ev x).pv)=some p):∃v,(Builtin.min_ ats ty (xs.map a.eval).toArray).run P w= .ok v w∧bc G.S G.σ w p [v]:=by
 cases xs with
 |nil=>simp[I7]at e
 |cons x xs=>
  simp only[List.map_cons]at e⊢
  cases hx:(s.ev x).pv<;>rw[hx]at e<;>simp only[I7]at e<;>try (simp at e;done)
  have hv:=fj (x:= .undef) (il h x hx (by simp))
  obtain⟨v,h1,h2⟩:=yM (P:=P) _ _ _ _ _ (uO h xs fun y hy=>A7 e _ (List.mem_map.2 ⟨y,hy,rfl⟩)) e
  exact⟨v,by simp only[Builtin.min_,hv];exact h1,h2⟩
theorem Gb {caps:List rQ} {us:List Value} {ys:List SV} (hc:eP S σ w caps us) (e:nt caps=some ys):dK (fun x v=>aK S σ w x v) ys us:=by
 induction caps generalizing us ys with
 |nil=>cases hc;simp only[nt,aa]at e;subst e;exact .nil
 |cons c caps ih=>
  obtain⟨v,us,rfl,h1,h2⟩:=hc
  simp only[nt]at e
  split at e
  ·rename_i x xs hx hxs
   simp only[aa]at e
   subst e
   refine .cons ?_ (ih h2 hxs)
   cases c with
   |dat τ d=>
    rcases n6 hx with⟨ha,_⟩|⟨_,c,e1,e2,rfl⟩
    ·simp at ha
    ·have:=cH (σ:=σ) _ _ _ (show aE S w τ d [v] from h1)
     rw[e1]at this
     exact aK.v (ar.of_one this)
   |agg τ d=>
    simp only[rQ.sv,aa]at hx;subst hx
    obtain⟨us,rfl,h1⟩:=h1
    exact⟨us,rfl,cH _ _ _ h1⟩
   |cref τ d=>
    simp only[rQ.sv,aa]at hx;subst hx
    obtain⟨b,o,us,hb,hr,ht,rfl⟩:=h1
    exact aK.v ⟨b,o,us,hb,hr,ht,rfl⟩
   |ref id=>
    simp only[rQ.sv,aa]at hx;subst hx
    obtain⟨L,b,o,hL,hv,rfl⟩:=h1
    exact aK.v (p:= .ptr id (.at 0)) ⟨L,b,o,hL,hv,trivial,by rw[hv];simp[dZ.off]⟩
  ·simp at e
theorem Ct (h:aV E G s a w) {S1:Nat→Prop} (hS:∀b,G.S b→S1 b) {p:PK} {x:SV} {v:Value} {c:rQ} {is:List Nat} (hx:aK G.S G.σ w x v) (e:tu s p x=some (c,is)) (hV:∀i∈is,∀k∈G.β i,S1 k):kg S1 G.σ w c v:=by
 have pvr:∀{p:PV},x.pv=p→p≠ .undef→bc G.S G.σ w p [v]:=by
  intro p hp hne
  cases x with
  |v q=>simp only[SV.pv]at hp;subst hp;exact aK.of_v hx hne
  |agg _=>exact absurd hp.symm hne
  |tup _ _=>exact absurd hp.symm hne
 cases p<;>simp only[tu]at e<;>try (simp at e;done)
 case val τ=>
  split at e
  ·rename_i cs hc
   split at e
   ·rename_i d hd
    split at e
    ·rename_i y hy
     simp only[aa,ax]at e
     obtain⟨rfl,rfl⟩:=e
     have ht:=bJ (dh (σ':=G.σ) h hS hV (dm hx hc)) hd
     have hv:=AT hx hc
     cases ha:x.isA with
     |true=>exact⟨v.cells.toList,hv.1 ha,ht⟩
     |false=>rw[hv.2 ha]at ht;exact ht
    ·simp at e
   ·simp at e
  ·simp at e
 case ro τ=>
  split at e
  ·rename_i id hp
   split at e
   ·rename_i cs hb
    split at e
    ·rename_i d hd
     simp only[aa,ax]at e
     obtain⟨rfl,rfl⟩:=e
     obtain⟨L,b,o,hL,hv,_,hx1⟩:=pvr hp (by simp)
     simp only[aD,and_true,dZ.off,Nat.add_zero]at hx1
     have key:∃vs,ar G.S G.σ w cs vs∧w.rangeAt b o vs∧S1 b:=by
      unfold oc at hb
      split at hb
      ·rename_i cs' hm
       simp only[aa]at hb;subst hb
       obtain⟨L',hL',b',o',vs,hv',hc,hr,_,hβ⟩:=h.mem id _ hm
       rw[hL]at hL';simp only[aa]at hL';subst hL'
       rw[hv]at hv'
       simp only[Value.pointer.injEq,aa,Addr.mk.injEq,and_true]at hv'
       obtain⟨rfl,rfl⟩:=hv'
       exact⟨vs,hc,hr,hV id (by simp) b (by simp[hβ])⟩
      ·rename_i cs' hm
       simp only[aa]at hb;subst hb
       obtain⟨L',hL',_,b',o',vs,hv',hs,hc,hr⟩:=h.mem id _ hm
       rw[hL]at hL';simp only[aa]at hL';subst hL'
       rw[hv]at hv'
       simp only[Value.pointer.injEq,aa,Addr.mk.injEq,and_true]at hv'
       obtain⟨rfl,rfl⟩:=hv'
       exact⟨vs,hc,hr,hS b hs⟩
      ·simp at hb
     obtain⟨vs,hc,hr,hb1⟩:=key
     exact⟨b,o,vs,hb1,hr,bJ (dh (σ':=G.σ) h hS (fun i hi=>hV i (by simp[hi])) hc) hd,hx1⟩
    ·simp at e
   ·simp at e
  ·rename_i τ' d hp
   simp only[aa,ax]at e
   obtain⟨rfl,rfl⟩:=e
   obtain⟨b,o,us,hb,hr,ht,hx1⟩:=pvr hp (by simp)
   simp only[aD,and_true]at hx1
   exact⟨b,o,us,hS b hb,hr,aE.keep hS (fun _ _=>rfl) _ _ _ ht,by rw[hx1];simp⟩
  ·simp at e
 case var τ f=>
  split at e
  ·rename_i id hp
   simp only[aa,ax]at e
   obtain⟨rfl,rfl⟩:=e
   obtain⟨L,b,o,hL,hv,_,hx1⟩:=pvr hp (by simp)
   simp only[aD,and_true,dZ.off,Nat.add_zero]at hx1
   exact⟨L,b,o,hL,hv,by rw[hx1,hv]⟩
  ·simp at e
theorem qx (h:aV E G s a w) {S1:Nat→Prop} (hS:∀b,G.S b→S1 b):∀{ps:List PK} {xs:List SV} {vs:List Value} {cs:List rQ} {is:List Nat},dK (fun x v=>aK G.S G.σ w x v) xs vs→fZ s ps xs=some (cs,is)→(∀i∈is,∀k∈G.β i,S1 k)→eP S1 G.σ w cs vs
 | [],_,_,cs,is,.nil,e,_=>by simp only[fZ,aa,ax]at e;obtain⟨rfl,rfl⟩:=e;rfl
 | [],_,_,cs,is,.cons _ _,e,_=>by simp[fZ]at e
 |_::_,_,_,cs,is,.nil,e,_=>by simp[fZ]at e
 |p::ps,_,_,cs,is,.cons hx ht,e,hV=>by
  simp only[fZ]at e
  split at e
  ·rename_i c i cs' is' h1 h2
   simp only[aa,ax]at e
   obtain⟨rfl,rfl⟩:=e
   exact⟨_,_,rfl,Ct h hS hx h1 fun i hi=>hV i (by simp[hi]),qx h hS ht h2 fun i hi=>hV i (by simp[hi])⟩
  ·simp at e
theorem oI (h:aV E G s a w) {f:FuncId} {xs:List Operand} {k:SV→List ca→List Nat→Option R} (e:dN C s f (xs.map s.ev) (fun p us rs=>k (.v p) us rs)=some r):
  cO E a C.P (pure (.func (.func f) #[] (xs.map a.eval).toArray)) w s k r:=by
 unfold dN at e
 split at e
 ·split at e
  ·split at e
   ·rename_i cs is hcs
    rcases ah e with⟨hp,e⟩|⟨_,e⟩
    ·obtain⟨G',g1,g2,g3,_,_,g6⟩:=h.frzs is (wW hp)
     refine⟨.v (.fn f cs),_,is.map .frz,is,G',w,rfl,aK.v ⟨xs.map a.eval,rfl, ?_⟩,g6,e⟩
     rw[g1]
     exact qx h g2 (uN h xs) hcs g3
    ·simp at e
   ·simp at e
  ·simp at e
 ·split at e
  ·rename_i hx
   have:xs=[]:=by simpa using hx
   subst this
   exact⟨.v (.fn f []),_,[],[],G,w,rfl,aK.v ⟨[],rfl,rfl⟩,h,e⟩
  ·simp at e
theorem Gd (hC:C.OK) (hE:iH E.I C env) (h:aV E G s a w) {id:Nat} (hid0:id%128=0) {k:SV→List ca→List Nat→Option R} (e:yX C env id o.op s k=some r) (hk:KI E a s o k r next):o.wp C.P a w next Q:=by
 have hid:id%128<64:=by omega
 have pure1:∀{x:SV} {v:Value} {rs:List Nat},execOp a.eval o=pure (.value v)→aK G.S G.σ w x v→k x [] rs=some r→o.wp C.P a w next Q:=by
  intro x v rs ho hx e
  unfold Oper.wp
  rw[ho]
  simp only[Sem.run_pure]
  exact hk x v [] rs G w hx h e
 cases hop:o.op<;>rw[hop]at e<;>simp only[yX]at e<;>try (simp at e;done)
 case move x=>exact pure1 (by simp[execOp,hop]) (db h x) e
 case assign x=>exact pure1 (by simp[execOp,hop]) (db h x) e
 case pick c x y=>
  have hd:=wC (P:=C.P) h (db h c) (db h x) (db h y) e
  exact bb (by simp[execOp,hop]) hd hk
 case alloc t=>
  split at e
  ·rename_i I hI
   exact bb (by simp[execOp,hop]) (wb hC h hI hid e) hk
  ·simp at e
 case box t x=>
  split at e
  ·rename_i I cs hI hcs
   rcases ah e with⟨_,e⟩|⟨_,e⟩
   ·exact bb (by simp[execOp,hop]) (BV (t:=t) h hid (db h x) hcs e) hk
   ·simp at e
  ·simp at e
 case build t ps=>exact bb (by simp[execOp,hop]) (wD hC h e) hk
 case buildSlice t n ps=>
  split at e
  ·rename_i q _ _ _ _ _ hI
   split at e
   ·rename_i Q' hQ
    split at e
    ·rename_i b hdp
     rcases ah e with⟨hb,e⟩|⟨_,e⟩
     ·simp only[ay]at hb
      obtain⟨⟨h1,h2⟩,h3⟩:=hb
      obtain⟨hm,e⟩:=bh e
      exact bb (by simp[execOp,hop]) (w7 hC h hI rfl hQ hid hdp (aQ h1) (bz h2) (bz h3) hm e) hk
     ·simp at e
    split at e
    ·rename_i xs hxs
     rcases ah e with⟨hb,e⟩|⟨_,e⟩
     ·simp only[ay]at hb
      obtain⟨⟨h1,h2⟩,h3⟩:=hb
      obtain⟨hm,e⟩:=bh e
      exact bb (by simp[execOp,hop]) (nj hC h hI rfl hQ hid hxs (aQ h1) (bz h2) (bz h3) hm e) hk
     ·simp at e
    ·simp at e
   ·simp at e
  ·simp at e
 case makeSlice t n c=>
  rcases ah e with⟨hs,e⟩|⟨_,e⟩
  ·have hnc:a.eval c=a.eval n:=by
    unfold Kg at hs
    split at hs
    ·rw[aQ hs]
    ·simp only[ay,aT]at hs;rw[hs.1,hs.2]
    ·simp at hs
   have hne:(s.ev n).pv≠ .undef:=fun hh=>by rw[hh]at e;unfold cR at e;split at e<;>simp_all
   exact bb (by simp[execOp,hop,hnc]) (nb hC h hid (il h n rfl hne) e) hk
  ·simp at e
 case load t x=>
  split at e
  ·rename_i p hp
   by_cases hu:p= .undef
   ·subst hu;exfalso;unfold lm at e;split at e<;>simp[St.look,qn]at e
   ·exact bb (by simp[execOp,hop]) (wZ hC h hid0 (aK.of_v (my h hp) hu) e) hk
  ·simp at e
 case store t x y=>
  split at e
  ·rename_i p hp
   by_cases hu:p= .undef
   ·subst hu;exfalso;unfold ig at e;split at e<;>simp at e
   ·obtain⟨G',us,rs,w',h1,h2,h3⟩:=uF hC h (aK.of_v (my h hp) hu) (db h y) e
    unfold Oper.wp
    have:execOp a.eval o=(do Instr.storeAt t (a.eval x) (a.eval y);pure .skip):=by simp[execOp,hop]
    rw[this]
    simp only[Sem.run_bind,h1,Result.andThen_ok,Sem.run_pure]
    exact hk (.v .undef) undef us rs G' w' trivial h2 h3
  ·simp at e
 case nilCheck x=>
  split at e
  ·rename_i i j hp
   have hr:=my h hp
   obtain⟨L,b,q,_,_,_,hv⟩:=aK.of_v hr (by simp)
   simp only[aD,and_true]at hv
   rw[hv]at hr
   exact pure1 (by simp[execOp,hop,hv]) hr e
  ·rename_i i j q hp
   have hr:=my h hp
   obtain⟨L,b,n,c,_,_,_,_,_,hv⟩:=aK.of_v hr (by simp)
   simp only[aD,and_true]at hv
   rw[hv]at hr
   exact pure1 (by simp[execOp,hop,hv]) hr e
  ·rename_i τ x' q hp
   have hr:=my h hp
   obtain⟨b,n,us,hS,h0,h1,hv⟩:=aK.of_v hr (by simp)
   simp only[aD,and_true]at hv
   rw[hv]at hr
   exact pure1 (by simp[execOp,hop,hv]) hr e
  ·simp at e
 case binOp op t x y yt=>
  split at e
  ·rename_i p q hp hq
   have hd:=v7 hC x y (aK.of_v (my h hp) (by simp)) (aK.of_v (my h hq) (by simp)) e
   exact bb (by simp[execOp,hop]) (cO.ofPV h hd) hk
  ·rename_i p q _ hp hq
   by_cases hu:p= .undef
   ·subst hu;simp[uK]at e
   by_cases hu':q= .undef
   ·subst hu';exfalso;cases p<;>simp[uK]at e
   have hd:=yy (P:=C.P) t x y (aK.of_v (my h hp) hu) (aK.of_v (my h hq) hu') e
   exact bb (by simp[execOp,hop]) (cO.ofPV h hd) hk
  ·rename_i p q hp hq
   have r1:=db h x
   have r2:=db h y
   rw[hp]at r1;rw[hq]at r2
   exact bb (by simp[execOp,hop]) (cO.ofPV h (Cr hC x y r1 r2 e)) hk
  ·simp at e
 case unOp op t x=>
  split at e
  ·rename_i p hp
   by_cases hu:p= .undef
   ·subst hu;exfalso;cases op<;>simp[KE]at e
   exact bb (by simp[execOp,hop]) (cO.ofPV h (BS (P:=C.P) (aK.of_v (my h hp) hu) e)) hk
  ·simp at e
 case convert src dst x=>
  split at e
  ·rename_i p hp
   rcases ah e with⟨hc,e⟩|⟨_,e⟩
   ·by_cases hu:p= .undef
    ·subst hu;simp[ij]at e
    exact bb (by simp[execOp,hop]) (uw hC h hid (aK.of_v (my h hp) hu) e) hk
   ·by_cases hu:p= .undef
    ·subst hu;exfalso;unfold lr at e;split at e<;>simp_all [St.asList]
    exact bb (by simp[execOp,hop]) (cO.ofPV h (wB hC h (aK.of_v (my h hp) hu) e)) hk
  ·simp at e
 case makeFunc fn first captured=>
  cases fn<;>simp only[]at e<;>try (simp at e;done)
  rename_i f
  split at e
  ·rename_i h1
   have e1:first= #[]:=by simpa using h1
   have hd:=oI (C:=C) h e
   exact bb (X:=pure (.func (.func f) #[] (captured.toList.map a.eval).toArray)) (by
    have hm:(captured.toList.map a.eval).toArray=captured.map a.eval:=by apply Array.toList_inj.1;simp
    simp[execOp,hop,Instr.makeFunc,e1,hm]) hd hk
  ·simp at e
 case slice t x lo hi mx=>
  cases mx with
  |some _=>simp at e
  |none=>exact bb (by simp[execOp,hop]) (uG hC h x e) hk
 case fieldAddr t x f=>
  split at e
  ·rename_i p off size hp hf
   rcases ah e with⟨h1,e⟩|⟨_,e⟩
   ·split at e
    ·rename_i q hq
     by_cases hu:p= .undef
     ·subst hu;simp[oX]at hq
     obtain⟨b,q0,hv,hr⟩:=wz (aK.of_v (my h hp) hu) hq
     exact bb (X:=Instr.fieldAt t (a.eval x) f) (by simp[execOp,hop]) (cO.pure h (by rw[hv];exact sn hC hf (bz h1) b q0) (aK.v hr) e) hk
    ·simp at e
   ·simp at e
  ·simp at e
 case field t x f=>
  split at e
  ·rename_i cs off size agg hp hf hg
   split at e
   ·rename_i c hcut
    have hr:=db h x
    rw[hp]at hr
    obtain⟨vs,hv,hc⟩:=hr
    obtain⟨g1,g2,g3⟩:=ar.cut hc hcut
    have hrun:=Cc (w:=w) hC hf hg g3
    rcases ah e with⟨ha,e⟩|⟨ha,e⟩
    ·exact bb (X:=Instr.field t (a.eval x) f) (by simp[execOp,hop]) (cO.pure (x:= .agg c) h (by rw[hv];exact hrun.1 ha) ⟨_,rfl,g1⟩ e) hk
    ·split at e
     ·rename_i c0 _
      rcases ah e with⟨hw,e⟩|⟨_,e⟩
      ·have hu:=ar.of_one g1
       have hl:=bc.length hu
       rw[aQ hw]at hl
       obtain⟨y,hy⟩:=List.length_eq_one_iff.1 hl
       rw[hy]at hu
       exact bb (X:=Instr.field t (a.eval x) f) (by simp[execOp,hop]) (cO.pure h (by rw[hv];exact hrun.2 ha y hy) (aK.v hu) e) hk
      ·simp at e
     ·simp at e
   ·simp at e
  ·simp at e
 case indexAddr t x i=>
  have hi:(s.ev i).pv≠ .undef:=fun hh=>by rw[hh]at e;simp[cD]at e
  have hx:(s.ev x).pv≠ .undef:=fun hh=>by rw[hh]at e;unfold cD at e;split at e<;>simp at e
  have hd:=nk hC h (il h x rfl hx) (il h i rfl hi) e
  exact bb (by simp[execOp,hop]) (cO.ofPV h hd) hk
 case index t x i=>
  have hi:(s.ev i).pv≠ .undef:=fun hh=>by rw[hh]at e;simp[lR]at e
  exact bb (by simp[execOp,hop]) (uH hC h (db h x) (il h i rfl hi) e) hk
 case extract t i=>
  exact bb (by simp[execOp,hop]) (qi (P:=C.P) h (db h t) e) hk
 case call c=>
  obtain⟨callee,args,argTypes⟩:=c
  have hargs:=uN h args.toList
  have harr:(args.toList.map a.eval).toArray=args.map a.eval:=by apply Array.toList_inj.1;simp
  split at e
  ·rename_i f hcal
   simp only at hcal
   subst hcal
   exact A5 hC hE h hid0 hargs e hk (by rw[harr];simp[execOp,hop,resolve,Deferred.ofValue,invoke,Act.eval])
  ·rename_i f _ hcal
   simp only at hcal
   subst hcal
   unfold IF at e
   split at e
   ·rename_i g caps hp
    split at e
    ·rename_i ys hys
     have hr:=db h f
     rw[hp]at hr
     obtain⟨us,hv,hT⟩:=aK.of_v hr (by simp)
     simp only[aD,and_true]at hv
     replace e:=(ah e).elim (fun x=>x.2) (fun x=>by have:=x.2;simp at this)
     exact A5 hC hE h hid0 (hargs.append (Gb hT hys)) e hk (by rw[←List.append_toArray,harr];simp[execOp,hop,resolve,Deferred.ofValue,invoke,hv])
    ·simp at e
   ·simp at e
  ·rename_i hcal
   simp only at hcal
   subst hcal
   split at e
   ·rename_i x t h1 h2
    have e1:args= #[x]:=by apply Array.toList_inj.1;simpa using h1
    have e2:argTypes= #[t]:=by apply Array.toList_inj.1;simpa using h2
    have hne:(s.ev x).pv≠ .undef:=fun hh=>by rw[hh]at e;simp[ss,St.asRow,St.asList]at e
    exact bb (by simp[execOp,hop,resolve,invoke,builtin,e1,e2]) (cO.ofPV h (yK (ty:=o.type) hC h (il h x rfl hne) e)) hk
   ·simp at e
  ·rename_i hcal
   simp only at hcal
   subst hcal
   split at e
   ·rename_i x y t t' h1 h2
    have e1:args= #[x,y]:=by apply Array.toList_inj.1;simpa using h1
    have e2:argTypes= #[t,t']:=by apply Array.toList_inj.1;simpa using h2
    rcases ah e with⟨ht,e0⟩|⟨_,e0⟩
    ·have ht:t=t':=aQ ht
     subst ht
     clear e
     have e:=e0
     have hne:=y7 e
     exact bb (by simp[execOp,hop,resolve,invoke,builtin,e1,e2]) (sm (ty:=o.type) hC h hid (il h x rfl hne.1) (il h y rfl hne.2) e) hk
    ·simp at e0
   ·simp at e
  ·rename_i hcal
   simp only at hcal
   subst hcal
   split at e
   ·rename_i p hp
    obtain⟨v,h1,h2⟩:=y8 (P:=C.P) (ats:=argTypes) (ty:=o.type) h hp
    rw[harr]at h1
    exact bb (X:=Builtin.max_ argTypes o.type (args.map a.eval)) (by simp[execOp,hop,resolve,invoke,builtin]) (cO.pure h h1 (aK.v h2) e) hk
   ·simp at e
  ·rename_i hcal
   simp only at hcal
   subst hcal
   split at e
   ·rename_i p hp
    obtain⟨v,h1,h2⟩:=y9 (P:=C.P) (ats:=argTypes) (ty:=o.type) h hp
    rw[harr]at h1
    exact bb (X:=Builtin.min_ argTypes o.type (args.map a.eval)) (by simp[execOp,hop,resolve,invoke,builtin]) (cO.pure h h1 (aK.v h2) e) hk
   ·simp at e
  ·simp at e
end Go.Ps
