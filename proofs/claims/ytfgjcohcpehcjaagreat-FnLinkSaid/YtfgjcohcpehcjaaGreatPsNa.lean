import Derived.Test.YtfgjcohcpehcjaaGreatPsMa
import Derived.Test.YtfgjcohcpehcjaaGreatPsKb
namespace Go.Ps
set_option linter.unusedVariables false
variable {S S':Nat→Prop} {σ σ':Sg} {w w':World} {E:En} {G:Gh} {s s':St} {a:Act} {C:b9} {R:Type} {r:R}
variable {next:Act→World→Prop} {Q:Exit→Act→World→Prop} {o:Oper} {env:C.Env}
def DW (E:En) (a:Act) (s:St) (o:Oper) (k:SV→List bJ→List Nat→Option R) (r:R) (next:Act→World→Prop):Prop:=
 ∀x v us rs G' w',aC (Gh.S G') (Gh.σ G') w' x v→aK E G' (s.upds us) a w'→k x us rs=some r→next (a.put o.dst v) w'
theorem aI {X:Sem Value} {k:SV→List bJ→List Nat→Option R} (ho:execOp a.eval o=(do pure (.value (←X)))) (hd:co E a C.P X w s k r) (hk:DW E a s o k r next):o.wp C.P a w next Q:=by
 obtain⟨x,v,us,rs,G',w',h1,h2,h3,h4⟩:=hd
 unfold Oper.wp
 rw[ho]
 simp only[Sem.run_bind,h1,Result.andThen_ok,Sem.run_pure]
 exact hk x v us rs G' w' h2 h3 h4
theorem lH (h:aK E G s a w) {x:Operand} {p:PV} (e:s.ev x= .v p):aC G.S G.σ w (.v p) (a.eval x):=by
 have:=cH h x;rwa [e]at this
theorem fD (h:aK E G s a w) (x:Operand) {p:PV} (hp:(s.ev x).pv=p) (hne:p≠ .undef):aP G.S G.σ w p [a.eval x]:=by
 have hr:=cH h x
 cases hs:s.ev x with
 |v q=>rw[hs]at hr hp;simp only[SV.pv]at hp;subst hp;exact aC.of_v hr hne
 |agg _=>rw[hs]at hp;exact absurd hp.symm hne
 |tup _ _=>rw[hs]at hp;exact absurd hp.symm hne
theorem su (h:aK E G s a w):∀(xs:List Operand),dr (fun x v=>aC G.S G.σ w x v) (xs.map s.ev) (xs.map a.eval)
 | []=> .nil
 |x::xs=> .cons (cH h x) (su h xs)
theorem sw (h:aK E G s a w):∀(xs:List Operand),(∀x∈xs,(s.ev x).pv≠ .undef)→dr (fun p v=>aP G.S G.σ w p [v]) (xs.map fun x=>(s.ev x).pv) (xs.map a.eval)
 | [],_=> .nil
 |x::xs,hn=> .cons (fD h x rfl (hn x (by simp))) (sw h xs fun y hy=>hn y (by simp[hy]))
theorem dr.append {α β:Type} {Q:α→β→Prop}:∀{xs xs':List α} {ys ys':List β},dr Q xs ys→dr Q xs' ys'→dr Q (xs++xs') (ys++ys')
 |_,_,_,_,.nil,h=>h
 |_,_,_,_,.cons h t,h'=> .cons h (t.append h')
theorem nd (hC:C.OK) (hE:ii E.I C env) (h:aK E G s a w) {id:Nat} (hid:id%128=0) {f:FuncId} {xs:List SV} {vals:List Value} (hx:dr (fun x v=>aC G.S G.σ w x v) xs vals) {k:SV→List bJ→List Nat→Option R}:
  ∀(gs:List Nat),(∀g∈gs,C.real g=f)→jw C env id s xs k gs=some r→
  (∃g sg,g∈gs∧C.sig g=some sg)∧Calls C.P f vals.toArray w fun e w'=>∃v x us rs G',e= .returned v∧aC (Gh.S G') (Gh.σ G') w' x v∧aK E G' (s.upds us) a w'∧k x us rs=some r
 | [],_,e=>by simp[jw]at e
 |g::gs,hg,e=>by
  have next:jw C env id s xs k gs=some r→_:=fun e=>by
   have:=nd hC hE h hid hx gs (fun g hg'=>hg g (by simp[hg'])) e
   exact(⟨let⟨g,sg,h1,h2⟩:=this.1;⟨g,sg,by simp[h1],h2⟩,this.2⟩:(∃g' sg,g'∈g::gs∧C.sig g'=some sg)∧Calls C.P f vals.toArray w fun e w'=>∃v x us rs G',e= .returned v∧aC (Gh.S G') (Gh.σ G') w' x v∧aK E G' (s.upds us) a w'∧k x us rs=some r)
  simp only[jw]at e
  split at e
  ·rename_i sg hsg
   split at e
   ·rename_i A hA
    refine⟨⟨g,sg,by simp,hsg⟩, ?_⟩
    have:=ue hC hE h hid hsg hx hA e
    rw[hg g (by simp)]at this
    exact this
   ·exact next e
  ·exact next e
theorem xE (hC:C.OK) (hE:ii E.I C env) (h:aK E G s a w) {id:Nat} (hid:id%128=0) {f:FuncId} {xs:List SV} {vals:List Value} (hx:dr (fun x v=>aC G.S G.σ w x v) xs vals) {k:SV→List bJ→List Nat→Option R} (e:ja C env id s f xs k=some r) (hk:DW E a s o k r next)
  (hrun:(execOp a.eval o).run C.P w=(callFunc f vals.toArray).run C.P w):o.wp C.P a w next Q:=by
 obtain⟨⟨g,sg,hg,hsg⟩,hcall⟩:=nd hC hE h hid hx (C.alts f) (fun g hg=>hC.alts f g hg) e
 unfold Oper.wp
 rw[hrun,←hC.alts f g hg,rM hC hsg,Oper.upon_enter]
 rw[hC.alts f g hg]
 refine hcall.mono ?_
 rintro en w' ⟨v,x,us,rs,G',rfl,h1,h2,h3⟩
 exact hk x v us rs G' w' h1 h2 h3
theorem wk {id:Nat} {sl:TypeId} {x y:PV} {k:PV→List bJ→Option R} (e:dS C s id sl x y k=some r):x≠ .undef∧y≠ .undef:=by
 unfold dS at e
 split at e
 ·split at e
  ·rcases ab e with⟨_,e⟩|⟨_,e⟩
   ·split at e
    ·rename_i hm
     refine⟨fun hx=> ?_,fun hy=> ?_⟩
     ·subst hx
      unfold nz at hm
      split at hm
      ·split at hm
       ·rcases ab hm with⟨_,hm⟩|⟨_,hm⟩
        ·split at hm<;>simp at hm
        ·simp at hm
       ·rcases ab hm with⟨_,hm⟩|⟨_,hm⟩
        ·split at hm<;>simp at hm
        ·simp at hm
       ·simp at hm
      ·simp at hm
     ·subst hy;simp[nz]at hm
    split at e
    ·rename_i hm
     refine⟨fun hx=> ?_,fun hy=> ?_⟩
     ·subst hx;simp at e
     ·subst hy;simp[gY,St.asList]at hm
    ·simp at e
   ·simp at e
  ·simp at e
 ·simp at e
theorem CK {sl:TypeId} {x y:PV} {k:PV→List bJ→Option R} (e:mu C s sl x y k=some r):x≠ .undef∧y≠ .undef:=by
 refine⟨fun hx=>by subst hx;simp[mu]at e,fun hy=> ?_⟩
 subst hy
 unfold mu at e
 (repeat' (first|(simp[gY,St.asList]at e;done)|split at e))<;>simp_all [gY,St.asList]
theorem xF:∀{ps:List PV} {kd:IntKind} {x:Int} {p:PV},wc kd x ps=some p→∀q∈ps,q≠ .undef
 | [],_,_,_,_,q,h=>by simp at h
 |q::ps,kd,x,p,e,q',h=>by
  cases q<;>simp only[wc]at e<;>try (simp at e;done)
  rcases List.mem_cons.1 h with rfl|h
  ·simp
  ·exact xF e q' h
theorem xG:∀{ps:List PV} {kd:IntKind} {x:Int} {p:PV},wd kd x ps=some p→∀q∈ps,q≠ .undef
 | [],_,_,_,_,q,h=>by simp at h
 |q::ps,kd,x,p,e,q',h=>by
  cases q<;>simp only[wd]at e<;>try (simp at e;done)
  rcases List.mem_cons.1 h with rfl|h
  ·simp
  ·exact xG e q' h
theorem wl {P:Program} (h:aK E G s a w) {xs:List Operand} {ats:Array TypeId} {ty:TypeId} {p:PV} (e:CI (xs.map fun x=>(s.ev x).pv)=some p):∃v,(Builtin.max_ ats ty (xs.map a.eval).toArray).run P w= .ok v w∧aP G.S G.σ w p [v]:=by
 cases xs with
 |nil=>simp[CI]at e
 |cons x xs=>
  simp only[List.map_cons]at e⊢
  cases hx:(s.ev x).pv<;>rw[hx]at e<;>simp only[CI]at e<;>try (simp at e;done)
  have hv:=eR (x:= .undef) (fD h x hx (by simp))
  obtain⟨v,h1,h2⟩:=vU (P:=P) _ _ _ _ _ (sw h xs fun y hy=>xF e _ (List.mem_map.2 ⟨y,hy,rfl⟩)) e
  exact⟨v,by simp only[Builtin.max_,hv];exact h1,h2⟩
theorem wm {P:Program} (h:aK E G s a w) {xs:List Operand} {ats:Array TypeId} {ty:TypeId} {p:PV} (e:CJ (xs.map fun x=>(s.ev x).pv)=some p):∃v,(Builtin.min_ ats ty (xs.map a.eval).toArray).run P w= .ok v w∧aP G.S G.σ w p [v]:=by
 cases xs with
 |nil=>simp[CJ]at e
 |cons x xs=>
  simp only[List.map_cons]at e⊢
  cases hx:(s.ev x).pv<;>rw[hx]at e<;>simp only[CJ]at e<;>try (simp at e;done)
  have hv:=eR (x:= .undef) (fD h x hx (by simp))
  obtain⟨v,h1,h2⟩:=vV (P:=P) _ _ _ _ _ (sw h xs fun y hy=>xG e _ (List.mem_map.2 ⟨y,hy,rfl⟩)) e
  exact⟨v,by simp only[Builtin.min_,hv];exact h1,h2⟩
theorem AN {caps:List pS} {us:List Value} {ys:List SV} (hc:ew S σ w caps us) (e:mw caps=some ys):dr (fun x v=>aC S σ w x v) ys us:=by
 induction caps generalizing us ys with
 |nil=>cases hc;simp only[mw,aa]at e;subst e;exact .nil
 |cons c caps ih=>
  obtain⟨v,us,rfl,h1,h2⟩:=hc
  simp only[mw]at e
  split at e
  ·rename_i x xs hx hxs
   simp only[aa]at e
   subst e
   refine .cons ?_ (ih h2 hxs)
   cases c with
   |dat τ d=>
    rcases mZ hx with⟨ha,_⟩|⟨_,c,e1,e2,rfl⟩
    ·simp at ha
    ·have:=cD (σ:=σ) _ _ _ (show aw S w τ d [v] from h1)
     rw[e1]at this
     exact aC.v (aj.of_one this)
   |agg τ d=>
    simp only[pS.sv,aa]at hx;subst hx
    obtain⟨us,rfl,h1⟩:=h1
    exact⟨us,rfl,cD _ _ _ h1⟩
   |cref τ d=>
    simp only[pS.sv,aa]at hx;subst hx
    obtain⟨b,o,us,hb,hr,ht,rfl⟩:=h1
    exact aC.v ⟨b,o,us,hb,hr,ht,rfl⟩
   |ref id=>
    simp only[pS.sv,aa]at hx;subst hx
    obtain⟨L,b,o,hL,hv,rfl⟩:=h1
    exact aC.v (p:= .ptr id (.at 0)) ⟨L,b,o,hL,hv,trivial,by rw[hv];simp[dK.off]⟩
  ·simp at e
theorem yW (h:aK E G s a w) {S1:Nat→Prop} (hS:∀b,G.S b→S1 b) {p:PK} {x:SV} {v:Value} {c:pS} {is:List Nat} (hx:aC G.S G.σ w x v) (e:qQ s p x=some (c,is)) (hV:∀i∈is,∀k∈G.β i,S1 k):jr S1 G.σ w c v:=by
 have pvr:∀{p:PV},x.pv=p→p≠ .undef→aP G.S G.σ w p [v]:=by
  intro p hp hne
  cases x with
  |v q=>simp only[SV.pv]at hp;subst hp;exact aC.of_v hx hne
  |agg _=>exact absurd hp.symm hne
  |tup _ _=>exact absurd hp.symm hne
 cases p<;>simp only[qQ]at e<;>try (simp at e;done)
 case val τ=>
  split at e
  ·rename_i cs hc
   split at e
   ·rename_i d hd
    split at e
    ·rename_i y hy
     simp only[aa,ar]at e
     obtain⟨rfl,rfl⟩:=e
     have ht:=bE (cX (σ':=G.σ) h hS hV (c9 hx hc)) hd
     have hv:=xr hx hc
     cases ha:x.isA with
     |true=>exact⟨v.cells.toList,hv.1 ha,ht⟩
     |false=>rw[hv.2 ha]at ht;exact ht
    ·simp at e
   ·simp at e
  ·simp at e
 case ro τ=>
  split at e
  ·rename_i id hp
   split at e
   ·rename_i cs hb
    split at e
    ·rename_i d hd
     simp only[aa,ar]at e
     obtain⟨rfl,rfl⟩:=e
     obtain⟨L,b,o,hL,hv,_,hx1⟩:=pvr hp (by simp)
     simp only[ay,and_true,dK.off,Nat.add_zero]at hx1
     have key:∃vs,aj G.S G.σ w cs vs∧w.rangeAt b o vs∧S1 b:=by
      unfold kz at hb
      split at hb
      ·rename_i cs' hm
       simp only[aa]at hb;subst hb
       obtain⟨L',hL',b',o',vs,hv',hc,hr,_,hβ⟩:=h.mem id _ hm
       rw[hL]at hL';simp only[aa]at hL';subst hL'
       rw[hv]at hv'
       simp only[Value.pointer.injEq,aa,Addr.mk.injEq,and_true]at hv'
       obtain⟨rfl,rfl⟩:=hv'
       exact⟨vs,hc,hr,hV id (by simp) b (by simp[hβ])⟩
      ·rename_i cs' hm
       simp only[aa]at hb;subst hb
       obtain⟨L',hL',_,b',o',vs,hv',hs,hc,hr⟩:=h.mem id _ hm
       rw[hL]at hL';simp only[aa]at hL';subst hL'
       rw[hv]at hv'
       simp only[Value.pointer.injEq,aa,Addr.mk.injEq,and_true]at hv'
       obtain⟨rfl,rfl⟩:=hv'
       exact⟨vs,hc,hr,hS b hs⟩
      ·simp at hb
     obtain⟨vs,hc,hr,hb1⟩:=key
     exact⟨b,o,vs,hb1,hr,bE (cX (σ':=G.σ) h hS (fun i hi=>hV i (by simp[hi])) hc) hd,hx1⟩
    ·simp at e
   ·simp at e
  ·rename_i τ' d hp
   simp only[aa,ar]at e
   obtain⟨rfl,rfl⟩:=e
   obtain⟨b,o,us,hb,hr,ht,hx1⟩:=pvr hp (by simp)
   simp only[ay,and_true]at hx1
   exact⟨b,o,us,hS b hb,hr,aw.keep hS (fun _ _=>rfl) _ _ _ ht,by rw[hx1];simp⟩
  ·simp at e
 case var τ f=>
  split at e
  ·rename_i id hp
   simp only[aa,ar]at e
   obtain⟨rfl,rfl⟩:=e
   obtain⟨L,b,o,hL,hv,_,hx1⟩:=pvr hp (by simp)
   simp only[ay,and_true,dK.off,Nat.add_zero]at hx1
   exact⟨L,b,o,hL,hv,by rw[hx1,hv]⟩
  ·simp at e
 case dvar τ f=>
  split at e
  ·rename_i id hp
   simp only[aa,ar]at e
   obtain⟨rfl,rfl⟩:=e
   obtain⟨L,b,o,hL,hv,_,hx1⟩:=pvr hp (by simp)
   simp only[ay,and_true,dK.off,Nat.add_zero]at hx1
   exact⟨L,b,o,hL,hv,by rw[hx1,hv]⟩
  ·simp at e
theorem o8 (h:aK E G s a w) {S1:Nat→Prop} (hS:∀b,G.S b→S1 b):∀{ps:List PK} {xs:List SV} {vs:List Value} {cs:List pS} {is:List Nat},dr (fun x v=>aC G.S G.σ w x v) xs vs→fC s ps xs=some (cs,is)→(∀i∈is,∀k∈G.β i,S1 k)→ew S1 G.σ w cs vs
 | [],_,_,cs,is,.nil,e,_=>by simp only[fC,aa,ar]at e;obtain⟨rfl,rfl⟩:=e;rfl
 | [],_,_,cs,is,.cons _ _,e,_=>by simp[fC]at e
 |_::_,_,_,cs,is,.nil,e,_=>by simp[fC]at e
 |p::ps,_,_,cs,is,.cons hx ht,e,hV=>by
  simp only[fC]at e
  split at e
  ·rename_i c i cs' is' h1 h2
   simp only[aa,ar]at e
   obtain⟨rfl,rfl⟩:=e
   exact⟨_,_,rfl,yW h hS hx h1 fun i hi=>hV i (by simp[hi]),o8 h hS ht h2 fun i hi=>hV i (by simp[hi])⟩
  ·simp at e
theorem nC (h:aK E G s a w) {f:FuncId} {xs:List Operand} {k:SV→List bJ→List Nat→Option R} (e:dv C s f (xs.map s.ev) (fun p us rs=>k (.v p) us rs)=some r):
  co E a C.P (pure (.func (.func f) #[] (xs.map a.eval).toArray)) w s k r:=by
 unfold dv at e
 split at e
 ·split at e
  ·split at e
   ·rename_i cs is hcs
    rcases ab e with⟨hp,e⟩|⟨_,e⟩
    ·obtain⟨G',g1,g2,g3,_,_,g6⟩:=h.frzs is (uc hp)
     refine⟨.v (.fn f cs),_,is.map .frz,is,G',w,rfl,aC.v ⟨xs.map a.eval,rfl, ?_⟩,g6,e⟩
     rw[g1]
     exact o8 h g2 (su h xs) hcs g3
    ·simp at e
   ·simp at e
  ·simp at e
 ·split at e
  ·rename_i hx
   have:xs=[]:=by simpa using hx
   subst this
   exact⟨.v (.fn f []),_,[],[],G,w,rfl,aC.v ⟨[],rfl,rfl⟩,h,e⟩
  ·simp at e
theorem AO (hC:C.OK) (hE:ii E.I C env) (h:aK E G s a w) {id:Nat} (hid0:id%128=0) {k:SV→List bJ→List Nat→Option R} (e:wg C env id o.op s k=some r) (hk:DW E a s o k r next):o.wp C.P a w next Q:=by
 have hid:id%128<64:=by omega
 have pure1:∀{x:SV} {v:Value} {rs:List Nat},execOp a.eval o=pure (.value v)→aC G.S G.σ w x v→k x [] rs=some r→o.wp C.P a w next Q:=by
  intro x v rs ho hx e
  unfold Oper.wp
  rw[ho]
  simp only[Sem.run_pure]
  exact hk x v [] rs G w hx h e
 cases hop:o.op<;>rw[hop]at e<;>simp only[wg]at e<;>try (simp at e;done)
 case move x=>exact pure1 (by simp[execOp,hop]) (cH h x) e
 case assign x=>exact pure1 (by simp[execOp,hop]) (cH h x) e
 case pick c x y=>
  have hd:=tO (P:=C.P) h (cH h c) (cH h x) (cH h y) e
  exact aI (by simp[execOp,hop]) hd hk
 case alloc t=>
  split at e
  ·rename_i I hI
   exact aI (by simp[execOp,hop]) (tn hC h hI hid e) hk
  ·simp at e
 case box t x=>
  split at e
  ·rename_i I cs hI hcs
   rcases ab e with⟨_,e⟩|⟨_,e⟩
   ·exact aI (by simp[execOp,hop]) (ym (t:=t) h hid (cH h x) hcs e) hk
   ·simp at e
  ·simp at e
 case build t ps=>exact aI (by simp[execOp,hop]) (tP hC h e) hk
 case buildSlice t n ps=>
  split at e
  ·rename_i q _ _ _ _ _ hI
   split at e
   ·rename_i Q' hQ
    split at e
    ·rename_i b hdp
     rcases ab e with⟨hb,e⟩|⟨_,e⟩
     ·simp only[aB]at hb
      obtain⟨⟨h1,h2⟩,h3⟩:=hb
      obtain⟨hm,e⟩:=aR e
      exact aI (by simp[execOp,hop]) (ug hC h hI rfl hQ hid hdp (aG h1) (bi h2) (bi h3) hm e) hk
     ·simp at e
    split at e
    ·rename_i xs hxs
     rcases ab e with⟨hb,e⟩|⟨_,e⟩
     ·simp only[aB]at hb
      obtain⟨⟨h1,h2⟩,h3⟩:=hb
      obtain⟨hm,e⟩:=aR e
      exact aI (by simp[execOp,hop]) (mn hC h hI rfl hQ hid hxs (aG h1) (bi h2) (bi h3) hm e) hk
     ·simp at e
    ·simp at e
   ·simp at e
  ·simp at e
 case makeSlice t n c=>
  rcases ab e with⟨hs,e⟩|⟨_,e⟩
  ·have hnc:a.eval c=a.eval n:=by
    unfold Dx at hs
    split at hs
    ·rw[aG hs]
    ·simp only[aB,bh]at hs;rw[hs.1,hs.2]
    ·simp at hs
   have hne:(s.ev n).pv≠ .undef:=fun hh=>by rw[hh]at e;unfold cK at e;split at e<;>simp_all
   exact aI (by simp[execOp,hop,hnc]) (md hC h hid (fD h n rfl hne) e) hk
  ·simp at e
 case load t x=>
  split at e
  ·rename_i p hp
   by_cases hu:p= .undef
   ·subst hu;exfalso;unfold kx at e;split at e<;>simp[St.look,oY]at e
   ·exact aI (by simp[execOp,hop]) (uf hC h hid0 (aC.of_v (lH h hp) hu) e) hk
  ·simp at e
 case store t x y=>
  split at e
  ·rename_i p hp
   by_cases hu:p= .undef
   ·subst hu;exfalso;unfold gX at e;split at e<;>simp at e
   ·obtain⟨G',us,rs,w',h1,h2,h3⟩:=sd hC h (aC.of_v (lH h hp) hu) (cH h y) e
    unfold Oper.wp
    have:execOp a.eval o=(do Instr.storeAt t (a.eval x) (a.eval y);pure .skip):=by simp[execOp,hop]
    rw[this]
    simp only[Sem.run_bind,h1,Result.andThen_ok,Sem.run_pure]
    exact hk (.v .undef) undef us rs G' w' trivial h2 h3
  ·simp at e
 case nilCheck x=>
  split at e
  ·rename_i i j hp
   have hr:=lH h hp
   obtain⟨L,b,q,_,_,_,hv⟩:=aC.of_v hr (by simp)
   simp only[ay,and_true]at hv
   rw[hv]at hr
   exact pure1 (by simp[execOp,hop,hv]) hr e
  ·rename_i i j q hp
   have hr:=lH h hp
   obtain⟨L,b,n,c,_,_,_,_,_,hv⟩:=aC.of_v hr (by simp)
   simp only[ay,and_true]at hv
   rw[hv]at hr
   exact pure1 (by simp[execOp,hop,hv]) hr e
  ·rename_i τ x' q hp
   have hr:=lH h hp
   obtain⟨b,n,us,hS,h0,h1,hv⟩:=aC.of_v hr (by simp)
   simp only[ay,and_true]at hv
   rw[hv]at hr
   exact pure1 (by simp[execOp,hop,hv]) hr e
  ·simp at e
 case binOp op t x y yt=>
  split at e
  ·rename_i p q hp hq
   have hd:=tj hC x y (aC.of_v (lH h hp) (by simp)) (aC.of_v (lH h hq) (by simp)) e
   exact aI (by simp[execOp,hop]) (co.ofPV h hd) hk
  ·rename_i p q _ hp hq
   by_cases hu:p= .undef
   ·subst hu;simp[so]at e
   by_cases hu':q= .undef
   ·subst hu';exfalso;cases p<;>simp[so]at e
   have hd:=vA (P:=C.P) t x y (aC.of_v (lH h hp) hu) (aC.of_v (lH h hq) hu') e
   exact aI (by simp[execOp,hop]) (co.ofPV h hd) hk
  ·rename_i p q hp hq
   have r1:=cH h x
   have r2:=cH h y
   rw[hp]at r1;rw[hq]at r2
   exact aI (by simp[execOp,hop]) (co.ofPV h (yT hC x y r1 r2 e)) hk
  ·simp at e
 case unOp op t x=>
  split at e
  ·rename_i p hp
   by_cases hu:p= .undef
   ·subst hu;exfalso;cases op<;>simp[DT]at e
   exact aI (by simp[execOp,hop]) (co.ofPV h (yj (P:=C.P) (aC.of_v (lH h hp) hu) e)) hk
  ·simp at e
 case convert src dst x=>
  split at e
  ·rename_i p hp
   rcases ab e with⟨hc,e⟩|⟨_,e⟩
   ·by_cases hu:p= .undef
    ·subst hu;simp[g7]at e
    exact aI (by simp[execOp,hop]) (rS hC h hid (aC.of_v (lH h hp) hu) e) hk
   ·by_cases hu:p= .undef
    ·subst hu;exfalso;unfold ky at e;split at e<;>simp_all [St.asList]
    exact aI (by simp[execOp,hop]) (co.ofPV h (tN hC h (aC.of_v (lH h hp) hu) e)) hk
  ·simp at e
 case makeFunc fn first captured=>
  cases fn<;>simp only[]at e<;>try (simp at e;done)
  rename_i f
  split at e
  ·rename_i h1
   have e1:first= #[]:=by simpa using h1
   have hd:=nC (C:=C) h e
   exact aI (X:=pure (.func (.func f) #[] (captured.toList.map a.eval).toArray)) (by
    have hm:(captured.toList.map a.eval).toArray=captured.map a.eval:=by apply Array.toList_inj.1;simp
    simp[execOp,hop,Instr.makeFunc,e1,hm]) hd hk
  ·simp at e
 case slice t x lo hi mx=>
  cases mx with
  |some _=>simp at e
  |none=>
   rcases ab e with⟨_,e⟩|⟨_,e⟩
   ·exact aI (by simp[execOp,hop]) (se hC h x e) hk
   ·rcases ab e with⟨_,e⟩|⟨_,e⟩
    ·exact aI (by simp[execOp,hop]) (vS hC h hid x e) hk
    ·exact aI (by simp[execOp,hop]) (tK hC h x e) hk
 case fieldAddr t x f=>
  split at e
  ·rename_i p off size hp hf
   rcases ab e with⟨h1,e⟩|⟨_,e⟩
   ·split at e
    ·rename_i q hq
     by_cases hu:p= .undef
     ·subst hu;simp[nR]at hq
     obtain⟨b,q0,hv,hr⟩:=tL (aC.of_v (lH h hp) hu) hq
     exact aI (X:=Instr.fieldAt t (a.eval x) f) (by simp[execOp,hop]) (co.pure h (by rw[hv];exact qc hC hf (bi h1) b q0) (aC.v hr) e) hk
    ·simp at e
   ·simp at e
  ·simp at e
 case field t x f=>
  split at e
  ·rename_i cs off size agg hp hf hg
   split at e
   ·rename_i c hcut
    have hr:=cH h x
    rw[hp]at hr
    obtain⟨vs,hv,hc⟩:=hr
    obtain⟨g1,g2,g3⟩:=aj.cut hc hcut
    have hrun:=yD (w:=w) hC hf hg g3
    rcases ab e with⟨ha,e⟩|⟨ha,e⟩
    ·exact aI (X:=Instr.field t (a.eval x) f) (by simp[execOp,hop]) (co.pure (x:= .agg c) h (by rw[hv];exact hrun.1 ha) ⟨_,rfl,g1⟩ e) hk
    ·split at e
     ·rename_i c0 _
      rcases ab e with⟨hw,e⟩|⟨_,e⟩
      ·have hu:=aj.of_one g1
       have hl:=aP.length hu
       rw[aG hw]at hl
       obtain⟨y,hy⟩:=List.length_eq_one_iff.1 hl
       rw[hy]at hu
       exact aI (X:=Instr.field t (a.eval x) f) (by simp[execOp,hop]) (co.pure h (by rw[hv];exact hrun.2 ha y hy) (aC.v hu) e) hk
      ·simp at e
     ·simp at e
   ·simp at e
  ·simp at e
 case indexAddr t x i=>
  have hi:(s.ev i).pv≠ .undef:=fun hh=>by rw[hh]at e;simp[cr]at e
  have hx:(s.ev x).pv≠ .undef:=fun hh=>by rw[hh]at e;unfold cr at e;split at e<;>simp at e
  have hd:=mo hC h (fD h x rfl hx) (fD h i rfl hi) e
  exact aI (by simp[execOp,hop]) (co.ofPV h hd) hk
 case index t x i=>
  have hi:(s.ev i).pv≠ .undef:=fun hh=>by rw[hh]at e;simp[kT]at e
  exact aI (by simp[execOp,hop]) (sf hC h (cH h x) (fD h i rfl hi) e) hk
 case extract t i=>
  exact aI (by simp[execOp,hop]) (oR (P:=C.P) h (cH h t) e) hk
 case call c=>
  obtain⟨callee,args,argTypes⟩:=c
  have hargs:=su h args.toList
  have harr:(args.toList.map a.eval).toArray=args.map a.eval:=by apply Array.toList_inj.1;simp
  split at e
  ·rename_i f hcal
   simp only at hcal
   subst hcal
   exact xE hC hE h hid0 hargs e hk (by rw[harr];simp[execOp,hop,resolve,Deferred.ofValue,invoke,Act.eval])
  ·rename_i f _ hcal
   simp only at hcal
   subst hcal
   unfold Cl at e
   split at e
   ·rename_i g caps hp
    split at e
    ·rename_i ys hys
     have hr:=cH h f
     rw[hp]at hr
     obtain⟨us,hv,hT⟩:=aC.of_v hr (by simp)
     simp only[ay,and_true]at hv
     replace e:=(ab e).elim (fun x=>x.2) (fun x=>by have:=x.2;simp at this)
     exact xE hC hE h hid0 (hargs.append (AN hT hys)) e hk (by rw[←List.append_toArray,harr];simp[execOp,hop,resolve,Deferred.ofValue,invoke,hv])
    ·simp at e
   ·simp at e
  ·rename_i hcal
   simp only at hcal
   subst hcal
   split at e
   ·rename_i x t h1 h2
    have e1:args= #[x]:=by apply Array.toList_inj.1;simpa using h1
    have e2:argTypes= #[t]:=by apply Array.toList_inj.1;simpa using h2
    have hne:(s.ev x).pv≠ .undef:=fun hh=>by rw[hh]at e;simp[qe,St.asRow,St.asList]at e
    exact aI (by simp[execOp,hop,resolve,invoke,builtin,e1,e2]) (co.ofPV h (vT (ty:=o.type) hC h (fD h x rfl hne) e)) hk
   ·simp at e
  ·rename_i hcal
   simp only at hcal
   subst hcal
   split at e
   ·rename_i x y t t' h1 h2
    have e1:args= #[x,y]:=by apply Array.toList_inj.1;simpa using h1
    have e2:argTypes= #[t,t']:=by apply Array.toList_inj.1;simpa using h2
    rcases ab e with⟨ht,e0⟩|⟨_,e0⟩
    ·have ht:t=t':=aG ht
     subst ht
     clear e
     have e:=e0
     rcases ab e with⟨hv,ev⟩|⟨_,ev⟩
     ·have hne:=CK ev
      exact aI (by simp[execOp,hop,resolve,invoke,builtin,e1,e2]) (vM (ty:=o.type) hC h (fD h x rfl hne.1) (fD h y rfl hne.2) ev) hk
     ·have hne:=wk ev
      exact aI (by simp[execOp,hop,resolve,invoke,builtin,e1,e2]) (qb (ty:=o.type) hC h hid (fD h x rfl hne.1) (fD h y rfl hne.2) ev) hk
    ·simp at e0
   ·simp at e
  ·rename_i hcal
   simp only at hcal
   subst hcal
   split at e
   ·rename_i p hp
    obtain⟨v,h1,h2⟩:=wl (P:=C.P) (ats:=argTypes) (ty:=o.type) h hp
    rw[harr]at h1
    exact aI (X:=Builtin.max_ argTypes o.type (args.map a.eval)) (by simp[execOp,hop,resolve,invoke,builtin]) (co.pure h h1 (aC.v h2) e) hk
   ·simp at e
  ·rename_i hcal
   simp only at hcal
   subst hcal
   split at e
   ·rename_i p hp
    obtain⟨v,h1,h2⟩:=wm (P:=C.P) (ats:=argTypes) (ty:=o.type) h hp
    rw[harr]at h1
    exact aI (X:=Builtin.min_ argTypes o.type (args.map a.eval)) (by simp[execOp,hop,resolve,invoke,builtin]) (co.pure h h1 (aC.v h2) e) hk
   ·simp at e
  ·simp at e
end Go.Ps
