import Derived.Test.YtpnefldgohbepaaGreatPsMa
namespace Go.Ps
set_option linter.unusedVariables false
variable {S S':Nat→Prop} {σ σ':Sg} {w w':World} {E:En} {G:Gh} {s s':St} {a:Act} {C:cv} {R:Type} {r:R}
variable {next:Act→World→Prop} {Q:Exit→Act→World→Prop} {o:Oper} {env:C.Env}
def L8 (E:En) (a:Act) (s:St) (o:Oper) (k:SV→List cj→List Nat→Option R) (r:R) (next:Act→World→Prop):Prop:=
 ∀x v us rs G' w',aO (Gh.S G') (Gh.σ G') w' x v→aY E G' (s.upds us) a w'→k x us rs=some r→next (a.put o.dst v) w'
theorem ba {X:Sem Value} {k:SV→List cj→List Nat→Option R} (ho:execOp a.eval o=(do pure (.value (←X)))) (hd:cV E a C.P X w s k r) (hk:L8 E a s o k r next):o.wp C.P a w next Q:=by
 obtain⟨x,v,us,rs,G',w',h1,h2,h3,h4⟩:=hd
 unfold Oper.wp
 rw[ho]
 simp only[Sem.run_bind,h1,Result.andThen_ok,Sem.run_pure]
 exact hk x v us rs G' w' h2 h3 h4
theorem mY (h:aY E G s a w) {x:Operand} {p:PV} (e:s.ev x= .v p):aO G.S G.σ w (.v p) (a.eval x):=by
 have:=dj h x;rwa [e]at this
theorem iJ (h:aY E G s a w) (x:Operand) {p:PV} (hp:(s.ev x).pv=p) (hne:p≠ .undef):bd G.S G.σ w p [a.eval x]:=by
 have hr:=dj h x
 cases hs:s.ev x with
 |v q=>rw[hs]at hr hp;simp only[SV.pv]at hp;subst hp;exact aO.of_v hr hne
 |agg _=>rw[hs]at hp;exact absurd hp.symm hne
 |tup _ _=>rw[hs]at hp;exact absurd hp.symm hne
theorem vA (h:aY E G s a w):∀(xs:List Operand),dZ (fun x v=>aO G.S G.σ w x v) (xs.map s.ev) (xs.map a.eval)
 | []=> .nil
 |x::xs=> .cons (dj h x) (vA h xs)
theorem vB (h:aY E G s a w):∀(xs:List Operand),(∀x∈xs,(s.ev x).pv≠ .undef)→dZ (fun p v=>bd G.S G.σ w p [v]) (xs.map fun x=>(s.ev x).pv) (xs.map a.eval)
 | [],_=> .nil
 |x::xs,hn=> .cons (iJ h x rfl (hn x (by simp))) (vB h xs fun y hy=>hn y (by simp[hy]))
theorem dZ.append {α β:Type} {Q:α→β→Prop}:∀{xs xs':List α} {ys ys':List β},dZ Q xs ys→dZ Q xs' ys'→dZ Q (xs++xs') (ys++ys')
 |_,_,_,_,.nil,h=>h
 |_,_,_,_,.cons h t,h'=> .cons h (t.append h')
theorem oR (hC:C.OK) (hE:i5 E.I C env) (h:aY E G s a w) {id:Nat} (hid:id%128=0) {f:FuncId} {xs:List SV} {vals:List Value} (hx:dZ (fun x v=>aO G.S G.σ w x v) xs vals) {k:SV→List cj→List Nat→Option R}:
  ∀(gs:List Nat),(∀g∈gs,C.real g=f)→kF C env id s xs k gs=some r→
  (∃g sg,g∈gs∧C.sig g=some sg)∧Calls C.P f vals.toArray w fun e w'=>∃v x us rs G',e= .returned v∧aO (Gh.S G') (Gh.σ G') w' x v∧aY E G' (s.upds us) a w'∧k x us rs=some r
 | [],_,e=>by simp[kF]at e
 |g::gs,hg,e=>by
  have next:kF C env id s xs k gs=some r→_:=fun e=>by
   have:=oR hC hE h hid hx gs (fun g hg'=>hg g (by simp[hg'])) e
   exact(⟨let⟨g,sg,h1,h2⟩:=this.1;⟨g,sg,by simp[h1],h2⟩,this.2⟩:(∃g' sg,g'∈g::gs∧C.sig g'=some sg)∧Calls C.P f vals.toArray w fun e w'=>∃v x us rs G',e= .returned v∧aO (Gh.S G') (Gh.σ G') w' x v∧aY E G' (s.upds us) a w'∧k x us rs=some r)
  simp only[kF]at e
  split at e
  ·rename_i sg hsg
   split at e
   ·rename_i A hA
    refine⟨⟨g,sg,by simp,hsg⟩, ?_⟩
    have:=xn hC hE h hid hsg hx hA e
    rw[hg g (by simp)]at this
    exact this
   ·exact next e
  ·exact next e
theorem BT (hC:C.OK) (hE:i5 E.I C env) (h:aY E G s a w) {id:Nat} (hid:id%128=0) {f:FuncId} {xs:List SV} {vals:List Value} (hx:dZ (fun x v=>aO G.S G.σ w x v) xs vals) {k:SV→List cj→List Nat→Option R} (e:ke C env id s f xs k=some r) (hk:L8 E a s o k r next)
  (hrun:(execOp a.eval o).run C.P w=(callFunc f vals.toArray).run C.P w):o.wp C.P a w next Q:=by
 obtain⟨⟨g,sg,hg,hsg⟩,hcall⟩:=oR hC hE h hid hx (C.alts f) (fun g hg=>hC.alts f g hg) e
 unfold Oper.wp
 rw[hrun,←hC.alts f g hg,uY hC hsg,Oper.upon_enter]
 rw[hC.alts f g hg]
 refine hcall.mono ?_
 rintro en w' ⟨v,x,us,rs,G',rfl,h1,h2,h3⟩
 exact hk x v us rs G' w' h1 h2 h3
theorem zM {id:Nat} {sl:TypeId} {x y:PV} {k:PV→List cj→Option R} (e:eJ C s id sl x y k=some r):x≠ .undef∧y≠ .undef:=by
 unfold eJ at e
 split at e
 ·split at e
  ·rcases ah e with⟨_,e⟩|⟨_,e⟩
   ·split at e
    ·rename_i hm
     refine⟨fun hx=> ?_,fun hy=> ?_⟩
     ·subst hx
      unfold pp at hm
      split at hm
      ·split at hm
       ·rcases ah hm with⟨_,hm⟩|⟨_,hm⟩
        ·split at hm<;>simp at hm
        ·simp at hm
       ·rcases ah hm with⟨_,hm⟩|⟨_,hm⟩
        ·split at hm<;>simp at hm
        ·simp at hm
       ·simp at hm
      ·simp at hm
     ·subst hy;simp[pp]at hm
    split at e
    ·rename_i hm
     refine⟨fun hx=> ?_,fun hy=> ?_⟩
     ·subst hx;simp at e
     ·subst hy;simp[mn,St.asList]at hm
    ·simp at e
   ·simp at e
  ·simp at e
 ·simp at e
theorem BU:∀{ps:List PV} {kd:IntKind} {x:Int} {p:PV},zG kd x ps=some p→∀q∈ps,q≠ .undef
 | [],_,_,_,_,q,h=>by simp at h
 |q::ps,kd,x,p,e,q',h=>by
  cases q<;>simp only[zG]at e<;>try (simp at e;done)
  rcases List.mem_cons.1 h with rfl|h
  ·simp
  ·exact BU e q' h
theorem BV:∀{ps:List PV} {kd:IntKind} {x:Int} {p:PV},zH kd x ps=some p→∀q∈ps,q≠ .undef
 | [],_,_,_,_,q,h=>by simp at h
 |q::ps,kd,x,p,e,q',h=>by
  cases q<;>simp only[zH]at e<;>try (simp at e;done)
  rcases List.mem_cons.1 h with rfl|h
  ·simp
  ·exact BV e q' h
theorem zN {P:Program} (h:aY E G s a w) {xs:List Operand} {ats:Array TypeId} {ty:TypeId} {p:PV} (e:Ka (xs.map fun x=>(s.ev x).pv)=some p):∃v,(Builtin.max_ ats ty (xs.map a.eval).toArray).run P w= .ok v w∧bd G.S G.σ w p [v]:=by
 cases xs with
 |nil=>simp[Ka]at e
 |cons x xs=>
  simp only[List.map_cons]at e⊢
  cases hx:(s.ev x).pv<;>rw[hx]at e<;>simp only[Ka]at e<;>try (simp at e;done)
  have hv:=fC (x:= .undef) (iJ h x hx (by simp))
  obtain⟨v,h1,h2⟩:=zu (P:=P) _ _ _ _ _ (vB h xs fun y hy=>BU e _ (List.mem_map.2 ⟨y,hy,rfl⟩)) e
  exact⟨v,by simp only[Builtin.max_,hv];exact h1,h2⟩
theorem zP {P:Program} (h:aY E G s a w) {xs:List Operand} {ats:Array TypeId} {ty:TypeId} {p:PV} (e:Kb (xs.map fun x=>(s.ev x).pv)=some p):∃v,(Builtin.min_ ats ty (xs.map a.eval).toArray).run P w= .ok v w∧bd G.S G.σ w p [v]:=by
 cases xs with
 |nil=>simp[Kb]at e
 |cons x xs=>
  simp only[List.map_cons]at e⊢
  cases hx:(s.ev x).pv<;>rw[hx]at e<;>simp only[Kb]at e<;>try (simp at e;done)
  have hv:=fC (x:= .undef) (iJ h x hx (by simp))
  obtain⟨v,h1,h2⟩:=zw (P:=P) _ _ _ _ _ (vB h xs fun y hy=>BV e _ (List.mem_map.2 ⟨y,hy,rfl⟩)) e
  exact⟨v,by simp only[Builtin.min_,hv];exact h1,h2⟩
theorem Hd {caps:List sL} {us:List Value} {ys:List SV} (hc:fj S σ w caps us) (e:nW caps=some ys):dZ (fun x v=>aO S σ w x v) ys us:=by
 induction caps generalizing us ys with
 |nil=>cases hc;simp only[nW,aa]at e;subst e;exact .nil
 |cons c caps ih=>
  obtain⟨v,us,rfl,h1,h2⟩:=hc
  simp only[nW]at e
  split at e
  ·rename_i x xs hx hxs
   simp only[aa]at e
   subst e
   refine .cons ?_ (ih h2 hxs)
   cases c with
   |dat τ d=>
    rcases oJ hx with⟨ha,_⟩|⟨_,c,e1,e2,rfl⟩
    ·simp at ha
    ·have:=cO (σ:=σ) _ _ _ (show aJ S w τ d [v] from h1)
     rw[e1]at this
     exact aO.v (ar.of_one this)
   |agg τ d=>
    simp only[sL.sv,aa]at hx;subst hx
    obtain⟨us,rfl,h1⟩:=h1
    exact⟨us,rfl,cO _ _ _ h1⟩
   |cref τ d=>
    simp only[sL.sv,aa]at hx;subst hx
    obtain⟨b,o,us,hb,hr,ht,rfl⟩:=h1
    exact aO.v ⟨b,o,us,hb,hr,ht,rfl⟩
   |ref id=>
    simp only[sL.sv,aa]at hx;subst hx
    obtain⟨L,b,o,hL,hv,rfl⟩:=h1
    exact aO.v (p:= .ptr id (.at 0)) ⟨L,b,o,hL,hv,trivial,by rw[hv];simp[eu.off]⟩
  ·simp at e
theorem Dm (h:aY E G s a w) {S1:Nat→Prop} (hS:∀b,G.S b→S1 b) {p:PK} {x:SV} {v:Value} {c:sL} {is:List Nat} (hx:aO G.S G.σ w x v) (e:t6 s p x=some (c,is)) (hV:∀i∈is,∀k∈G.β i,S1 k):kB S1 G.σ w c v:=by
 have pvr:∀{p:PV},x.pv=p→p≠ .undef→bd G.S G.σ w p [v]:=by
  intro p hp hne
  cases x with
  |v q=>simp only[SV.pv]at hp;subst hp;exact aO.of_v hx hne
  |agg _=>exact absurd hp.symm hne
  |tup _ _=>exact absurd hp.symm hne
 cases p<;>simp only[t6]at e<;>try (simp at e;done)
 case val τ=>
  split at e
  ·rename_i cs hc
   split at e
   ·rename_i d hd
    split at e
    ·rename_i y hy
     simp only[aa,ay]at e
     obtain⟨rfl,rfl⟩:=e
     have ht:=bT (dq (σ':=G.σ) h hS hV (dz hx hc)) hd
     have hv:=BH hx hc
     cases ha:x.isA with
     |true=>exact⟨v.cells.toList,hv.1 ha,ht⟩
     |false=>rw[hv.2 ha]at ht;exact ht
    ·simp at e
   ·simp at e
  ·simp at e
 case ro τ=>
  split at e
  ·rename_i id hp
   split at e
   ·rename_i cs hb
    split at e
    ·rename_i d hd
     simp only[aa,ay]at e
     obtain⟨rfl,rfl⟩:=e
     obtain⟨L,b,o,hL,hv,_,hx1⟩:=pvr hp (by simp)
     simp only[aC,and_true,eu.off,Nat.add_zero]at hx1
     have key:∃vs,ar G.S G.σ w cs vs∧w.rangeAt b o vs∧S1 b:=by
      unfold lR at hb
      split at hb
      ·rename_i cs' hm
       simp only[aa]at hb;subst hb
       obtain⟨L',hL',b',o',vs,hv',hc,hr,_,hβ⟩:=h.mem id _ hm
       rw[hL]at hL';simp only[aa]at hL';subst hL'
       rw[hv]at hv'
       simp only[Value.pointer.injEq,aa,Addr.mk.injEq,and_true]at hv'
       obtain⟨rfl,rfl⟩:=hv'
       exact⟨vs,hc,hr,hV id (by simp) b (by simp[hβ])⟩
      ·rename_i cs' hm
       simp only[aa]at hb;subst hb
       obtain⟨L',hL',_,b',o',vs,hv',hs,hc,hr⟩:=h.mem id _ hm
       rw[hL]at hL';simp only[aa]at hL';subst hL'
       rw[hv]at hv'
       simp only[Value.pointer.injEq,aa,Addr.mk.injEq,and_true]at hv'
       obtain⟨rfl,rfl⟩:=hv'
       exact⟨vs,hc,hr,hS b hs⟩
      ·simp at hb
     obtain⟨vs,hc,hr,hb1⟩:=key
     exact⟨b,o,vs,hb1,hr,bT (dq (σ':=G.σ) h hS (fun i hi=>hV i (by simp[hi])) hc) hd,hx1⟩
    ·simp at e
   ·simp at e
  ·rename_i τ' d hp
   simp only[aa,ay]at e
   obtain⟨rfl,rfl⟩:=e
   obtain⟨b,o,us,hb,hr,ht,hx1⟩:=pvr hp (by simp)
   simp only[aC,and_true]at hx1
   exact⟨b,o,us,hS b hb,hr,aJ.keep hS (fun _ _=>rfl) _ _ _ ht,by rw[hx1];simp⟩
  ·simp at e
 case var τ f=>
  split at e
  ·rename_i id hp
   simp only[aa,ay]at e
   obtain⟨rfl,rfl⟩:=e
   obtain⟨L,b,o,hL,hv,_,hx1⟩:=pvr hp (by simp)
   simp only[aC,and_true,eu.off,Nat.add_zero]at hx1
   exact⟨L,b,o,hL,hv,by rw[hx1,hv]⟩
  ·simp at e
 case dvar τ f=>
  split at e
  ·rename_i id hp
   simp only[aa,ay]at e
   obtain⟨rfl,rfl⟩:=e
   obtain⟨L,b,o,hL,hv,_,hx1⟩:=pvr hp (by simp)
   simp only[aC,and_true,eu.off,Nat.add_zero]at hx1
   exact⟨L,b,o,hL,hv,by rw[hx1,hv]⟩
  ·simp at e
theorem rf (h:aY E G s a w) {S1:Nat→Prop} (hS:∀b,G.S b→S1 b):∀{ps:List PK} {xs:List SV} {vs:List Value} {cs:List sL} {is:List Nat},dZ (fun x v=>aO G.S G.σ w x v) xs vs→gq s ps xs=some (cs,is)→(∀i∈is,∀k∈G.β i,S1 k)→fj S1 G.σ w cs vs
 | [],_,_,cs,is,.nil,e,_=>by simp only[gq,aa,ay]at e;obtain⟨rfl,rfl⟩:=e;rfl
 | [],_,_,cs,is,.cons _ _,e,_=>by simp[gq]at e
 |_::_,_,_,cs,is,.nil,e,_=>by simp[gq]at e
 |p::ps,_,_,cs,is,.cons hx ht,e,hV=>by
  simp only[gq]at e
  split at e
  ·rename_i c i cs' is' h1 h2
   simp only[aa,ay]at e
   obtain⟨rfl,rfl⟩:=e
   exact⟨_,_,rfl,Dm h hS hx h1 fun i hi=>hV i (by simp[hi]),rf h hS ht h2 fun i hi=>hV i (by simp[hi])⟩
  ·simp at e
theorem pt (h:aY E G s a w) {f:FuncId} {xs:List Operand} {k:SV→List cj→List Nat→Option R} (e:d7 C s f (xs.map s.ev) (fun p us rs=>k (.v p) us rs)=some r):
  cV E a C.P (pure (.func (.func f) #[] (xs.map a.eval).toArray)) w s k r:=by
 unfold d7 at e
 split at e
 ·split at e
  ·split at e
   ·rename_i cs is hcs
    rcases ah e with⟨hp,e⟩|⟨_,e⟩
    ·obtain⟨G',g1,g2,g3,_,_,g6⟩:=h.frzs is (xl hp)
     refine⟨.v (.fn f cs),_,is.map .frz,is,G',w,rfl,aO.v ⟨xs.map a.eval,rfl, ?_⟩,g6,e⟩
     rw[g1]
     exact rf h g2 (vA h xs) hcs g3
    ·simp at e
   ·simp at e
  ·simp at e
 ·split at e
  ·rename_i hx
   have:xs=[]:=by simpa using hx
   subst this
   exact⟨.v (.fn f []),_,[],[],G,w,rfl,aO.v ⟨[],rfl,rfl⟩,h,e⟩
  ·simp at e
theorem He (hC:C.OK) (hE:i5 E.I C env) (h:aY E G s a w) {id:Nat} (hid0:id%128=0) {k:SV→List cj→List Nat→Option R} (e:zI C env id o.op s k=some r) (hk:L8 E a s o k r next):o.wp C.P a w next Q:=by
 have hid:id%128<64:=by omega
 have pure1:∀{x:SV} {v:Value} {rs:List Nat},execOp a.eval o=pure (.value v)→aO G.S G.σ w x v→k x [] rs=some r→o.wp C.P a w next Q:=by
  intro x v rs ho hx e
  unfold Oper.wp
  rw[ho]
  simp only[Sem.run_pure]
  exact hk x v [] rs G w hx h e
 cases hop:o.op<;>rw[hop]at e<;>simp only[zI]at e<;>try (simp at e;done)
 case move x=>exact pure1 (by simp[execOp,hop]) (dj h x) e
 case assign x=>exact pure1 (by simp[execOp,hop]) (dj h x) e
 case pick c x y=>
  have hd:=wW (P:=C.P) h (dj h c) (dj h x) (dj h y) e
  exact ba (by simp[execOp,hop]) hd hk
 case alloc t=>
  split at e
  ·rename_i I hI
   exact ba (by simp[execOp,hop]) (wz hC h hI hid e) hk
  ·simp at e
 case box t x=>
  split at e
  ·rename_i I cs hI hcs
   rcases ah e with⟨_,e⟩|⟨_,e⟩
   ·exact ba (by simp[execOp,hop]) (CQ (t:=t) h hid (dj h x) hcs e) hk
   ·simp at e
  ·simp at e
 case build t ps=>exact ba (by simp[execOp,hop]) (wX hC h e) hk
 case buildSlice t n ps=>
  split at e
  ·rename_i q _ _ _ _ _ hI
   split at e
   ·rename_i Q' hQ
    split at e
    ·rename_i b hdp
     rcases ah e with⟨hb,e⟩|⟨_,e⟩
     ·simp only[az]at hb
      obtain⟨⟨h1,h2⟩,h3⟩:=hb
      obtain⟨hm,e⟩:=bo e
      exact ba (by simp[execOp,hop]) (xq hC h hI rfl hQ hid hdp (aM h1) (bC h2) (bC h3) hm e) hk
     ·simp at e
    split at e
    ·rename_i xs hxs
     rcases ah e with⟨hb,e⟩|⟨_,e⟩
     ·simp only[az]at hb
      obtain⟨⟨h1,h2⟩,h3⟩:=hb
      obtain⟨hm,e⟩:=bo e
      exact ba (by simp[execOp,hop]) (nR hC h hI rfl hQ hid hxs (aM h1) (bC h2) (bC h3) hm e) hk
     ·simp at e
    ·simp at e
   ·simp at e
  ·simp at e
 case makeSlice t n c=>
  rcases ah e with⟨hs,e⟩|⟨_,e⟩
  ·have hnc:a.eval c=a.eval n:=by
    unfold Lo at hs
    split at hs
    ·rw[aM hs]
    ·simp only[az,aW]at hs;rw[hs.1,hs.2]
    ·simp at hs
   have hne:(s.ev n).pv≠ .undef:=fun hh=>by rw[hh]at e;unfold cZ at e;split at e<;>simp_all
   exact ba (by simp[execOp,hop,hnc]) (nJ hC h hid (iJ h n rfl hne) e) hk
  ·simp at e
 case load t x=>
  split at e
  ·rename_i p hp
   by_cases hu:p= .undef
   ·subst hu;exfalso;unfold lO at e;split at e<;>simp[St.look,qX]at e
   ·exact ba (by simp[execOp,hop]) (xp hC h hid0 (aO.of_v (mY h hp) hu) e) hk
  ·simp at e
 case store t x y=>
  split at e
  ·rename_i p hp
   by_cases hu:p= .undef
   ·subst hu;exfalso;unfold iF at e;split at e<;>simp at e
   ·obtain⟨G',us,rs,w',h1,h2,h3⟩:=vm hC h (aO.of_v (mY h hp) hu) (dj h y) e
    unfold Oper.wp
    have:execOp a.eval o=(do Instr.storeAt t (a.eval x) (a.eval y);pure .skip):=by simp[execOp,hop]
    rw[this]
    simp only[Sem.run_bind,h1,Result.andThen_ok,Sem.run_pure]
    exact hk (.v .undef) undef us rs G' w' trivial h2 h3
  ·simp at e
 case nilCheck x=>
  split at e
  ·rename_i i j hp
   have hr:=mY h hp
   obtain⟨L,b,q,_,_,_,hv⟩:=aO.of_v hr (by simp)
   simp only[aC,and_true]at hv
   rw[hv]at hr
   exact pure1 (by simp[execOp,hop,hv]) hr e
  ·rename_i i j q hp
   have hr:=mY h hp
   obtain⟨L,b,n,c,_,_,_,_,_,hv⟩:=aO.of_v hr (by simp)
   simp only[aC,and_true]at hv
   rw[hv]at hr
   exact pure1 (by simp[execOp,hop,hv]) hr e
  ·rename_i τ x' q hp
   have hr:=mY h hp
   obtain⟨b,n,us,hS,h0,h1,hv⟩:=aO.of_v hr (by simp)
   simp only[aC,and_true]at hv
   rw[hv]at hr
   exact pure1 (by simp[execOp,hop,hv]) hr e
  ·simp at e
 case binOp op t x y yt=>
  split at e
  ·rename_i p q hp hq
   have hd:=ww hC x y (aO.of_v (mY h hp) (by simp)) (aO.of_v (mY h hq) (by simp)) e
   exact ba (by simp[execOp,hop]) (cV.ofPV h hd) hk
  ·rename_i p q _ hp hq
   by_cases hu:p= .undef
   ·subst hu;simp[vv]at e
   by_cases hu':q= .undef
   ·subst hu';exfalso;cases p<;>simp[vv]at e
   have hd:=zf (P:=C.P) t x y (aO.of_v (mY h hp) hu) (aO.of_v (mY h hq) hu') e
   exact ba (by simp[execOp,hop]) (cV.ofPV h hd) hk
  ·rename_i p q hp hq
   have r1:=dj h x
   have r2:=dj h y
   rw[hp]at r1;rw[hq]at r2
   exact ba (by simp[execOp,hop]) (cV.ofPV h (Dk hC x y r1 r2 e)) hk
  ·simp at e
 case unOp op t x=>
  split at e
  ·rename_i p hp
   by_cases hu:p= .undef
   ·subst hu;exfalso;cases op<;>simp[LX]at e
   exact ba (by simp[execOp,hop]) (cV.ofPV h (CN (P:=C.P) (aO.of_v (mY h hp) hu) e)) hk
  ·simp at e
 case convert src dst x=>
  split at e
  ·rename_i p hp
   rcases ah e with⟨hc,e⟩|⟨_,e⟩
   ·by_cases hu:p= .undef
    ·subst hu;simp[iH]at e
    exact ba (by simp[execOp,hop]) (vb hC h hid (aO.of_v (mY h hp) hu) e) hk
   ·by_cases hu:p= .undef
    ·subst hu;exfalso;unfold lQ at e;split at e<;>simp_all [St.asList]
    exact ba (by simp[execOp,hop]) (cV.ofPV h (wV hC h (aO.of_v (mY h hp) hu) e)) hk
  ·simp at e
 case makeFunc fn first captured=>
  cases fn<;>simp only[]at e<;>try (simp at e;done)
  rename_i f
  split at e
  ·rename_i h1
   have e1:first= #[]:=by simpa using h1
   have hd:=pt (C:=C) h e
   exact ba (X:=pure (.func (.func f) #[] (captured.toList.map a.eval).toArray)) (by
    have hm:(captured.toList.map a.eval).toArray=captured.map a.eval:=by apply Array.toList_inj.1;simp
    simp[execOp,hop,Instr.makeFunc,e1,hm]) hd hk
  ·simp at e
 case slice t x lo hi mx=>
  cases mx with
  |some _=>simp at e
  |none=>exact ba (by simp[execOp,hop]) (vp hC h x e) hk
 case fieldAddr t x f=>
  split at e
  ·rename_i p off size hp hf
   rcases ah e with⟨h1,e⟩|⟨_,e⟩
   ·split at e
    ·rename_i q hq
     by_cases hu:p= .undef
     ·subst hu;simp[pM]at hq
     obtain⟨b,q0,hv,hr⟩:=wT (aO.of_v (mY h hp) hu) hq
     exact ba (X:=Instr.fieldAt t (a.eval x) f) (by simp[execOp,hop]) (cV.pure h (by rw[hv];exact sY hC hf (bC h1) b q0) (aO.v hr) e) hk
    ·simp at e
   ·simp at e
  ·simp at e
 case field t x f=>
  split at e
  ·rename_i cs off size agg hp hf hg
   split at e
   ·rename_i c hcut
    have hr:=dj h x
    rw[hp]at hr
    obtain⟨vs,hv,hc⟩:=hr
    obtain⟨g1,g2,g3⟩:=ar.cut hc hcut
    have hrun:=C5 (w:=w) hC hf hg g3
    rcases ah e with⟨ha,e⟩|⟨ha,e⟩
    ·exact ba (X:=Instr.field t (a.eval x) f) (by simp[execOp,hop]) (cV.pure (x:= .agg c) h (by rw[hv];exact hrun.1 ha) ⟨_,rfl,g1⟩ e) hk
    ·split at e
     ·rename_i c0 _
      rcases ah e with⟨hw,e⟩|⟨_,e⟩
      ·have hu:=ar.of_one g1
       have hl:=bd.length hu
       rw[aM hw]at hl
       obtain⟨y,hy⟩:=List.length_eq_one_iff.1 hl
       rw[hy]at hu
       exact ba (X:=Instr.field t (a.eval x) f) (by simp[execOp,hop]) (cV.pure h (by rw[hv];exact hrun.2 ha y hy) (aO.v hu) e) hk
      ·simp at e
     ·simp at e
   ·simp at e
  ·simp at e
 case indexAddr t x i=>
  have hi:(s.ev i).pv≠ .undef:=fun hh=>by rw[hh]at e;simp[cK]at e
  have hx:(s.ev x).pv≠ .undef:=fun hh=>by rw[hh]at e;unfold cK at e;split at e<;>simp at e
  have hd:=nS hC h (iJ h x rfl hx) (iJ h i rfl hi) e
  exact ba (by simp[execOp,hop]) (cV.ofPV h hd) hk
 case index t x i=>
  have hi:(s.ev i).pv≠ .undef:=fun hh=>by rw[hh]at e;simp[mo]at e
  exact ba (by simp[execOp,hop]) (vq hC h (dj h x) (iJ h i rfl hi) e) hk
 case extract t i=>
  exact ba (by simp[execOp,hop]) (qS (P:=C.P) h (dj h t) e) hk
 case call c=>
  obtain⟨callee,args,argTypes⟩:=c
  have hargs:=vA h args.toList
  have harr:(args.toList.map a.eval).toArray=args.map a.eval:=by apply Array.toList_inj.1;simp
  split at e
  ·rename_i f hcal
   simp only at hcal
   subst hcal
   exact BT hC hE h hid0 hargs e hk (by rw[harr];simp[execOp,hop,resolve,Deferred.ofValue,invoke,Act.eval])
  ·rename_i f _ hcal
   simp only at hcal
   subst hcal
   unfold JH at e
   split at e
   ·rename_i g caps hp
    split at e
    ·rename_i ys hys
     have hr:=dj h f
     rw[hp]at hr
     obtain⟨us,hv,hT⟩:=aO.of_v hr (by simp)
     simp only[aC,and_true]at hv
     replace e:=(ah e).elim (fun x=>x.2) (fun x=>by have:=x.2;simp at this)
     exact BT hC hE h hid0 (hargs.append (Hd hT hys)) e hk (by rw[←List.append_toArray,harr];simp[execOp,hop,resolve,Deferred.ofValue,invoke,hv])
    ·simp at e
   ·simp at e
  ·rename_i hcal
   simp only at hcal
   subst hcal
   split at e
   ·rename_i x t h1 h2
    have e1:args= #[x]:=by apply Array.toList_inj.1;simpa using h1
    have e2:argTypes= #[t]:=by apply Array.toList_inj.1;simpa using h2
    have hne:(s.ev x).pv≠ .undef:=fun hh=>by rw[hh]at e;simp[tb,St.asRow,St.asList]at e
    exact ba (by simp[execOp,hop,resolve,invoke,builtin,e1,e2]) (cV.ofPV h (zt (ty:=o.type) hC h (iJ h x rfl hne) e)) hk
   ·simp at e
  ·rename_i hcal
   simp only at hcal
   subst hcal
   split at e
   ·rename_i x y t t' h1 h2
    have e1:args= #[x,y]:=by apply Array.toList_inj.1;simpa using h1
    have e2:argTypes= #[t,t']:=by apply Array.toList_inj.1;simpa using h2
    rcases ah e with⟨ht,e0⟩|⟨_,e0⟩
    ·have ht:t=t':=aM ht
     subst ht
     clear e
     have e:=e0
     have hne:=zM e
     exact ba (by simp[execOp,hop,resolve,invoke,builtin,e1,e2]) (sX (ty:=o.type) hC h hid (iJ h x rfl hne.1) (iJ h y rfl hne.2) e) hk
    ·simp at e0
   ·simp at e
  ·rename_i hcal
   simp only at hcal
   subst hcal
   split at e
   ·rename_i p hp
    obtain⟨v,h1,h2⟩:=zN (P:=C.P) (ats:=argTypes) (ty:=o.type) h hp
    rw[harr]at h1
    exact ba (X:=Builtin.max_ argTypes o.type (args.map a.eval)) (by simp[execOp,hop,resolve,invoke,builtin]) (cV.pure h h1 (aO.v h2) e) hk
   ·simp at e
  ·rename_i hcal
   simp only at hcal
   subst hcal
   split at e
   ·rename_i p hp
    obtain⟨v,h1,h2⟩:=zP (P:=C.P) (ats:=argTypes) (ty:=o.type) h hp
    rw[harr]at h1
    exact ba (X:=Builtin.min_ argTypes o.type (args.map a.eval)) (by simp[execOp,hop,resolve,invoke,builtin]) (cV.pure h h1 (aO.v h2) e) hk
   ·simp at e
  ·simp at e
end Go.Ps
