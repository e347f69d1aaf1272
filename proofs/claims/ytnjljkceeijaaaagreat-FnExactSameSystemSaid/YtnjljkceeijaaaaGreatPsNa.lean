import Derived.Test.YtnjljkceeijaaaaGreatPsMa
namespace Go.Ps
set_option linter.unusedVariables false
variable {S S':Nat→Prop} {σ σ':Sg} {w w':World} {E:En} {G:Gh} {s s':St} {a:Act} {C:bS} {R:Type} {r:R}
variable {next:Act→World→Prop} {Q:Exit→Act→World→Prop} {o:Oper} {env:C.Env}
def JL (E:En) (a:Act) (s:St) (o:Oper) (k:SV→List bG→List Nat→Option R) (r:R) (next:Act→World→Prop):Prop:=
 ∀x v us rs G' w',az (Gh.S G') (Gh.σ G') w' x v→aG E G' (s.upds us) a w'→k x us rs=some r→next (a.put o.dst v) w'
theorem aM {X:Sem Value} {k:SV→List bG→List Nat→Option R} (ho:execOp a.eval o=(do pure (.value (←X)))) (hd:co E a C.P X w s k r) (hk:JL E a s o k r next):o.wp C.P a w next Q:=by
 obtain⟨x,v,us,rs,G',w',h1,h2,h3,h4⟩:=hd
 unfold Oper.wp
 rw[ho]
 simp only[Sem.run_bind,h1,Result.andThen_ok,Sem.run_pure]
 exact hk x v us rs G' w' h2 h3 h4
theorem mb (h:aG E G s a w) {x:Operand} {p:PV} (e:s.ev x= .v p):az G.S G.σ w (.v p) (a.eval x):=by
 have:=cI h x;rwa [e]at this
theorem g7 (h:aG E G s a w) (x:Operand) {p:PV} (hp:(s.ev x).pv=p) (hne:p≠ .undef):aN G.S G.σ w p [a.eval x]:=by
 have hr:=cI h x
 cases hs:s.ev x with
 |v q=>rw[hs]at hr hp;simp only[SV.pv]at hp;subst hp;exact az.of_v hr hne
 |agg _=>rw[hs]at hp;exact absurd hp.symm hne
 |tup _ _=>rw[hs]at hp;exact absurd hp.symm hne
theorem t8 (h:aG E G s a w):∀(xs:List Operand),dg (fun x v=>az G.S G.σ w x v) (xs.map s.ev) (xs.map a.eval)
 | []=> .nil
 |x::xs=> .cons (cI h x) (t8 h xs)
theorem ua (h:aG E G s a w):∀(xs:List Operand),(∀x∈xs,(s.ev x).pv≠ .undef)→dg (fun p v=>aN G.S G.σ w p [v]) (xs.map fun x=>(s.ev x).pv) (xs.map a.eval)
 | [],_=> .nil
 |x::xs,hn=> .cons (g7 h x rfl (hn x (by simp))) (ua h xs fun y hy=>hn y (by simp[hy]))
theorem dg.append {α β:Type} {Q:α→β→Prop}:∀{xs xs':List α} {ys ys':List β},dg Q xs ys→dg Q xs' ys'→dg Q (xs++xs') (ys++ys')
 |_,_,_,_,.nil,h=>h
 |_,_,_,_,.cons h t,h'=> .cons h (t.append h')
theorem nQ (hC:C.OK) (hE:io E.I C env) (h:aG E G s a w) {id:Nat} (hid:id%128=0) {f:FuncId} {xs:List SV} {vals:List Value} (hx:dg (fun x v=>az G.S G.σ w x v) xs vals) {k:SV→List bG→List Nat→Option R}:
  ∀(gs:List Nat),(∀g∈gs,C.real g=f)→jL C env id s xs k gs=some r→
  (∃g sg,g∈gs∧C.sig g=some sg)∧Calls C.P f vals.toArray w fun e w'=>∃v x us rs G',e= .returned v∧az (Gh.S G') (Gh.σ G') w' x v∧aG E G' (s.upds us) a w'∧k x us rs=some r
 | [],_,e=>by simp[jL]at e
 |g::gs,hg,e=>by
  have next:jL C env id s xs k gs=some r→_:=fun e=>by
   have:=nQ hC hE h hid hx gs (fun g hg'=>hg g (by simp[hg'])) e
   exact(⟨let⟨g,sg,h1,h2⟩:=this.1;⟨g,sg,by simp[h1],h2⟩,this.2⟩:(∃g' sg,g'∈g::gs∧C.sig g'=some sg)∧Calls C.P f vals.toArray w fun e w'=>∃v x us rs G',e= .returned v∧az (Gh.S G') (Gh.σ G') w' x v∧aG E G' (s.upds us) a w'∧k x us rs=some r)
  simp only[jL]at e
  split at e
  ·rename_i sg hsg
   split at e
   ·rename_i A hA
    refine⟨⟨g,sg,by simp,hsg⟩, ?_⟩
    have:=wj hC hE h hid hsg hx hA e
    rw[hg g (by simp)]at this
    exact this
   ·exact next e
  ·exact next e
theorem Ac (hC:C.OK) (hE:io E.I C env) (h:aG E G s a w) {id:Nat} (hid:id%128=0) {f:FuncId} {xs:List SV} {vals:List Value} (hx:dg (fun x v=>az G.S G.σ w x v) xs vals) {k:SV→List bG→List Nat→Option R} (e:jo C env id s f xs k=some r) (hk:JL E a s o k r next)
  (hrun:(execOp a.eval o).run C.P w=(callFunc f vals.toArray).run C.P w):o.wp C.P a w next Q:=by
 obtain⟨⟨g,sg,hg,hsg⟩,hcall⟩:=nQ hC hE h hid hx (C.alts f) (fun g hg=>hC.alts f g hg) e
 unfold Oper.wp
 rw[hrun,←hC.alts f g hg,tH hC hsg,Oper.upon_enter]
 rw[hC.alts f g hg]
 refine hcall.mono ?_
 rintro en w' ⟨v,x,us,rs,G',rfl,h1,h2,h3⟩
 exact hk x v us rs G' w' h1 h2 h3
theorem yp {id:Nat} {sl:TypeId} {x y:PV} {k:PV→List bG→Option R} (e:dJ C s id sl x y k=some r):x≠ .undef∧y≠ .undef:=by
 unfold dJ at e
 split at e
 ·split at e
  ·rcases ac e with⟨_,e⟩|⟨_,e⟩
   ·split at e
    ·rename_i hm
     refine⟨fun hx=> ?_,fun hy=> ?_⟩
     ·subst hx
      unfold oe at hm
      split at hm
      ·split at hm
       ·rcases ac hm with⟨_,hm⟩|⟨_,hm⟩
        ·split at hm<;>simp at hm
        ·simp at hm
       ·rcases ac hm with⟨_,hm⟩|⟨_,hm⟩
        ·split at hm<;>simp at hm
        ·simp at hm
       ·simp at hm
      ·simp at hm
     ·subst hy;simp[oe]at hm
    split at e
    ·rename_i hm
     refine⟨fun hx=> ?_,fun hy=> ?_⟩
     ·subst hx;simp at e
     ·subst hy;simp[lw,St.asList]at hm
    ·simp at e
   ·simp at e
  ·simp at e
 ·simp at e
theorem Ad:∀{ps:List PV} {kd:IntKind} {x:Int} {p:PV},yi kd x ps=some p→∀q∈ps,q≠ .undef
 | [],_,_,_,_,q,h=>by simp at h
 |q::ps,kd,x,p,e,q',h=>by
  cases q<;>simp only[yi]at e<;>try (simp at e;done)
  rcases List.mem_cons.1 h with rfl|h
  ·simp
  ·exact Ad e q' h
theorem Ae:∀{ps:List PV} {kd:IntKind} {x:Int} {p:PV},yj kd x ps=some p→∀q∈ps,q≠ .undef
 | [],_,_,_,_,q,h=>by simp at h
 |q::ps,kd,x,p,e,q',h=>by
  cases q<;>simp only[yj]at e<;>try (simp at e;done)
  rcases List.mem_cons.1 h with rfl|h
  ·simp
  ·exact Ae e q' h
theorem yq {P:Program} (h:aG E G s a w) {xs:List Operand} {ats:Array TypeId} {ty:TypeId} {p:PV} (e:H0 (xs.map fun x=>(s.ev x).pv)=some p):∃v,(Builtin.max_ ats ty (xs.map a.eval).toArray).run P w= .ok v w∧aN G.S G.σ w p [v]:=by
 cases xs with
 |nil=>simp[H0]at e
 |cons x xs=>
  simp only[List.map_cons]at e⊢
  cases hx:(s.ev x).pv<;>rw[hx]at e<;>simp only[H0]at e<;>try (simp at e;done)
  have hv:=eF (x:= .undef) (g7 h x hx (by simp))
  obtain⟨v,h1,h2⟩:=xY (P:=P) _ _ _ _ _ (ua h xs fun y hy=>Ad e _ (List.mem_map.2 ⟨y,hy,rfl⟩)) e
  exact⟨v,by simp only[Builtin.max_,hv];exact h1,h2⟩
theorem yr {P:Program} (h:aG E G s a w) {xs:List Operand} {ats:Array TypeId} {ty:TypeId} {p:PV} (e:H1 (xs.map fun x=>(s.ev x).pv)=some p):∃v,(Builtin.min_ ats ty (xs.map a.eval).toArray).run P w= .ok v w∧aN G.S G.σ w p [v]:=by
 cases xs with
 |nil=>simp[H1]at e
 |cons x xs=>
  simp only[List.map_cons]at e⊢
  cases hx:(s.ev x).pv<;>rw[hx]at e<;>simp only[H1]at e<;>try (simp at e;done)
  have hv:=eF (x:= .undef) (g7 h x hx (by simp))
  obtain⟨v,h1,h2⟩:=xZ (P:=P) _ _ _ _ _ (ua h xs fun y hy=>Ae e _ (List.mem_map.2 ⟨y,hy,rfl⟩)) e
  exact⟨v,by simp only[Builtin.min_,hv];exact h1,h2⟩
theorem E0 {caps:List qY} {us:List Value} {ys:List SV} (hc:eo S σ w caps us) (e:m4 caps=some ys):dg (fun x v=>az S σ w x v) ys us:=by
 induction caps generalizing us ys with
 |nil=>cases hc;simp only[m4,Option.some.injEq]at e;subst e;exact .nil
 |cons c caps ih=>
  obtain⟨v,us,rfl,h1,h2⟩:=hc
  simp only[m4]at e
  split at e
  ·rename_i x xs hx hxs
   simp only[Option.some.injEq]at e
   subst e
   refine .cons ?_ (ih h2 hxs)
   cases c with
   |dat τ d=>
    rcases nH hx with⟨ha,_⟩|⟨_,c,e1,e2,rfl⟩
    ·simp at ha
    ·have:=bT (σ:=σ) _ _ _ (show ap S w τ d [v] from h1)
     rw[e1]at this
     exact az.v (aj.of_one this)
   |agg τ d=>
    simp only[qY.sv,Option.some.injEq]at hx;subst hx
    obtain⟨us,rfl,h1⟩:=h1
    exact⟨us,rfl,bT _ _ _ h1⟩
   |cref τ d=>
    simp only[qY.sv,Option.some.injEq]at hx;subst hx
    obtain⟨b,o,us,hb,hr,ht,rfl⟩:=h1
    exact az.v ⟨b,o,us,hb,hr,ht,rfl⟩
   |ref id=>
    simp only[qY.sv,Option.some.injEq]at hx;subst hx
    obtain⟨L,b,o,hL,hv,rfl⟩:=h1
    exact az.v (p:= .ptr id (.at 0)) ⟨L,b,o,hL,hv,trivial,by rw[hv];simp[dz.off]⟩
  ·simp at e
theorem Bz (h:aG E G s a w) {S1:Nat→Prop} (hS:∀b,G.S b→S1 b) {p:PK} {x:SV} {v:Value} {c:qY} {is:List Nat} (hx:az G.S G.σ w x v) (e:sF s p x=some (c,is)) (hV:∀i∈is,∀k∈G.β i,S1 k):jH S1 G.σ w c v:=by
 have pvr:∀{p:PV},x.pv=p→p≠ .undef→aN G.S G.σ w p [v]:=by
  intro p hp hne
  cases x with
  |v q=>simp only[SV.pv]at hp;subst hp;exact az.of_v hx hne
  |agg _=>exact absurd hp.symm hne
  |tup _ _=>exact absurd hp.symm hne
 cases p<;>simp only[sF]at e<;>try (simp at e;done)
 case val τ=>
  split at e
  ·rename_i cs hc
   split at e
   ·rename_i d hd
    split at e
    ·rename_i y hy
     simp only[Option.some.injEq,Prod.mk.injEq]at e
     obtain⟨rfl,rfl⟩:=e
     have ht:=bp (cL (σ':=G.σ) h hS hV (cQ hx hc)) hd
     have hv:=zT hx hc
     cases ha:x.isA with
     |true=>exact⟨v.cells.toList,hv.1 ha,ht⟩
     |false=>rw[hv.2 ha]at ht;exact ht
    ·simp at e
   ·simp at e
  ·simp at e
 case ro τ=>
  split at e
  ·rename_i id hp
   split at e
   ·rename_i cs hb
    split at e
    ·rename_i d hd
     simp only[Option.some.injEq,Prod.mk.injEq]at e
     obtain⟨rfl,rfl⟩:=e
     obtain⟨L,b,o,hL,hv,_,hx1⟩:=pvr hp (by simp)
     simp only[List.cons.injEq,and_true,dz.off,Nat.add_zero]at hx1
     have key:∃vs,aj G.S G.σ w cs vs∧w.rangeAt b o vs∧S1 b:=by
      unfold nN at hb
      split at hb
      ·rename_i cs' hm
       simp only[Option.some.injEq]at hb;subst hb
       obtain⟨L',hL',b',o',vs,hv',hc,hr,_,hβ⟩:=h.mem id _ hm
       rw[hL]at hL';simp only[Option.some.injEq]at hL';subst hL'
       rw[hv]at hv'
       simp only[Value.pointer.injEq,Option.some.injEq,Addr.mk.injEq,and_true]at hv'
       obtain⟨rfl,rfl⟩:=hv'
       exact⟨vs,hc,hr,hV id (by simp) b (by simp[hβ])⟩
      ·rename_i cs' hm
       simp only[Option.some.injEq]at hb;subst hb
       obtain⟨L',hL',_,b',o',vs,hv',hs,hc,hr⟩:=h.mem id _ hm
       rw[hL]at hL';simp only[Option.some.injEq]at hL';subst hL'
       rw[hv]at hv'
       simp only[Value.pointer.injEq,Option.some.injEq,Addr.mk.injEq,and_true]at hv'
       obtain⟨rfl,rfl⟩:=hv'
       exact⟨vs,hc,hr,hS b hs⟩
      ·simp at hb
     obtain⟨vs,hc,hr,hb1⟩:=key
     exact⟨b,o,vs,hb1,hr,bp (cL (σ':=G.σ) h hS (fun i hi=>hV i (by simp[hi])) hc) hd,hx1⟩
    ·simp at e
   ·simp at e
  ·rename_i τ' d hp
   simp only[Option.some.injEq,Prod.mk.injEq]at e
   obtain⟨rfl,rfl⟩:=e
   obtain⟨b,o,us,hb,hr,ht,hx1⟩:=pvr hp (by simp)
   simp only[List.cons.injEq,and_true]at hx1
   exact⟨b,o,us,hS b hb,hr,ap.keep hS (fun _ _=>rfl) _ _ _ ht,by rw[hx1];simp⟩
  ·simp at e
 case var τ f=>
  split at e
  ·rename_i id hp
   simp only[Option.some.injEq,Prod.mk.injEq]at e
   obtain⟨rfl,rfl⟩:=e
   obtain⟨L,b,o,hL,hv,_,hx1⟩:=pvr hp (by simp)
   simp only[List.cons.injEq,and_true,dz.off,Nat.add_zero]at hx1
   exact⟨L,b,o,hL,hv,by rw[hx1,hv]⟩
  ·simp at e
theorem pX (h:aG E G s a w) {S1:Nat→Prop} (hS:∀b,G.S b→S1 b):∀{ps:List PK} {xs:List SV} {vs:List Value} {cs:List qY} {is:List Nat},dg (fun x v=>az G.S G.σ w x v) xs vs→fp s ps xs=some (cs,is)→(∀i∈is,∀k∈G.β i,S1 k)→eo S1 G.σ w cs vs
 | [],_,_,cs,is,.nil,e,_=>by simp only[fp,Option.some.injEq,Prod.mk.injEq]at e;obtain⟨rfl,rfl⟩:=e;rfl
 | [],_,_,cs,is,.cons _ _,e,_=>by simp[fp]at e
 |_::_,_,_,cs,is,.nil,e,_=>by simp[fp]at e
 |p::ps,_,_,cs,is,.cons hx ht,e,hV=>by
  simp only[fp]at e
  split at e
  ·rename_i c i cs' is' h1 h2
   simp only[Option.some.injEq,Prod.mk.injEq]at e
   obtain⟨rfl,rfl⟩:=e
   exact⟨_,_,rfl,Bz h hS hx h1 fun i hi=>hV i (by simp[hi]),pX h hS ht h2 fun i hi=>hV i (by simp[hi])⟩
  ·simp at e
theorem ol (h:aG E G s a w) {f:FuncId} {xs:List Operand} {k:SV→List bG→List Nat→Option R} (e:dj C s f (xs.map s.ev) (fun p us rs=>k (.v p) us rs)=some r):
  co E a C.P (pure (.func (.func f) #[] (xs.map a.eval).toArray)) w s k r:=by
 unfold dj at e
 split at e
 ·split at e
  ·split at e
   ·rename_i cs is hcs
    rcases ac e with⟨hp,e⟩|⟨_,e⟩
    ·obtain⟨G',g1,g2,g3,_,_,g6⟩:=h.frzs is (wh hp)
     refine⟨.v (.fn f cs),_,is.map .frz,is,G',w,rfl,az.v ⟨xs.map a.eval,rfl, ?_⟩,g6,e⟩
     rw[g1]
     exact pX h g2 (t8 h xs) hcs g3
    ·simp at e
   ·simp at e
  ·simp at e
 ·split at e
  ·rename_i hx
   have:xs=[]:=by simpa using hx
   subst this
   exact⟨.v (.fn f []),_,[],[],G,w,rfl,az.v ⟨[],rfl,rfl⟩,h,e⟩
  ·simp at e
theorem E1 (hC:C.OK) (hE:io E.I C env) (h:aG E G s a w) {id:Nat} (hid0:id%128=0) {k:SV→List bG→List Nat→Option R} (e:yk C env id o.op s k=some r) (hk:JL E a s o k r next):o.wp C.P a w next Q:=by
 have hid:id%128<64:=by omega
 have pure1:∀{x:SV} {v:Value} {rs:List Nat},execOp a.eval o=pure (.value v)→az G.S G.σ w x v→k x [] rs=some r→o.wp C.P a w next Q:=by
  intro x v rs ho hx e
  unfold Oper.wp
  rw[ho]
  simp only[Sem.run_pure]
  exact hk x v [] rs G w hx h e
 cases hop:o.op<;>rw[hop]at e<;>simp only[yk]at e<;>try (simp at e;done)
 case move x=>exact pure1 (by simp[execOp,hop]) (cI h x) e
 case assign x=>exact pure1 (by simp[execOp,hop]) (cI h x) e
 case pick c x y=>
  have hd:=vK (P:=C.P) h (cI h c) (cI h x) (cI h y) e
  exact aM (by simp[execOp,hop]) hd hk
 case alloc t=>
  split at e
  ·rename_i I hI
   exact aM (by simp[execOp,hop]) (vf hC h hI hid e) hk
  ·simp at e
 case box t x=>
  split at e
  ·rename_i I cs hI hcs
   rcases ac e with⟨_,e⟩|⟨_,e⟩
   ·exact aM (by simp[execOp,hop]) (A3 (t:=t) h hid (cI h x) hcs e) hk
   ·simp at e
  ·simp at e
 case build t ps=>exact aM (by simp[execOp,hop]) (vM hC h e) hk
 case buildSlice t n ps=>
  split at e
  ·rename_i q _ _ _ _ _ hI
   split at e
   ·rename_i Q' hQ
    split at e
    ·rename_i b hdp
     rcases ac e with⟨hb,e⟩|⟨_,e⟩
     ·simp only[Bool.and_eq_true]at hb
      obtain⟨⟨h1,h2⟩,h3⟩:=hb
      obtain⟨hm,e⟩:=aS e
      exact aM (by simp[execOp,hop]) (wl hC h hI rfl hQ hid hdp (Nat.eq_of_beq_eq_true h1) (Nat.le_of_ble_eq_true h2) (Nat.le_of_ble_eq_true h3) hm e) hk
     ·simp at e
    split at e
    ·rename_i xs hxs
     rcases ac e with⟨hb,e⟩|⟨_,e⟩
     ·simp only[Bool.and_eq_true]at hb
      obtain⟨⟨h1,h2⟩,h3⟩:=hb
      obtain⟨hm,e⟩:=aS e
      exact aM (by simp[execOp,hop]) (mU hC h hI rfl hQ hid hxs (Nat.eq_of_beq_eq_true h1) (Nat.le_of_ble_eq_true h2) (Nat.le_of_ble_eq_true h3) hm e) hk
     ·simp at e
    ·simp at e
   ·simp at e
  ·simp at e
 case makeSlice t n c=>
  rcases ac e with⟨hs,e⟩|⟨_,e⟩
  ·have hnc:a.eval c=a.eval n:=by
    unfold Je at hs
    split at hs
    ·rw[Nat.eq_of_beq_eq_true hs]
    ·simp only[Bool.and_eq_true,decide_eq_true_eq]at hs;rw[hs.1,hs.2]
    ·simp at hs
   have hne:(s.ev n).pv≠ .undef:=fun hh=>by rw[hh]at e;unfold cr at e;split at e<;>simp_all
   exact aM (by simp[execOp,hop,hnc]) (mM hC h hid (g7 h n rfl hne) e) hk
  ·simp at e
 case load t x=>
  split at e
  ·rename_i p hp
   by_cases hu:p= .undef
   ·subst hu;exfalso;unfold kT at e;split at e<;>simp[St.look,pQ]at e
   ·exact aM (by simp[execOp,hop]) (wk hC h hid0 (az.of_v (mb h hp) hu) e) hk
  ·simp at e
 case store t x y=>
  split at e
  ·rename_i p hp
   by_cases hu:p= .undef
   ·subst hu;exfalso;unfold gW at e;split at e<;>simp at e
   ·obtain⟨G',us,rs,w',h1,h2,h3⟩:=tU hC h (az.of_v (mb h hp) hu) (cI h y) e
    unfold Oper.wp
    have:execOp a.eval o=(do Instr.storeAt t (a.eval x) (a.eval y);pure .skip):=by simp[execOp,hop]
    rw[this]
    simp only[Sem.run_bind,h1,Result.andThen_ok,Sem.run_pure]
    exact hk (.v .undef) undef us rs G' w' trivial h2 h3
  ·simp at e
 case nilCheck x=>
  split at e
  ·rename_i i j hp
   have hr:=mb h hp
   obtain⟨L,b,q,_,_,_,hv⟩:=az.of_v hr (by simp)
   simp only[List.cons.injEq,and_true]at hv
   rw[hv]at hr
   exact pure1 (by simp[execOp,hop,hv]) hr e
  ·rename_i i j q hp
   have hr:=mb h hp
   obtain⟨L,b,n,c,_,_,_,_,_,hv⟩:=az.of_v hr (by simp)
   simp only[List.cons.injEq,and_true]at hv
   rw[hv]at hr
   exact pure1 (by simp[execOp,hop,hv]) hr e
  ·rename_i τ x' q hp
   have hr:=mb h hp
   obtain⟨b,n,us,hS,h0,h1,hv⟩:=az.of_v hr (by simp)
   simp only[List.cons.injEq,and_true]at hv
   rw[hv]at hr
   exact pure1 (by simp[execOp,hop,hv]) hr e
  ·simp at e
 case binOp op t x y yt=>
  split at e
  ·rename_i p q hp hq
   have hd:=u9 hC x y (az.of_v (mb h hp) (by simp)) (az.of_v (mb h hq) (by simp)) e
   exact aM (by simp[execOp,hop]) (co.ofPV h hd) hk
  ·rename_i p q _ hp hq
   by_cases hu:p= .undef
   ·subst hu;simp[tZ]at e
   by_cases hu':q= .undef
   ·subst hu';exfalso;cases p<;>simp[tZ]at e
   have hd:=xL (P:=C.P) t x y (az.of_v (mb h hp) hu) (az.of_v (mb h hq) hu') e
   exact aM (by simp[execOp,hop]) (co.ofPV h hd) hk
  ·rename_i p q hp hq
   have r1:=cI h x
   have r2:=cI h y
   rw[hp]at r1;rw[hq]at r2
   exact aM (by simp[execOp,hop]) (co.ofPV h (Bw hC x y r1 r2 e)) hk
  ·simp at e
 case unOp op t x=>
  split at e
  ·rename_i p hp
   by_cases hu:p= .undef
   ·subst hu;exfalso;cases op<;>simp[JH]at e
   exact aM (by simp[execOp,hop]) (co.ofPV h (AY (P:=C.P) (az.of_v (mb h hp) hu) e)) hk
  ·simp at e
 case convert src dst x=>
  split at e
  ·rename_i p hp
   rcases ac e with⟨hc,e⟩|⟨_,e⟩
   ·by_cases hu:p= .undef
    ·subst hu;simp[gY]at e
    exact aM (by simp[execOp,hop]) (tM hC h hid (az.of_v (mb h hp) hu) e) hk
   ·by_cases hu:p= .undef
    ·subst hu;exfalso;unfold kV at e;split at e<;>simp_all [St.asList]
    exact aM (by simp[execOp,hop]) (co.ofPV h (vJ hC h (az.of_v (mb h hp) hu) e)) hk
  ·simp at e
 case makeFunc fn first captured=>
  cases fn<;>simp only[]at e<;>try (simp at e;done)
  rename_i f
  split at e
  ·rename_i h1
   have e1:first= #[]:=by simpa using h1
   have hd:=ol (C:=C) h e
   exact aM (X:=pure (.func (.func f) #[] (captured.toList.map a.eval).toArray)) (by
    have hm:(captured.toList.map a.eval).toArray=captured.map a.eval:=by apply Array.toList_inj.1;simp
    simp[execOp,hop,Instr.makeFunc,e1,hm]) hd hk
  ·simp at e
 case slice t x lo hi mx=>
  cases mx with
  |some _=>simp at e
  |none=>exact aM (by simp[execOp,hop]) (tV hC h x e) hk
 case fieldAddr t x f=>
  split at e
  ·rename_i p off size hp hf
   rcases ac e with⟨h1,e⟩|⟨_,e⟩
   ·split at e
    ·rename_i q hq
     by_cases hu:p= .undef
     ·subst hu;simp[oG]at hq
     obtain⟨b,q0,hv,hr⟩:=vG (az.of_v (mb h hp) hu) hq
     exact aM (X:=Instr.fieldAt t (a.eval x) f) (by simp[execOp,hop]) (co.pure h (by rw[hv];exact rq hC hf (Nat.le_of_ble_eq_true h1) b q0) (az.v hr) e) hk
    ·simp at e
   ·simp at e
  ·simp at e
 case field t x f=>
  split at e
  ·rename_i cs off size agg hp hf hg
   split at e
   ·rename_i c hcut
    have hr:=cI h x
    rw[hp]at hr
    obtain⟨vs,hv,hc⟩:=hr
    obtain⟨g1,g2,g3⟩:=aj.cut hc hcut
    have hrun:=Bg (w:=w) hC hf hg g3
    rcases ac e with⟨ha,e⟩|⟨ha,e⟩
    ·exact aM (X:=Instr.field t (a.eval x) f) (by simp[execOp,hop]) (co.pure (x:= .agg c) h (by rw[hv];exact hrun.1 ha) ⟨_,rfl,g1⟩ e) hk
    ·split at e
     ·rename_i c0 _
      rcases ac e with⟨hw,e⟩|⟨_,e⟩
      ·have hu:=aj.of_one g1
       have hl:=aN.length hu
       rw[Nat.eq_of_beq_eq_true hw]at hl
       obtain⟨y,hy⟩:=List.length_eq_one_iff.1 hl
       rw[hy]at hu
       exact aM (X:=Instr.field t (a.eval x) f) (by simp[execOp,hop]) (co.pure h (by rw[hv];exact hrun.2 ha y hy) (az.v hu) e) hk
      ·simp at e
     ·simp at e
   ·simp at e
  ·simp at e
 case indexAddr t x i=>
  have hi:(s.ev i).pv≠ .undef:=fun hh=>by rw[hh]at e;simp[cb]at e
  have hx:(s.ev x).pv≠ .undef:=fun hh=>by rw[hh]at e;unfold cb at e;split at e<;>simp at e
  have hd:=mV hC h (g7 h x rfl hx) (g7 h i rfl hi) e
  exact aM (by simp[execOp,hop]) (co.ofPV h hd) hk
 case index t x i=>
  have hi:(s.ev i).pv≠ .undef:=fun hh=>by rw[hh]at e;simp[lx]at e
  exact aM (by simp[execOp,hop]) (tW hC h (cI h x) (g7 h i rfl hi) e) hk
 case extract t i=>
  exact aM (by simp[execOp,hop]) (pL (P:=C.P) h (cI h t) e) hk
 case call c=>
  obtain⟨callee,args,argTypes⟩:=c
  have hargs:=t8 h args.toList
  have harr:(args.toList.map a.eval).toArray=args.map a.eval:=by apply Array.toList_inj.1;simp
  split at e
  ·rename_i f hcal
   simp only at hcal
   subst hcal
   exact Ac hC hE h hid0 hargs e hk (by rw[harr];simp[execOp,hop,resolve,Deferred.ofValue,invoke,Act.eval])
  ·rename_i f _ hcal
   simp only at hcal
   subst hcal
   unfold JI at e
   split at e
   ·rename_i g caps hp
    split at e
    ·rename_i ys hys
     have hr:=cI h f
     rw[hp]at hr
     obtain⟨us,hv,hT⟩:=az.of_v hr (by simp)
     simp only[List.cons.injEq,and_true]at hv
     exact Ac hC hE h hid0 (hargs.append (E0 hT hys)) e hk (by rw[←List.append_toArray,harr];simp[execOp,hop,resolve,Deferred.ofValue,invoke,hv])
    ·simp at e
   ·simp at e
  ·rename_i hcal
   simp only at hcal
   subst hcal
   split at e
   ·rename_i x t h1 h2
    have e1:args= #[x]:=by apply Array.toList_inj.1;simpa using h1
    have e2:argTypes= #[t]:=by apply Array.toList_inj.1;simpa using h2
    have hne:(s.ev x).pv≠ .undef:=fun hh=>by rw[hh]at e;simp[rx,St.asRow,St.asList]at e
    exact aM (by simp[execOp,hop,resolve,invoke,builtin,e1,e2]) (co.ofPV h (xX (ty:=o.type) hC h (g7 h x rfl hne) e)) hk
   ·simp at e
  ·rename_i hcal
   simp only at hcal
   subst hcal
   split at e
   ·rename_i x y t t' h1 h2
    have e1:args= #[x,y]:=by apply Array.toList_inj.1;simpa using h1
    have e2:argTypes= #[t,t']:=by apply Array.toList_inj.1;simpa using h2
    rcases ac e with⟨ht,e0⟩|⟨_,e0⟩
    ·have ht:t=t':=Nat.eq_of_beq_eq_true ht
     subst ht
     clear e
     have e:=e0
     have hne:=yp e
     exact aM (by simp[execOp,hop,resolve,invoke,builtin,e1,e2]) (rp (ty:=o.type) hC h hid (g7 h x rfl hne.1) (g7 h y rfl hne.2) e) hk
    ·simp at e0
   ·simp at e
  ·rename_i hcal
   simp only at hcal
   subst hcal
   split at e
   ·rename_i p hp
    obtain⟨v,h1,h2⟩:=yq (P:=C.P) (ats:=argTypes) (ty:=o.type) h hp
    rw[harr]at h1
    exact aM (X:=Builtin.max_ argTypes o.type (args.map a.eval)) (by simp[execOp,hop,resolve,invoke,builtin]) (co.pure h h1 (az.v h2) e) hk
   ·simp at e
  ·rename_i hcal
   simp only at hcal
   subst hcal
   split at e
   ·rename_i p hp
    obtain⟨v,h1,h2⟩:=yr (P:=C.P) (ats:=argTypes) (ty:=o.type) h hp
    rw[harr]at h1
    exact aM (X:=Builtin.min_ argTypes o.type (args.map a.eval)) (by simp[execOp,hop,resolve,invoke,builtin]) (co.pure h h1 (az.v h2) e) hk
   ·simp at e
  ·simp at e
end Go.Ps
