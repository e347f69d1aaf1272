import Derived.Test.YtijpmnicihmoaaaGreatDoorPsMa
namespace Go.Ps
set_option linter.unusedVariables false
variable {S S':Nat→Prop} {σ σ':Sg} {w w':World} {E:En} {G:Gh} {s s':St} {a:Act} {C:cr} {R:Type} {r:R}
variable {next:Act→World→Prop} {Q:Exit→Act→World→Prop} {o:Oper} {env:C.Env}
def KO (E:En) (a:Act) (s:St) (o:Oper) (k:SV→List cc→List Nat→Option R) (r:R) (next:Act→World→Prop):Prop:=
 ∀x v us rs G' w',aL (Gh.S G') (Gh.σ G') w' x v→aX E G' (s.upds us) a w'→k x us rs=some r→next (a.put o.dst v) w'
theorem bc {X:Sem Value} {k:SV→List cc→List Nat→Option R} (ho:execOp a.eval o=(do pure (.value (←X)))) (hd:cR E a C.P X w s k r) (hk:KO E a s o k r next):o.wp C.P a w next Q:=by
 obtain⟨x,v,us,rs,G',w',h1,h2,h3,h4⟩:=hd
 unfold Oper.wp
 rw[ho]
 simp only[Sem.run_bind,h1,Result.andThen_ok,Sem.run_pure]
 exact hk x v us rs G' w' h2 h3 h4
theorem mz (h:aX E G s a w) {x:Operand} {p:PV} (e:s.ev x= .v p):aL G.S G.σ w (.v p) (a.eval x):=by
 have:=dd h x;rwa [e]at this
theorem il (h:aX E G s a w) (x:Operand) {p:PV} (hp:(s.ev x).pv=p) (hne:p≠ .undef):bd G.S G.σ w p [a.eval x]:=by
 have hr:=dd h x
 cases hs:s.ev x with
 |v q=>rw[hs]at hr hp;simp only[SV.pv]at hp;subst hp;exact aL.of_v hr hne
 |agg _=>rw[hs]at hp;exact absurd hp.symm hne
 |tup _ _=>rw[hs]at hp;exact absurd hp.symm hne
theorem uT (h:aX E G s a w):∀(xs:List Operand),dM (fun x v=>aL G.S G.σ w x v) (xs.map s.ev) (xs.map a.eval)
 | []=> .nil
 |x::xs=> .cons (dd h x) (uT h xs)
theorem uU (h:aX E G s a w):∀(xs:List Operand),(∀x∈xs,(s.ev x).pv≠ .undef)→dM (fun p v=>bd G.S G.σ w p [v]) (xs.map fun x=>(s.ev x).pv) (xs.map a.eval)
 | [],_=> .nil
 |x::xs,hn=> .cons (il h x rfl (hn x (by simp))) (uU h xs fun y hy=>hn y (by simp[hy]))
theorem dM.append {α β:Type} {Q:α→β→Prop}:∀{xs xs':List α} {ys ys':List β},dM Q xs ys→dM Q xs' ys'→dM Q (xs++xs') (ys++ys')
 |_,_,_,_,.nil,h=>h
 |_,_,_,_,.cons h t,h'=> .cons h (t.append h')
theorem og (hC:C.OK) (hE:iI E.I C env) (h:aX E G s a w) {id:Nat} (hid:id%128=0) {f:FuncId} {xs:List SV} {vals:List Value} (hx:dM (fun x v=>aL G.S G.σ w x v) xs vals) {k:SV→List cc→List Nat→Option R}:
  ∀(gs:List Nat),(∀g∈gs,C.real g=f)→ki C env id s xs k gs=some r→
  (∃g sg,g∈gs∧C.sig g=some sg)∧Calls C.P f vals.toArray w fun e w'=>∃v x us rs G',e= .returned v∧aL (Gh.S G') (Gh.σ G') w' x v∧aX E G' (s.upds us) a w'∧k x us rs=some r
 | [],_,e=>by simp[ki]at e
 |g::gs,hg,e=>by
  have next:ki C env id s xs k gs=some r→_:=fun e=>by
   have:=og hC hE h hid hx gs (fun g hg'=>hg g (by simp[hg'])) e
   exact(⟨let⟨g,sg,h1,h2⟩:=this.1;⟨g,sg,by simp[h1],h2⟩,this.2⟩:(∃g' sg,g'∈g::gs∧C.sig g'=some sg)∧Calls C.P f vals.toArray w fun e w'=>∃v x us rs G',e= .returned v∧aL (Gh.S G') (Gh.σ G') w' x v∧aX E G' (s.upds us) a w'∧k x us rs=some r)
  simp only[ki]at e
  split at e
  ·rename_i sg hsg
   split at e
   ·rename_i A hA
    refine⟨⟨g,sg,by simp,hsg⟩, ?_⟩
    have:=wY hC hE h hid hsg hx hA e
    rw[hg g (by simp)]at this
    exact this
   ·exact next e
  ·exact next e
theorem AY (hC:C.OK) (hE:iI E.I C env) (h:aX E G s a w) {id:Nat} (hid:id%128=0) {f:FuncId} {xs:List SV} {vals:List Value} (hx:dM (fun x v=>aL G.S G.σ w x v) xs vals) {k:SV→List cc→List Nat→Option R} (e:jH C env id s f xs k=some r) (hk:KO E a s o k r next)
  (hrun:(execOp a.eval o).run C.P w=(callFunc f vals.toArray).run C.P w):o.wp C.P a w next Q:=by
 obtain⟨⟨g,sg,hg,hsg⟩,hcall⟩:=og hC hE h hid hx (C.alts f) (fun g hg=>hC.alts f g hg) e
 unfold Oper.wp
 rw[hrun,←hC.alts f g hg,ux hC hsg,Oper.upon_enter]
 rw[hC.alts f g hg]
 refine hcall.mono ?_
 rintro en w' ⟨v,x,us,rs,G',rfl,h1,h2,h3⟩
 exact hk x v us rs G' w' h1 h2 h3
theorem za {id:Nat} {sl:TypeId} {x y:PV} {k:PV→List cc→Option R} (e:ej C s id sl x y k=some r):x≠ .undef∧y≠ .undef:=by
 unfold ej at e
 split at e
 ·split at e
  ·rcases ai e with⟨_,e⟩|⟨_,e⟩
   ·split at e
    ·rename_i hm
     refine⟨fun hx=> ?_,fun hy=> ?_⟩
     ·subst hx
      unfold oH at hm
      split at hm
      ·split at hm
       ·rcases ai hm with⟨_,hm⟩|⟨_,hm⟩
        ·split at hm<;>simp at hm
        ·simp at hm
       ·rcases ai hm with⟨_,hm⟩|⟨_,hm⟩
        ·split at hm<;>simp at hm
        ·simp at hm
       ·simp at hm
      ·simp at hm
     ·subst hy;simp[oH]at hm
    split at e
    ·rename_i hm
     refine⟨fun hx=> ?_,fun hy=> ?_⟩
     ·subst hx;simp at e
     ·subst hy;simp[lQ,St.asList]at hm
    ·simp at e
   ·simp at e
  ·simp at e
 ·simp at e
theorem AZ:∀{ps:List PV} {kd:IntKind} {x:Int} {p:PV},yY kd x ps=some p→∀q∈ps,q≠ .undef
 | [],_,_,_,_,q,h=>by simp at h
 |q::ps,kd,x,p,e,q',h=>by
  cases q<;>simp only[yY]at e<;>try (simp at e;done)
  rcases List.mem_cons.1 h with rfl|h
  ·simp
  ·exact AZ e q' h
theorem A0:∀{ps:List PV} {kd:IntKind} {x:Int} {p:PV},yZ kd x ps=some p→∀q∈ps,q≠ .undef
 | [],_,_,_,_,q,h=>by simp at h
 |q::ps,kd,x,p,e,q',h=>by
  cases q<;>simp only[yZ]at e<;>try (simp at e;done)
  rcases List.mem_cons.1 h with rfl|h
  ·simp
  ·exact A0 e q' h
theorem zb {P:Program} (h:aX E G s a w) {xs:List Operand} {ats:Array TypeId} {ty:TypeId} {p:PV} (e:I7 (xs.map fun x=>(s.ev x).pv)=some p):∃v,(Builtin.max_ ats ty (xs.map a.eval).toArray).run P w= .ok v w∧bd G.S G.σ w p [v]:=by
 cases xs with
 |nil=>simp[I7]at e
 |cons x xs=>
  simp only[List.map_cons]at e⊢
  cases hx:(s.ev x).pv<;>rw[hx]at e<;>simp only[I7]at e<;>try (simp at e;done)
  have hv:=fh (x:= .undef) (il h x hx (by simp))
  obtain⟨v,h1,h2⟩:=yO (P:=P) _ _ _ _ _ (uU h xs fun y hy=>AZ e _ (List.mem_map.2 ⟨y,hy,rfl⟩)) e
  exact⟨v,by simp only[Builtin.max_,hv];exact h1,h2⟩
theorem zc {P:Program} (h:aX E G s a w) {xs:List Operand} {ats:Array TypeId} {ty:TypeId} {p:PV} (e:I8 (xs.map fun x=>(s.ev x).pv)=some p):∃v,(Builtin.min_ ats ty (xs.map a.eval).toArray).run P w= .ok v w∧bd G.S G.σ w p [v]:=by
 cases xs with
 |nil=>simp[I8]at e
 |cons x xs=>
  simp only[List.map_cons]at e⊢
  cases hx:(s.ev x).pv<;>rw[hx]at e<;>simp only[I8]at e<;>try (simp at e;done)
  have hv:=fh (x:= .undef) (il h x hx (by simp))
  obtain⟨v,h1,h2⟩:=yP (P:=P) _ _ _ _ _ (uU h xs fun y hy=>A0 e _ (List.mem_map.2 ⟨y,hy,rfl⟩)) e
  exact⟨v,by simp only[Builtin.min_,hv];exact h1,h2⟩
theorem F8 {caps:List rO} {us:List Value} {ys:List SV} (hc:eQ S σ w caps us) (e:nt caps=some ys):dM (fun x v=>aL S σ w x v) ys us:=by
 induction caps generalizing us ys with
 |nil=>cases hc;simp only[nt,aa]at e;subst e;exact .nil
 |cons c caps ih=>
  obtain⟨v,us,rfl,h1,h2⟩:=hc
  simp only[nt]at e
  split at e
  ·rename_i x xs hx hxs
   simp only[aa]at e
   subst e
   refine .cons ?_ (ih h2 hxs)
   cases c with
   |dat τ d=>
    rcases n7 hx with⟨ha,_⟩|⟨_,c,e1,e2,rfl⟩
    ·simp at ha
    ·have:=cL (σ:=σ) _ _ _ (show aH S w τ d [v] from h1)
     rw[e1]at this
     exact aL.v (ar.of_one this)
   |agg τ d=>
    simp only[rO.sv,aa]at hx;subst hx
    obtain⟨us,rfl,h1⟩:=h1
    exact⟨us,rfl,cL _ _ _ h1⟩
   |cref τ d=>
    simp only[rO.sv,aa]at hx;subst hx
    obtain⟨b,o,us,hb,hr,ht,rfl⟩:=h1
    exact aL.v ⟨b,o,us,hb,hr,ht,rfl⟩
   |ref id=>
    simp only[rO.sv,aa]at hx;subst hx
    obtain⟨L,b,o,hL,hv,rfl⟩:=h1
    exact aL.v (p:= .ptr id (.at 0)) ⟨L,b,o,hL,hv,trivial,by rw[hv];simp[d7.off]⟩
  ·simp at e
theorem Cr (h:aX E G s a w) {S1:Nat→Prop} (hS:∀b,G.S b→S1 b) {p:PK} {x:SV} {v:Value} {c:rO} {is:List Nat} (hx:aL G.S G.σ w x v) (e:tA s p x=some (c,is)) (hV:∀i∈is,∀k∈G.β i,S1 k):jZ S1 G.σ w c v:=by
 have pvr:∀{p:PV},x.pv=p→p≠ .undef→bd G.S G.σ w p [v]:=by
  intro p hp hne
  cases x with
  |v q=>simp only[SV.pv]at hp;subst hp;exact aL.of_v hx hne
  |agg _=>exact absurd hp.symm hne
  |tup _ _=>exact absurd hp.symm hne
 cases p<;>simp only[tA]at e<;>try (simp at e;done)
 case val τ=>
  split at e
  ·rename_i cs hc
   split at e
   ·rename_i d hd
    split at e
    ·rename_i y hy
     simp only[aa,ax]at e
     obtain⟨rfl,rfl⟩:=e
     have ht:=bK (dj (σ':=G.σ) h hS hV (dp hx hc)) hd
     have hv:=AO hx hc
     cases ha:x.isA with
     |true=>exact⟨v.cells.toList,hv.1 ha,ht⟩
     |false=>rw[hv.2 ha]at ht;exact ht
    ·simp at e
   ·simp at e
  ·simp at e
 case ro τ=>
  split at e
  ·rename_i id hp
   split at e
   ·rename_i cs hb
    split at e
    ·rename_i d hd
     simp only[aa,ax]at e
     obtain⟨rfl,rfl⟩:=e
     obtain⟨L,b,o,hL,hv,_,hx1⟩:=pvr hp (by simp)
     simp only[aG,and_true,d7.off,Nat.add_zero]at hx1
     have key:∃vs,ar G.S G.σ w cs vs∧w.rangeAt b o vs∧S1 b:=by
      unfold od at hb
      split at hb
      ·rename_i cs' hm
       simp only[aa]at hb;subst hb
       obtain⟨L',hL',b',o',vs,hv',hc,hr,_,hβ⟩:=h.mem id _ hm
       rw[hL]at hL';simp only[aa]at hL';subst hL'
       rw[hv]at hv'
       simp only[Value.pointer.injEq,aa,Addr.mk.injEq,and_true]at hv'
       obtain⟨rfl,rfl⟩:=hv'
       exact⟨vs,hc,hr,hV id (by simp) b (by simp[hβ])⟩
      ·rename_i cs' hm
       simp only[aa]at hb;subst hb
       obtain⟨L',hL',_,b',o',vs,hv',hs,hc,hr⟩:=h.mem id _ hm
       rw[hL]at hL';simp only[aa]at hL';subst hL'
       rw[hv]at hv'
       simp only[Value.pointer.injEq,aa,Addr.mk.injEq,and_true]at hv'
       obtain⟨rfl,rfl⟩:=hv'
       exact⟨vs,hc,hr,hS b hs⟩
      ·simp at hb
     obtain⟨vs,hc,hr,hb1⟩:=key
     exact⟨b,o,vs,hb1,hr,bK (dj (σ':=G.σ) h hS (fun i hi=>hV i (by simp[hi])) hc) hd,hx1⟩
    ·simp at e
   ·simp at e
  ·rename_i τ' d hp
   simp only[aa,ax]at e
   obtain⟨rfl,rfl⟩:=e
   obtain⟨b,o,us,hb,hr,ht,hx1⟩:=pvr hp (by simp)
   simp only[aG,and_true]at hx1
   exact⟨b,o,us,hS b hb,hr,aH.keep hS (fun _ _=>rfl) _ _ _ ht,by rw[hx1];simp⟩
  ·simp at e
 case var τ f=>
  split at e
  ·rename_i id hp
   simp only[aa,ax]at e
   obtain⟨rfl,rfl⟩:=e
   obtain⟨L,b,o,hL,hv,_,hx1⟩:=pvr hp (by simp)
   simp only[aG,and_true,d7.off,Nat.add_zero]at hx1
   exact⟨L,b,o,hL,hv,by rw[hx1,hv]⟩
  ·simp at e
theorem qy (h:aX E G s a w) {S1:Nat→Prop} (hS:∀b,G.S b→S1 b):∀{ps:List PK} {xs:List SV} {vs:List Value} {cs:List rO} {is:List Nat},dM (fun x v=>aL G.S G.σ w x v) xs vs→fY s ps xs=some (cs,is)→(∀i∈is,∀k∈G.β i,S1 k)→eQ S1 G.σ w cs vs
 | [],_,_,cs,is,.nil,e,_=>by simp only[fY,aa,ax]at e;obtain⟨rfl,rfl⟩:=e;rfl
 | [],_,_,cs,is,.cons _ _,e,_=>by simp[fY]at e
 |_::_,_,_,cs,is,.nil,e,_=>by simp[fY]at e
 |p::ps,_,_,cs,is,.cons hx ht,e,hV=>by
  simp only[fY]at e
  split at e
  ·rename_i c i cs' is' h1 h2
   simp only[aa,ax]at e
   obtain⟨rfl,rfl⟩:=e
   exact⟨_,_,rfl,Cr h hS hx h1 fun i hi=>hV i (by simp[hi]),qy h hS ht h2 fun i hi=>hV i (by simp[hi])⟩
  ·simp at e
theorem oK (h:aX E G s a w) {f:FuncId} {xs:List Operand} {k:SV→List cc→List Nat→Option R} (e:dP C s f (xs.map s.ev) (fun p us rs=>k (.v p) us rs)=some r):
  cR E a C.P (pure (.func (.func f) #[] (xs.map a.eval).toArray)) w s k r:=by
 unfold dP at e
 split at e
 ·split at e
  ·split at e
   ·rename_i cs is hcs
    rcases ai e with⟨hp,e⟩|⟨_,e⟩
    ·obtain⟨G',g1,g2,g3,_,_,g6⟩:=h.frzs is (wW hp)
     refine⟨.v (.fn f cs),_,is.map .frz,is,G',w,rfl,aL.v ⟨xs.map a.eval,rfl, ?_⟩,g6,e⟩
     rw[g1]
     exact qy h g2 (uT h xs) hcs g3
    ·simp at e
   ·simp at e
  ·simp at e
 ·split at e
  ·rename_i hx
   have:xs=[]:=by simpa using hx
   subst this
   exact⟨.v (.fn f []),_,[],[],G,w,rfl,aL.v ⟨[],rfl,rfl⟩,h,e⟩
  ·simp at e
theorem F9 (hC:C.OK) (hE:iI E.I C env) (h:aX E G s a w) {id:Nat} (hid0:id%128=0) {k:SV→List cc→List Nat→Option R} (e:y6 C env id o.op s k=some r) (hk:KO E a s o k r next):o.wp C.P a w next Q:=by
 have hid:id%128<64:=by omega
 have pure1:∀{x:SV} {v:Value} {rs:List Nat},execOp a.eval o=pure (.value v)→aL G.S G.σ w x v→k x [] rs=some r→o.wp C.P a w next Q:=by
  intro x v rs ho hx e
  unfold Oper.wp
  rw[ho]
  simp only[Sem.run_pure]
  exact hk x v [] rs G w hx h e
 cases hop:o.op<;>rw[hop]at e<;>simp only[y6]at e<;>try (simp at e;done)
 case move x=>exact pure1 (by simp[execOp,hop]) (dd h x) e
 case assign x=>exact pure1 (by simp[execOp,hop]) (dd h x) e
 case pick c x y=>
  have hd:=wC (P:=C.P) h (dd h c) (dd h x) (dd h y) e
  exact bc (by simp[execOp,hop]) hd hk
 case alloc t=>
  split at e
  ·rename_i I hI
   exact bc (by simp[execOp,hop]) (wb hC h hI hid e) hk
  ·simp at e
 case box t x=>
  split at e
  ·rename_i I cs hI hcs
   rcases ai e with⟨_,e⟩|⟨_,e⟩
   ·exact bc (by simp[execOp,hop]) (BT (t:=t) h hid (dd h x) hcs e) hk
   ·simp at e
  ·simp at e
 case build t ps=>exact bc (by simp[execOp,hop]) (wD hC h e) hk
 case buildSlice t n ps=>
  split at e
  ·rename_i q _ _ _ _ _ hI
   split at e
   ·rename_i Q' hQ
    split at e
    ·rename_i b hdp
     rcases ai e with⟨hb,e⟩|⟨_,e⟩
     ·simp only[ay]at hb
      obtain⟨⟨h1,h2⟩,h3⟩:=hb
      obtain⟨hm,e⟩:=bi e
      exact bc (by simp[execOp,hop]) (w7 hC h hI rfl hQ hid hdp (aQ h1) (bB h2) (bB h3) hm e) hk
     ·simp at e
    split at e
    ·rename_i xs hxs
     rcases ai e with⟨hb,e⟩|⟨_,e⟩
     ·simp only[ay]at hb
      obtain⟨⟨h1,h2⟩,h3⟩:=hb
      obtain⟨hm,e⟩:=bi e
      exact bc (by simp[execOp,hop]) (nk hC h hI rfl hQ hid hxs (aQ h1) (bB h2) (bB h3) hm e) hk
     ·simp at e
    ·simp at e
   ·simp at e
  ·simp at e
 case makeSlice t n c=>
  rcases ai e with⟨hs,e⟩|⟨_,e⟩
  ·have hnc:a.eval c=a.eval n:=by
    unfold Kk at hs
    split at hs
    ·rw[aQ hs]
    ·simp only[ay,aV]at hs;rw[hs.1,hs.2]
    ·simp at hs
   have hne:(s.ev n).pv≠ .undef:=fun hh=>by rw[hh]at e;unfold cU at e;split at e<;>simp_all
   exact bc (by simp[execOp,hop,hnc]) (nc hC h hid (il h n rfl hne) e) hk
  ·simp at e
 case load t x=>
  split at e
  ·rename_i p hp
   by_cases hu:p= .undef
   ·subst hu;exfalso;unfold lm at e;split at e<;>simp[St.look,qo]at e
   ·exact bc (by simp[execOp,hop]) (wZ hC h hid0 (aL.of_v (mz h hp) hu) e) hk
  ·simp at e
 case store t x y=>
  split at e
  ·rename_i p hp
   by_cases hu:p= .undef
   ·subst hu;exfalso;unfold ig at e;split at e<;>simp at e
   ·obtain⟨G',us,rs,w',h1,h2,h3⟩:=uL hC h (aL.of_v (mz h hp) hu) (dd h y) e
    unfold Oper.wp
    have:execOp a.eval o=(do Instr.storeAt t (a.eval x) (a.eval y);pure .skip):=by simp[execOp,hop]
    rw[this]
    simp only[Sem.run_bind,h1,Result.andThen_ok,Sem.run_pure]
    exact hk (.v .undef) undef us rs G' w' trivial h2 h3
  ·simp at e
 case nilCheck x=>
  split at e
  ·rename_i i j hp
   have hr:=mz h hp
   obtain⟨L,b,q,_,_,_,hv⟩:=aL.of_v hr (by simp)
   simp only[aG,and_true]at hv
   rw[hv]at hr
   exact pure1 (by simp[execOp,hop,hv]) hr e
  ·rename_i i j q hp
   have hr:=mz h hp
   obtain⟨L,b,n,c,_,_,_,_,_,hv⟩:=aL.of_v hr (by simp)
   simp only[aG,and_true]at hv
   rw[hv]at hr
   exact pure1 (by simp[execOp,hop,hv]) hr e
  ·rename_i τ x' q hp
   have hr:=mz h hp
   obtain⟨b,n,us,hS,h0,h1,hv⟩:=aL.of_v hr (by simp)
   simp only[aG,and_true]at hv
   rw[hv]at hr
   exact pure1 (by simp[execOp,hop,hv]) hr e
  ·simp at e
 case binOp op t x y yt=>
  split at e
  ·rename_i p q hp hq
   have hd:=v7 hC x y (aL.of_v (mz h hp) (by simp)) (aL.of_v (mz h hq) (by simp)) e
   exact bc (by simp[execOp,hop]) (cR.ofPV h hd) hk
  ·rename_i p q _ hp hq
   by_cases hu:p= .undef
   ·subst hu;simp[uQ]at e
   by_cases hu':q= .undef
   ·subst hu';exfalso;cases p<;>simp[uQ]at e
   have hd:=yB (P:=C.P) t x y (aL.of_v (mz h hp) hu) (aL.of_v (mz h hq) hu') e
   exact bc (by simp[execOp,hop]) (cR.ofPV h hd) hk
  ·rename_i p q hp hq
   have r1:=dd h x
   have r2:=dd h y
   rw[hp]at r1;rw[hq]at r2
   exact bc (by simp[execOp,hop]) (cR.ofPV h (Cp hC x y r1 r2 e)) hk
  ·simp at e
 case unOp op t x=>
  split at e
  ·rename_i p hp
   by_cases hu:p= .undef
   ·subst hu;exfalso;cases op<;>simp[KK]at e
   exact bc (by simp[execOp,hop]) (cR.ofPV h (BQ (P:=C.P) (aL.of_v (mz h hp) hu) e)) hk
  ·simp at e
 case convert src dst x=>
  split at e
  ·rename_i p hp
   rcases ai e with⟨hc,e⟩|⟨_,e⟩
   ·by_cases hu:p= .undef
    ·subst hu;simp[ij]at e
    exact bc (by simp[execOp,hop]) (uC hC h hid (aL.of_v (mz h hp) hu) e) hk
   ·by_cases hu:p= .undef
    ·subst hu;exfalso;unfold lr at e;split at e<;>simp_all [St.asList]
    exact bc (by simp[execOp,hop]) (cR.ofPV h (wB hC h (aL.of_v (mz h hp) hu) e)) hk
  ·simp at e
 case makeFunc fn first captured=>
  cases fn<;>simp only[]at e<;>try (simp at e;done)
  rename_i f
  split at e
  ·rename_i h1
   have e1:first= #[]:=by simpa using h1
   have hd:=oK (C:=C) h e
   exact bc (X:=pure (.func (.func f) #[] (captured.toList.map a.eval).toArray)) (by
    have hm:(captured.toList.map a.eval).toArray=captured.map a.eval:=by apply Array.toList_inj.1;simp
    simp[execOp,hop,Instr.makeFunc,e1,hm]) hd hk
  ·simp at e
 case slice t x lo hi mx=>
  cases mx with
  |some _=>simp at e
  |none=>exact bc (by simp[execOp,hop]) (uM hC h x e) hk
 case fieldAddr t x f=>
  split at e
  ·rename_i p off size hp hf
   rcases ai e with⟨h1,e⟩|⟨_,e⟩
   ·split at e
    ·rename_i q hq
     by_cases hu:p= .undef
     ·subst hu;simp[o3]at hq
     obtain⟨b,q0,hv,hr⟩:=wz (aL.of_v (mz h hp) hu) hq
     exact bc (X:=Instr.fieldAt t (a.eval x) f) (by simp[execOp,hop]) (cR.pure h (by rw[hv];exact sk hC hf (bB h1) b q0) (aL.v hr) e) hk
    ·simp at e
   ·simp at e
  ·simp at e
 case field t x f=>
  split at e
  ·rename_i cs off size agg hp hf hg
   split at e
   ·rename_i c hcut
    have hr:=dd h x
    rw[hp]at hr
    obtain⟨vs,hv,hc⟩:=hr
    obtain⟨g1,g2,g3⟩:=ar.cut hc hcut
    have hrun:=Ca (w:=w) hC hf hg g3
    rcases ai e with⟨ha,e⟩|⟨ha,e⟩
    ·exact bc (X:=Instr.field t (a.eval x) f) (by simp[execOp,hop]) (cR.pure (x:= .agg c) h (by rw[hv];exact hrun.1 ha) ⟨_,rfl,g1⟩ e) hk
    ·split at e
     ·rename_i c0 _
      rcases ai e with⟨hw,e⟩|⟨_,e⟩
      ·have hu:=ar.of_one g1
       have hl:=bd.length hu
       rw[aQ hw]at hl
       obtain⟨y,hy⟩:=List.length_eq_one_iff.1 hl
       rw[hy]at hu
       exact bc (X:=Instr.field t (a.eval x) f) (by simp[execOp,hop]) (cR.pure h (by rw[hv];exact hrun.2 ha y hy) (aL.v hu) e) hk
      ·simp at e
     ·simp at e
   ·simp at e
  ·simp at e
 case indexAddr t x i=>
  have hi:(s.ev i).pv≠ .undef:=fun hh=>by rw[hh]at e;simp[cH]at e
  have hx:(s.ev x).pv≠ .undef:=fun hh=>by rw[hh]at e;unfold cH at e;split at e<;>simp at e
  have hd:=nl hC h (il h x rfl hx) (il h i rfl hi) e
  exact bc (by simp[execOp,hop]) (cR.ofPV h hd) hk
 case index t x i=>
  have hi:(s.ev i).pv≠ .undef:=fun hh=>by rw[hh]at e;simp[lR]at e
  exact bc (by simp[execOp,hop]) (uN hC h (dd h x) (il h i rfl hi) e) hk
 case extract t i=>
  exact bc (by simp[execOp,hop]) (qj (P:=C.P) h (dd h t) e) hk
 case call c=>
  obtain⟨callee,args,argTypes⟩:=c
  have hargs:=uT h args.toList
  have harr:(args.toList.map a.eval).toArray=args.map a.eval:=by apply Array.toList_inj.1;simp
  split at e
  ·rename_i f hcal
   simp only at hcal
   subst hcal
   exact AY hC hE h hid0 hargs e hk (by rw[harr];simp[execOp,hop,resolve,Deferred.ofValue,invoke,Act.eval])
  ·rename_i f _ hcal
   simp only at hcal
   subst hcal
   unfold IF at e
   split at e
   ·rename_i g caps hp
    split at e
    ·rename_i ys hys
     have hr:=dd h f
     rw[hp]at hr
     obtain⟨us,hv,hT⟩:=aL.of_v hr (by simp)
     simp only[aG,and_true]at hv
     replace e:=(ai e).elim (fun x=>x.2) (fun x=>by have:=x.2;simp at this)
     exact AY hC hE h hid0 (hargs.append (F8 hT hys)) e hk (by rw[←List.append_toArray,harr];simp[execOp,hop,resolve,Deferred.ofValue,invoke,hv])
    ·simp at e
   ·simp at e
  ·rename_i hcal
   simp only at hcal
   subst hcal
   split at e
   ·rename_i x t h1 h2
    have e1:args= #[x]:=by apply Array.toList_inj.1;simpa using h1
    have e2:argTypes= #[t]:=by apply Array.toList_inj.1;simpa using h2
    have hne:(s.ev x).pv≠ .undef:=fun hh=>by rw[hh]at e;simp[sq,St.asRow,St.asList]at e
    exact bc (by simp[execOp,hop,resolve,invoke,builtin,e1,e2]) (cR.ofPV h (yN (ty:=o.type) hC h (il h x rfl hne) e)) hk
   ·simp at e
  ·rename_i hcal
   simp only at hcal
   subst hcal
   split at e
   ·rename_i x y t t' h1 h2
    have e1:args= #[x,y]:=by apply Array.toList_inj.1;simpa using h1
    have e2:argTypes= #[t,t']:=by apply Array.toList_inj.1;simpa using h2
    rcases ai e with⟨ht,e0⟩|⟨_,e0⟩
    ·have ht:t=t':=aQ ht
     subst ht
     clear e
     have e:=e0
     have hne:=za e
     exact bc (by simp[execOp,hop,resolve,invoke,builtin,e1,e2]) (sj (ty:=o.type) hC h hid (il h x rfl hne.1) (il h y rfl hne.2) e) hk
    ·simp at e0
   ·simp at e
  ·rename_i hcal
   simp only at hcal
   subst hcal
   split at e
   ·rename_i p hp
    obtain⟨v,h1,h2⟩:=zb (P:=C.P) (ats:=argTypes) (ty:=o.type) h hp
    rw[harr]at h1
    exact bc (X:=Builtin.max_ argTypes o.type (args.map a.eval)) (by simp[execOp,hop,resolve,invoke,builtin]) (cR.pure h h1 (aL.v h2) e) hk
   ·simp at e
  ·rename_i hcal
   simp only at hcal
   subst hcal
   split at e
   ·rename_i p hp
    obtain⟨v,h1,h2⟩:=zc (P:=C.P) (ats:=argTypes) (ty:=o.type) h hp
    rw[harr]at h1
    exact bc (X:=Builtin.min_ argTypes o.type (args.map a.eval)) (by simp[execOp,hop,resolve,invoke,builtin]) (cR.pure h h1 (aL.v h2) e) hk
   ·simp at e
  ·simp at e
end Go.Ps
